import Derived.Test.YtjcomcgpjjianaaA9
import Derived.Test.YtjcomcgpjjianaaA19
import Derived.Test.YtjcomcgpjjianaaA23
set_option linter.all false
set_option maxHeartbeats 16000000
set_option maxRecDepth 8000
open Go.Value renaming int→O
open Go.IntKind renaming i64→U
namespace Go.Proofs.Ytjcomcgpjjianaa
open Go.Ev
def put'(a c:Int):List (Int×Int)->List (Int×Int)
 | []=>[(a,c)]
 | (x,y)::r=>if(a==x)=true then(a,c)::r else(x,y)::put' a c r
theorem vZ(a c:Int): ∀(ms:List (Int×Int)) (k:Nat),(match cE a ms k with|some (i,_)=>ms.set (i-k) (a,c)|none=>ms++[(a,c)])=put' a c ms
 | [],_=>rfl
 | (x,y)::r,k=>by
   simp only[cE,put']
   by_cases h:(a==x)=true
   ·rw[if_pos h,if_pos h];simp
   ·rw[if_neg h,if_neg h]
    have ih:=vZ a c r (k+1)
    cases hl:cE a r (k+1)with
    |none=>rw[hl]at ih;simp only at ih⊢;rw[List.cons_append,ih]
    |some p=>
     obtain⟨i,d⟩:=p
     have:=(ph a r (k+1) i d hl).1
     rw[hl]at ih;simp only at ih⊢
     rw[show i-k=(i-(k+1))+1 by omega,List.set_cons_succ,ih]
theorem B2(ms:List (Int×Int))(a c:Int):kj ms a c=put' a c ms:=vZ a c ms 0
theorem sX(a:Int): ∀(ms:List (Int×Int)) (i j:Nat),(cE a ms i).map (·.2)=(cE a ms j).map (·.2)
 | [],_,_=>rfl
 | (x,y)::r,i,j=>by
   simp only[cE];split
   ·rfl
   ·exact sX a r _ _
theorem i8(a x y:Int)(r:List (Int×Int)):look ((x,y)::r) a=if(a==x)=true then some y else look r a:=by
 unfold look
 simp only[cE];split
 ·rfl
 ·exact sX a r _ _
theorem zi(a c b:Int): ∀ms:List (Int×Int),look (kj ms a c) b=if b=a then some c else look ms b:=by
 intro ms
 rw[B2]
 induction ms with
 |nil=>
  rw[put',i8]
  by_cases h:b=a
  ·simp[h]
  ·have:(b==a)=false:=by simpa using h
   rw[this,if_neg h];rfl
 |cons p r ih=>
  obtain⟨x,y⟩:=p
  rw[put']
  by_cases h:a=x
  ·subst h
   rw[if_pos (by simp),i8,i8]
   by_cases hb:b=a<;>simp[hb]
  ·have hx:(a==x)=false:=by simpa using h
   rw[hx,if_neg (by simp),i8,ih,i8]
   by_cases hb:b=a
   ·subst hb;rw[hx];simp
   ·simp[hb]
def dz(ms:List (Int×Int))(a:Int):Int:=(look ms a).getD 0
theorem pS{ms:List (Int×Int)}{a:Int}(h0:0<=dz ms a)(h:dz ms a<1000000)(b:Int):dz (iK ms a) b=dz ms b+if b=a then 1 else 0:=by
 unfold iK dz at*
 rw[zi]
 by_cases e:b=a
 ·subst e
  rw[if_pos rfl,if_pos rfl,Option.getD_some,EP];omega
 ·rw[if_neg e,if_neg e];omega
theorem m9: ∀(L:List Int) (ms:List (Int×Int)),(∀b,0<=dz ms b/\dz ms b+L.length<1000000)-> ∀b,dz (L.foldl iK ms) b=dz ms b+(L.count b:Int)
 | [],ms,_,b=>by simp
 |a::L,ms,h,b=>by
  have ha:=h a
  rw[List.length_cons]at ha
  have hb:=pS (b:=b) ha.1 (by omega)
  rw[List.foldl_cons,m9 L (iK ms a) (fun c=>by
   have hc:=h c
   rw[List.length_cons]at hc
   rw[pS ha.1 (by omega)]
   split
   ·rename_i e;subst e;omega
   ·omega),hb,List.count_cons]
  by_cases e:b=a
  ·subst e;simp;omega
  ·have:(a==b)=false:=by simp;exact fun x=>e x.symm
   simp[e,this]
def nu(x:Cr)(e:Bool)(L:List Nat):List Int:=(L.filter fun q:Nat=>cS x.s q==e).map fun q=>x.arc q
theorem Al(n:Nat)(x:Cr): ∀(L:List Nat) (s:List (Int×Int)×List (Int×Int)),qGo n x L s=if(L.all fun q=> !gA n (x.arc q))=true then some ((nu x false L).foldl iK s.1,(nu x true L).foldl iK s.2)else none
 | [],s=>rfl
 |q::L,s=>by
  simp only[qGo,List.all_cons]
  by_cases hb:gA n (x.arc q)=true
  ·rw[if_pos hb];simp[hb]
  ·rw[if_neg hb,Al n x L,Al n x L]
   have hb':gA n (x.arc q)=false:=by simpa using hb
   by_cases hc:cS x.s q=true
   ·rw[if_pos hc];simp[nu,hc,hb']
   ·have hc':cS x.s q=false:=by simpa using hc
    rw[if_neg hc];simp[nu,hc',hb']
def uJ(n:Nat)(x:Cr):Bool:= !(x.s !=1&&x.s != -1)&&(List.range' 0 4).all fun q=> !gA n (x.arc q)
def gW(l:List Cr)(e:Bool):List Int:=l.flatMap fun x=>nu x e (List.range' 0 4)
theorem BU(n:Nat): ∀(l:List Cr) (s:List (Int×Int)×List (Int×Int)),pK n l s=if l.all (uJ n)=true then some ((gW l false).foldl iK s.1,(gW l true).foldl iK s.2)else none
 | [],s=>rfl
 |x::l,s=>by
  simp only[pK,List.all_cons,uJ]
  by_cases hs:(x.s !=1&&x.s != -1)=true
  ·rw[if_pos hs];simp[hs]
  ·have hs':(x.s !=1&&x.s != -1)=false:=by simpa using hs
   rw[if_neg hs,Al]
   by_cases ha:((List.range' 0 4).all fun q=> !gA n (x.arc q))=true
   ·rw[if_pos ha,Option.bind_some,BU n l]
    simp only[gW,FG,Hs,hs',ha]
    simp
   ·rw[if_neg ha]
    have ha':((List.range' 0 4).all fun q=> !gA n (x.arc q))=false:=by simpa using ha
    simp only[hs',ha']
    simp
theorem Bl{x:Cr}(h:x.s=1\/x.s= -1)(e:Bool):(nu x e (List.range' 0 4)).length=2:=by
 unfold nu
 rw[Fl]
 rcases h with h|h<;>rw[h]<;>cases e<;>decide
theorem jd: ∀{l:List Cr},(∀x∈l,x.s=1\/x.s= -1)-> ∀e,(gW l e).length=2*l.length
 | [],_,_=>rfl
 |x::l,h,e=>by
  have:=jd (l:=l) (fun y hy=>h y (by simp[hy])) e
  simp only[gW,FG,Ez,List.length_cons]at this⊢
  rw[Bl (h x (by simp)) e,this];omega
theorem wf{l:List Cr}{e:Bool}{a:Int}:a∈gW l e↔ ∃p,kT l a e p:=by
 simp only[gW,Fi,nu,E9,Fb,GS,beq_iff_eq]
 constructor
 ·rintro⟨x,hx,q,⟨⟨i,hi,rfl⟩,hc⟩,ha⟩
  obtain⟨j,hj⟩:=Gs hx
  exact⟨(j,0+1*i),x,hj,by simp;omega,ha,hc⟩
 ·rintro⟨p,x,hx,hq,ha,hc⟩
  exact⟨x,EE hx,p.2,⟨⟨p.2,hq,by omega⟩,hc⟩,ha⟩
theorem pz{n:Nat}{x:Cr}:uJ n x=true↔(x.s=1\/x.s= -1)/\ ∀q,q<4->0<=x.arc q/\x.arc q<2*n:=by
 unfold uJ
 rw[EC,EI]
 constructor
 ·rintro⟨h1,h2⟩
  refine⟨?_,fun q hq=> ?_⟩
  ·by_cases e:x.s=1
   ·exact .inl e
   ·by_cases e2:x.s= -1
    ·exact .inr e2
    ·simp[e,e2]at h1
  ·have:=h2 q (by rw[GS];exact⟨q,hq,by omega⟩)
   simp only[gA,Fk,Ga,decide_eq_false_iff_not]at this
   omega
 ·rintro⟨h1,h2⟩
  refine⟨?_,fun q hq=> ?_⟩
  ·rcases h1 with h|h<;>simp[h]
  ·rw[GS]at hq
   obtain⟨i,hi,rfl⟩:=hq
   have:=h2 (0+1*i) (by omega)
   simp only[gA,Fk,Ga,decide_eq_false_iff_not]
   omega
theorem gK(b:Int):dz [] b=0:=rfl
theorem gu(l:List Cr)(loops:Int):eN l loops=true↔l.length<=200/\0<=loops/\loops<=200/\ax l:=by
 unfold eN
 by_cases hb:(decide (200<(l.length:Int))||decide (loops<0)||decide (200<loops))=true
 ·rw[if_pos hb]
  simp only[E8,decide_eq_true_eq]at hb
  constructor
  ·intro h;cases h
  ·rintro⟨h1,h2,h3,_⟩;omega
 ·rw[if_neg hb]
  simp only[E8,decide_eq_true_eq]at hb
  have hn:l.length<=200:=by omega
  rw[BU]
  constructor
  ·intro h
   split at h
   ·cases h
   ·rename_i s hs
    split at hs
    ·rename_i hg
     cases hs
     rw[EI]at hg h
     have hsign: ∀x∈l,x.s=1\/x.s= -1:=fun x hx=>(pz.1 (hg x hx)).1
     refine⟨hn,by omega,by omega,ax.D9 hsign (fun p hp=> ?_) fun a e ha hb'=> ?_⟩
     ·obtain⟨x,hx,hm⟩:=ax.mem hp
      have:=(pz.1 (hg x hm)).2 p.2 hp.2
      simpa only[ay,hx]using this
     ·have:=h a.toNat (by rw[GS];exact⟨a.toNat,by omega,by omega⟩)
      have ha':((a.toNat:Nat):Int)=a:=by omega
      simp only[rD,Fk,Ga,bne_eq_false_iff_eq,ha']at this
      have hl0:=jd hsign false
      have hl1:=jd hsign true
      have c0:=m9 (gW l false) [] (fun b=>⟨by rw[gK];omega,by rw[gK];omega⟩) a
      have c1:=m9 (gW l true) [] (fun b=>⟨by rw[gK];omega,by rw[gK];omega⟩) a
      rw[gK]at c0 c1
      have hmem:a∈gW l e:=by
       apply List.count_pos_iff.1
       cases e
       ·have:=this.1;unfold dz at c0;omega
       ·have:=this.2;unfold dz at c1;omega
      obtain⟨p,hp⟩:=wf.1 hmem
      exact⟨p,dn.1 hp⟩
    ·cases hs
  ·rintro⟨_,_,_,hs⟩
   have hg:l.all (uJ l.length)=true:=EI.2 fun x hx=>pz.2 ⟨hs.sign x hx,hs.range x hx⟩
   rw[if_pos hg]
   simp only
   rw[EI]
   intro a ha
   rw[GS]at ha
   obtain⟨i,hi,rfl⟩:=ha
   have hcount: ∀e,(gW l e).count (((0+1*i:Nat):Int))=1:=by
    intro e
    have hsub: ∀y∈(List.range (2*l.length)).map (fun k:Nat=>(k:Int)),y∈gW l e:=by
     intro y hy
     obtain⟨k,hk,rfl⟩:=E9.1 hy
     obtain⟨p,hp⟩:=hs.ex k e (by omega) (by have:=ET.1 hk;omega)
     exact wf.2 ⟨p,hp⟩
    have hnd:((List.range (2*l.length)).map (fun k:Nat=>(k:Int))).Nodup:=jh Gg fun x _ y _ e=>by omega
    have hmem:(((0+1*i:Nat):Int))∈gW l e:=hsub _ (E9.2 ⟨0+1*i,ET.2 (by omega),rfl⟩)
    have hno: ¬(((0+1*i:Nat):Int))∈(gW l e).erase (((0+1*i:Nat):Int)):=by
     intro h
     have:=mH _ ((gW l e).erase (((0+1*i:Nat):Int))) hnd fun y hy=>by
      by_cases e':y=((0+1*i:Nat):Int)
      ·rw[e'];exact h
      ·exact(GP e').2 (hsub y hy)
     rw[Fl,Gp,GX hmem,jd hs.sign e]at this
     omega
    have h0:=List.count_eq_zero.2 hno
    rw[List.count_erase_self]at h0
    have:=List.count_pos_iff.2 hmem
    omega
   have hl0:=jd hs.sign false
   have hl1:=jd hs.sign true
   have c0:=m9 (gW l false) [] (fun b=>⟨by rw[gK];omega,by rw[gK];omega⟩) ((0+1*i:Nat):Int)
   have c1:=m9 (gW l true) [] (fun b=>⟨by rw[gK];omega,by rw[gK];omega⟩) ((0+1*i:Nat):Int)
   rw[gK,hcount]at c0 c1
   unfold dz at c0 c1
   simp only[rD,c0,c1]
   decide
def iH(l:List Cr)(a:Nat):Nat->List Bool->List Bool
 | 0,bs=>bs.set a true
 |k+1,bs=>(iH l a k bs).set (it (stp l) (k+1) a) true
noncomputable def lf(l:List Cr)(out:List Nat):Nat->List Bool
 | 0=>List.replicate (2*l.length) false
 |k+1=>if(aW l k false).1∈out then lf l out k else iH l k (su l out k) (lf l out k)
def j3(l:List Cr):Nat->List Bool->Nat->List Bool
 | 0,bs,_=>bs
 |f+1,bs,b=>if bs.getD b false=true then bs else j3 l f (bs.set b true) (stp l b)
noncomputable def ph2(l:List Cr)(out:List Nat)(loops:Int):Nat->List Bool×Int
 | 0=>(lf l out (2*l.length),loops)
 |k+1=>if(ph2 l out loops k).1.getD k false=true then ph2 l out loops k else(j3 l (2*l.length+1) (ph2 l out loops k).1 k,(ph2 l out loops k).2+1)
noncomputable def rL(l:List Cr)(loops:Int)(out:List Nat):Option (List Cr×Int):=if(ph2 l out loops (2*l.length)).2<=200 then some (js l out,(ph2 l out loops (2*l.length)).2)else none
theorem vP(l:List Cr)(a:Nat): ∀(k:Nat) (bs:List Bool),(iH l a k bs).length=bs.length
 | 0,bs=>by simp[iH]
 |k+1,bs=>by simp[iH,vP l a k bs]
theorem uf(l:List Cr)(out:List Nat): ∀k,(lf l out k).length=2*l.length
 | 0=>by simp[lf]
 |k+1=>by
  simp only[lf];split
  ·exact uf l out k
  ·rw[vP,uf l out k]
theorem rH(l:List Cr): ∀(f:Nat) (bs:List Bool) (b:Nat),(j3 l f bs b).length=bs.length
 | 0,_,_=>rfl
 |f+1,bs,b=>by
  simp only[j3];split
  ·rfl
  ·rw[rH l f];simp
theorem xj(l:List Cr)(out:List Nat)(loops:Int): ∀k,(ph2 l out loops k).1.length=2*l.length
 | 0=>uf l out _
 |k+1=>by
  simp only[ph2];split
  ·exact xj l out loops k
  ·simp only[rH];exact xj l out loops k
theorem xA(l:List Cr)(out:List Nat)(loops:Int): ∀k,loops<=(ph2 l out loops k).2/\(ph2 l out loops k).2<=loops+k
 | 0=>by simp[ph2]
 |k+1=>by
  have:=xA l out loops k
  simp only[ph2];split<;>omega
def lu(bs:List Bool):Nat:=(bs.filter fun b=> !b).length
theorem uL: ∀(bs:List Bool) (b:Nat),bs[b]? =some false->lu (bs.set b true)+1=lu bs
 | [],_,h=>by simp at h
 |x::bs,0,h=>by simp at h;subst h;simp[lu]
 |x::bs,b+1,h=>by
  have:=uL bs b (by simpa using h)
  simp only[lu,List.set_cons_succ,List.filter_cons]at this⊢
  cases x<;>simp at* <;>omega
theorem CW(bs:List Bool):lu bs<=bs.length:=Gk _ _
theorem sw(a:Int): ∀(ms:List (Int×Int)) (i:Nat),(∀p∈ms,p.1≠a)->cE a ms i=none
 | [],_,_=>rfl
 | (b,c)::ms,i,h=>by
   have hb:(a==b)=false:=by have:=h (b,c) (by simp);simp at this⊢;exact fun e=>this e.symm
   simp only[cE,hb,EO,if_false]
   exact sw a ms (i+1) fun p hp=>h p (by simp[hp])
theorem wl: ∀(L:List Nat) (i:Nat),∀p∈va L i,∃a∈L,p.1=(a:Int)
 | [],_,p,h=>by cases h
 |a::L,i,p,h=>by
  rcases EG.1 h with rfl|h
  ·exact⟨a,by simp,rfl⟩
  ·obtain⟨b,hb,e⟩:=wl L (i+1) p h
   exact⟨b,by simp[hb],e⟩
theorem yi: ∀(L:List Nat) (i:Nat),(va L i).length=L.length
 | [],_=>rfl
 |a::L,i=>by simp[va,yi L (i+1)]
theorem qe(l:List Cr)(out:List Nat)(k:Nat):fA l out (k+1)=if(aW l k false).1∈out then fA l out k else fA l out k++[k]:=by
 unfold fA
 rw[Fq,GZ]
 by_cases h:(aW l k false).1∈out<;>simp[h]
theorem CI(l:List Cr)(out:List Nat)(k:Nat)(h: ¬(aW l k false).1∈out):kj (eG l out k) k ((eG l out k).length:Nat)=eG l out (k+1):=by
 have hn:cE (k:Int) (eG l out k) 0=none:=sw _ _ _ fun p hp=>by
  obtain⟨a,ha,e⟩:=wl _ _ p hp
  have:=(il.1 ha).1
  rw[e];omega
 unfold kj
 simp only[hn]
 unfold eG
 rw[qe,if_neg h,zH,yi,EU]
theorem zX(l:List Cr)(out:List Nat)(k:Nat)(h:(aW l k false).1∈out):eG l out (k+1)=eG l out k:=by
 unfold eG;rw[qe,if_pos h]
theorem tR(l:List Cr)(out:List Nat)(k:Nat):iB l out (k+1)=if k∈out then iB l out k else iB l out k++[(fD (dc l out (2*l.length)) k).map (rkA l out)]:=by
 unfold iB jD
 rw[Fq,GZ]
 by_cases h:k∈out<;>simp[h]
def DrO(S:AH)(n na:Nat)(l:List Cr)(loops:Int):Prop:=n<S.length/\((na=n/\l=[]/\at_ S n= .cells [.slice none 0 0,O U loops] 75)\/ ∃C,na≠n/\na<S.length/\at_ S n= .cells [.slice (some ⟨na,0,none⟩) l.length C,O U loops] 75/\at_ S na= .cells (aE l) 73/\((C=l.length/\C<unk)\/C=unk+5))
theorem ao{S:AH}{n:Nat}{c:List Value}{e:TypeId}(h:at_ S n= .cells c e){k:Nat}(hk:k=c.length):ak S n 0 k=some c:=by
 unfold ak aP;rw[h];simp only[Option.bind_some]
 subst hk
 rw[if_pos (by omega),F4,Fp]
theorem DrO.is{S:AH}{n na:Nat}{l:List Cr}{loops:Int}(h:DrO S n na l loops):ig S (.pointer (some ⟨n,0,none⟩)) l loops:=by
 obtain⟨h0,⟨h1,h2,h3⟩|⟨C,h1,h2,h3,h4,h5⟩⟩:=h
 ·exact⟨n,0,_,rfl,ao h3 rfl,.inl ⟨h2,.inl rfl⟩⟩
 ·exact⟨n,0,_,rfl,ao h3 rfl,.inr ⟨na,0,C,rfl,ao h4 (dy l).symm⟩⟩
theorem DrO.more{S:AH}{n na:Nat}{l:List Cr}{loops:Int}(h:DrO S n na l loops)(G:AH):DrO (S++G) n na l loops:=by
 obtain⟨h0,⟨h1,h2,h3⟩|⟨C,h1,h2,h3,h4,h5⟩⟩:=h
 ·exact⟨by rw[Ez];omega,.inl ⟨h1,h2,by rw[ag h0];exact h3⟩⟩
 ·exact⟨by rw[Ez];omega,.inr ⟨C,h1,by rw[Ez];omega,by rw[ag h0];exact h3,by rw[ag h2];exact h4,h5⟩⟩
theorem DrO.sl{S:AH}{n na:Nat}{l:List Cr}{loops:Int}(h:DrO S n na l loops): ∃s b C,s= .slice b l.length C/\at_ S n= .cells [s,O U loops] 75/\jK S s l:=by
 obtain⟨h0,⟨h1,h2,h3⟩|⟨C,h1,h2,h3,h4,h5⟩⟩:=h
 ·subst h2;exact⟨_,none,0,rfl,h3,.inl ⟨rfl,.inl rfl⟩⟩
 ·exact⟨_,_,C,rfl,h3,.inr ⟨na,0,C,rfl,ao h4 (dy l).symm⟩⟩
theorem dO{S:AH}{n:Nat}(h:n<S.length)(G:AH)(o:AO):(S++G).set n o=S.set n o++G:=Gq _ _ h
theorem gD: ∀(l:List Cr) (c q:Nat) (v:Int),bt l (c,q)->(aE l).set (c*5+q) (O U v)=aE (bE l (c,q) v)
 | [],c,q,v,h=>by have:=h.1;simp at this
 |x::l,0,q,v,h=>by
  have hq:q<4:=h.2
  simp only[bE,List.getElem?_cons_zero,List.set_cons_zero,iq,Hu,EU]
  rw[Gq _ _ (by simp[Cr.cells];omega)]
  congr 1
  match q,hq with
  | 0,_=>rfl
  | 1,_=>rfl
  | 2,_=>rfl
  | 3,_=>rfl
 |x::l,c+1,q,v,h=>by
  have h':bt l (c,q):=⟨by have:=h.1;simpa using this,h.2⟩
  have ih:=gD l c q v h'
  obtain⟨y,hy,_⟩:=ax.mem h'
  have hy':l[c]? =some y:=hy
  simp only[bE,hy']at ih
  simp only[bE,List.getElem?_cons_succ,hy',List.set_cons_succ,iq]
  rw[<-ih,show(c+1)*5+q=x.cells.length+(c*5+q)by simp[Cr.cells];omega]
  rw[F5 _ _ (by omega),Fa]
theorem lg(l m:List Cr):aE (l++m)=aE l++aE m:=by simp[aE]
theorem DrO.put{S:AH}{n na:Nat}{l:List Cr}{loops:Int}(h:DrO S n na l loops){p:Nat×Nat}(hp:bt l p)(v:Int):
 na≠n/\na<S.length/\at_ S na= .cells (aE l) 73/\DrO (S.set na (.cells (aE (bE l p v)) 73)) n na (bE l p v) loops:=by
 obtain⟨h0,⟨h1,h2,h3⟩|⟨C,h1,h2,h3,h4,h5⟩⟩:=h
 ·subst h2;have:=hp.1;simp at this
 ·refine⟨h1,h2,h4,by rw[EA];exact h0,.inr ⟨C,h1,by rw[EA];exact h2,?_,au h2 _,by rw[aU];exact h5⟩⟩
  rw[af h1,aU];exact h3
theorem DrO.app{S:AH}{n na:Nat}{l:List Cr}{loops:Int}(h:DrO S n na l loops)(hl:l.length<1000000)(G:AH)(x:Cr){s:Value}(hs:at_ S n= .cells [s,O U loops] 75):
 ∃S',bD Try.prog (S++(G++[.cells x.cells 73])) #[30,30] s (.slice (some ⟨S.length+G.length,0,none⟩) 1 1)=some (.slice (some ⟨S.length+(G.length+1),0,none⟩) (l.length+1) (unk+5),S'++(G++[.cells x.cells 73,.cells (aE (l++[x])) 73]))/\S'.length=S.length/\(∀k,at_ S' k=at_ S k\/(k=na/\at_ S' k= .dead))/\at_ S' n= .cells [s,O U loops] 75:=by
 have hz5:(Value.agg #[O U 0,O U 0,O U 0,O U 0,O U 0]).cells.size=Try.t73.size:=rfl
 have hs0:0<Try.t73.size:=by rw[lS];omega
 have hx:aE (l++[x])=aE l++x.cells:=by rw[lg];simp[aE]
 have how:nF S na 73 Try.t73.size s l.length (aE l):=by
  rw[lS]
  obtain⟨h0,⟨h1,h2,h3⟩|⟨C,h1,h2,h3,h4,h5⟩⟩:=h
  ·rw[h3]at hs;cases hs;subst h2;exact .inl ⟨rfl,rfl,rfl⟩
  ·rw[h3]at hs;cases hs
   refine .inr ⟨C,rfl,h2,h4,dy l,?_⟩
   rcases h5 with ⟨rfl,h5⟩|h5
   ·exact .inl ⟨rfl,h5⟩
   ·exact .inr h5
 obtain⟨S',h1,h2,h3,h4⟩:=nF.append (P:=Try.prog) (ts:= #[30,30]) (el:=x.cells) (by simp[rI]) xw rfl hz5 hs0 rfl rI (fun _ h=>nomatch h) rfl rfl (by rw[ve];omega) (by omega) how G
 rw[lS]at h1
 rw[<-hx]at h1
 refine⟨S',h1,h2,h3,?_⟩
 obtain⟨h0,⟨k1,k2,k3⟩|⟨C,k1,k2,k3,k4,k5⟩⟩:=h
 ·have hn:s= .slice none 0 0:=by rw[hs]at k3;cases k3;rfl
  rw[h4 hn,hs]
 ·rcases h3 n with h|⟨h,_⟩
  ·rw[h,hs]
  ·exact absurd h.symm k1
theorem pf(H:AH)(a b c d s:Int):aQ Try.prog H 30 1 [(0,.agg #[O U a,O U b,O U c,O U d,O U s])]=some (.slice (some ⟨H.length,0,none⟩) 1 1,H++[.cells [O U a,O U b,O U c,O U d,O U s] 73]):=by kernel_rfl
theorem bC.dr{k:Nat}{s:Value}{loops:Int}(h:Bel k s):bC k (.cells [s,O U loops] 75):=by
 intro σ w x ho
 obtain⟨g0,cs,g1,g2,g3,g4⟩:=ho
 refine⟨g0,cs,g1,g2,g3,fun q v v' a b=> ?_⟩
 have:=g4 q v v' a b
 match q,a with
 | 0,a=>simp at a;subst a;exact h _ _ this
 | 1,a=>simp at a;subst a;exact Bel.int _ _ _ _ _ this
 |q+2,a=>simp at a
theorem Ends.own{fn:Func}{S S2:AH}{a:Env}{v:Value}(h:fg Try.prog fn a S2=some v)(hl:S.length<=S2.length)(hb:Bel S2.length v)(hk: ∀k,k<S2.length->(k<S.length/\at_ S2 k=at_ S k)\/bC S2.length (at_ S2 k)):Ev.Ends Try.prog fn S (.val v S2) .ret a S2:=⟨v,S2,[],h,rfl,by simp,hl,hb,hk⟩
structure Rd where
 kind:Int
 arc:Int
 sign:Int
 up:Bool
 ac:Int
 ap:Int
 tc:Int
 tp:Int
def Rd.val(m:Rd):Value:= .agg #[O U m.kind,O U m.arc,O U m.sign,.bool m.up,O U m.ac,O U m.ap,O U m.tc,O U m.tp]
def cd(S:AH)(n na:Nat)(res:Option (List Cr×Int))(r:OpR):Prop:=match res with
 |none=>r= .pan (bf 5) S
 |some (l',lp')=> ∃S' na',r= .val (.tuple #[]) S'/\DrO S' n na' l' lp'/\S.length<=S'.length/\(na'=na\/na'=n\/S.length<=na')/\(∀k,k<S.length->k≠n->k≠na->at_ S' k=at_ S k)/\
  ∀k,k<S'.length->(k<S.length/\at_ S' k=at_ S k)\/bC S'.length (at_ S' k)
theorem Bel.mp{k j:Nat}(h:j<k):Bel k (.map (some j)):=by
 intro σ v' hv
 cases hv with
 |map hn=>exact .map (bG.2 ⟨h,hn⟩)
theorem bC.Ek{k:Nat}{es:List (Value×Value)}(h: ∀p∈es,Bel k p.2):bC k (.map es):=by
 intro σ w x ho
 obtain⟨g0,ents,g1,g2,g3⟩:=ho
 refine⟨g0,ents,g1,g2,fun i a v e p q=> ?_⟩
 obtain⟨q1,q2,q3⟩:=g3 i a v e p q
 exact⟨q1,h (a,v) (EE p) _ _ q2,q3⟩
theorem DrO.loops{S:AH}{n na:Nat}{l:List Cr}{loops:Int}(h:DrO S n na l loops){s:Value}(hs:at_ S n= .cells [s,O U loops] 75)(v:Int):DrO (S.set n (.cells [s,O U v] 75)) n na l v:=by
 obtain⟨h0,⟨h1,h2,h3⟩|⟨C,h1,h2,h3,h4,h5⟩⟩:=h
 ·rw[h3]at hs;cases hs
  exact⟨by rw[EA];exact h0,.inl ⟨h1,h2,au h0 _⟩⟩
 ·rw[h3]at hs;cases hs
  exact⟨by rw[EA];exact h0,.inr ⟨C,h1,by rw[EA];exact h2,au h0 _,by rw[af (Fg h1)];exact h4,h5⟩⟩
theorem sK{fn:Func}{S S2 G T:AH}{n na:Nat}{l:List Cr}{loops:Int}{a:Env}(hres:fn.results= #[])(hn:n<S.length)(hlen:S2.length=S.length)(hk: ∀k,k≠n->at_ S2 k=at_ S k\/k=na/\dS (at_ S2 k)=true)(hG: ∀o∈G,bC (S.length+G.length+1) o)(hT:T=S2.set n (.cells [.slice (some ⟨S.length+G.length,0,none⟩) l.length (unk+5),O U loops] 75)++(G++[.cells (aE l) 73])):
 ij Try.prog fn S (cd S n na (some (l,loops))) .ret a T:=by
 have hTl:T.length=S.length+G.length+1:=by rw[hT];simp only[Ez,EA,List.length_cons,List.length_nil,hlen];omega
 have hlow: ∀k,k<S.length->at_ T k=at_ (S2.set n (.cells [.slice (some ⟨S.length+G.length,0,none⟩) l.length (unk+5),O U loops] 75)) k:=by
  intro k h;rw[hT];exact ag (by rw[EA,hlen];exact h)
 have hhigh: ∀k,at_ T (S.length+k)=at_ (G++[.cells (aE l) 73]) k:=by
  intro k
  have:=aq (S2.set n (.cells [.slice (some ⟨S.length+G.length,0,none⟩) l.length (unk+5),O U loops] 75)) (G++[.cells (aE l) 73]) k
  rw[EA,hlen]at this
  rw[hT];exact this
 have hTn:at_ T n= .cells [.slice (some ⟨S.length+G.length,0,none⟩) l.length (unk+5),O U loops] 75:=by rw[hlow n hn,au (by omega)]
 have hTa:at_ T (S.length+G.length)= .cells (aE l) 73:=by rw[hhigh,bF]
 have hother: ∀k,k<S.length->k≠n->at_ T k=at_ S k\/k=na/\dS (at_ T k)=true:=by
  intro k h h1
  rw[hlow k h,af (Fg h1)]
  exact hk k h1
 have hkk: ∀k,k<T.length->(k<S.length/\at_ T k=at_ S k)\/bC T.length (at_ T k):=by
  intro k h
  by_cases h1:k<S.length
  ·by_cases h2:k=n
   ·subst h2;rw[hTn];exact .inr (bC.dr (Bel.sl (by omega)))
   ·rcases hother k h1 h2 with h|⟨_,h⟩
    ·exact .inl ⟨h1,h⟩
    ·exact .inr (cQ h _)
  ·refine .inr ?_
   obtain⟨j,rfl⟩: ∃j,k=S.length+j:=⟨k-S.length,by omega⟩
   rw[hhigh]
   by_cases hj:j<G.length
   ·rw[ag hj,hTl]
    have:at_ G j=G[j]:=by unfold at_;rw[Ex hj];rfl
    rw[this];exact hG _ (FE hj)
   ·have:j=G.length:=by omega
    subst this
    rw[bF];exact bC.plain (cq l)
 refine⟨.val (.tuple #[]) T,⟨T,S.length+G.length,rfl,⟨by omega,.inr ⟨unk+5,by omega,by omega,hTn,hTa,.inr rfl⟩⟩,by omega,.inr (.inr (by omega)),(fun k h h1 h2=> ?_),hkk⟩,Ends.own (by simp only[fg,hres]) (by omega) (Bel.junk _) hkk⟩
 rcases hother k h h1 with h|⟨h,_⟩
 ·exact h
 ·exact absurd h h2
theorem aeq4(a b:Bool):bZ Try.prog 10000 4 (.bool a) (.bool b)=some (a==b):=by kernel_rfl
theorem mu154(H:AH)(n:Nat)(a:Int)(v:Value):cR Try.prog H 154 (.map (some n)) (O U a) v=(match at_ H n with
 | .map es=>match bP Try.prog 3 (O U a) es 0 with
   |some (some (i,_))=>if Instr.sameBits 10000 ((es[i]?.map (·.1)).getD (O U a)) (O U a)=true then some (H.set n (.map (es.set i (O U a,v))))else none
   |some none=>some (H.set n (.map (es++[(O U a,v)])))
   |none=>none
 |_=>none):=by kernel_rfl
theorem mu155(H:AH)(n:Nat)(a:Bool)(v:Value):cR Try.prog H 155 (.map (some n)) (.bool a) v=(match at_ H n with
 | .map es=>match bP Try.prog 4 (.bool a) es 0 with
   |some (some (i,_))=>if Instr.sameBits 10000 ((es[i]?.map (·.1)).getD (.bool a)) (.bool a)=true then some (H.set n (.map (es.set i (.bool a,v))))else none
   |some none=>some (H.set n (.map (es++[(.bool a,v)])))
   |none=>none
 |_=>none):=by kernel_rfl
theorem lk154(H:AH)(n:Nat)(a:Int):cU Try.prog H 154 (.map (some n)) (O U a) false=(match at_ H n with
 | .map es=>match bP Try.prog 3 (O U a) es 0 with
   |some (some (_,v))=>some v
   |some none=>some (.agg #[O U 0,O U 0,O U 0,O U 0])
   |none=>none
 |_=>none):=by kernel_rfl
theorem lk155(H:AH)(n:Nat)(a:Bool):cU Try.prog H 155 (.map (some n)) (.bool a) false=(match at_ H n with
 | .map es=>match bP Try.prog 4 (.bool a) es 0 with
   |some (some (_,v))=>some v
   |some none=>some (.map none)
   |none=>none
 |_=>none):=by kernel_rfl
def kQ(l:List Cr)(loops:Int)(m:Rd):Bool:=(m.ac==0&&m.ap==0&&m.tc==0&&m.tp==0)&&(decide (-1<=m.arc)&&(decide (m.arc<2*(l.length:Int))&&((m.sign==1||m.sign== -1)&&(decide ((l.length:Int)<=199)&&(decide (0<=m.arc)||decide (0<loops))))))
def m5(l:List Cr)(loops:Int)(m:Rd):Option (List Cr×Int):=if kQ l loops m=true then
    if m.arc<0 then some (l++[kx m.up m.sign (2*l.length:Nat) (2*l.length+1:Nat) (2*l.length:Nat)],loops-1)
    else some (bE l (aW l m.arc.toNat true) (2*l.length+1:Nat)++[kx m.up m.sign m.arc (2*l.length:Nat) (2*l.length+1:Nat)],loops)
 else none
theorem kink_ok(S:AH)(n na:Nat)(l:List Cr)(loops:Int)(hd:DrO S n na l loops)(hs:ax l)(hl:l.length<=200)(hlo:0<=loops/\loops<=200)(m:Rd):
 ACE Try.prog 42 [.pointer (some ⟨n,0,none⟩),m.val] S (cd S n na (m5 l loops m)):=by
 obtain⟨s,b,C,hsb,hat,hsl⟩:=hd.sl
 have r0:aj S n 0=some s:=by unfold aj aP;rw[hat];rfl
 have r1:aj S n 1=some (O U loops):=by unfold aj aP;rw[hat];rfl
 have hw2:=jz (n:=l.length) (by omega)
 have hw3':IntKind.i64.wrap (2*(l.length:Int)+1)=2*(l.length:Int)+1:=by rw[EP];omega
 obtain⟨kind,arc,sign,up,ac,ap,tc,tp⟩:=m
 refine ACE.o 155 f42 ?_
 refine X.seq (X.g ?_ (by simp[go_sem,Rd.val];rfl))
 refine X.seq (X.g ?_ (by simp[go_sem,aw r0,hsb];rfl))
 have fail: ∀(E:Env) (G:AH),kQ l loops ⟨kind,arc,sign,up,ac,ap,tc,tp⟩=false->ij Try.prog Try.f42 S (cd S n na (m5 l loops ⟨kind,arc,sign,up,ac,ap,tc,tp⟩)) (.panic (bf 5)) E (S++G):=by
  intro E G hk
  refine⟨.pan (bf 5) S,?_,Ends.DL rfl⟩
  unfold cd m5;rw[hk];rfl
 cases g1:(ac==0&&ap==0&&tc==0&&tp==0)
 ·refine X.seq (X.region (Xl.s ?_ (by simp[go_sem,g1];rfl)))
  exact Xl.p (Sc b16 (aM _ _)) (fail _ _ (by simp[kQ,g1]))
 cases g2:decide (-1<=arc)
 ·refine X.seq (X.region (Xl.s ?_ (by simp[go_sem,g1,g2];rfl)))
  exact Xl.p (Sc b16 (aM _ _)) (fail _ _ (by simp only[kQ,g1,g2];rfl))
 cases g3:decide (arc<2*(l.length:Int))
 ·refine X.seq (X.region (Xl.s ?_ (by simp[go_sem,g1,g2,g3,hw2];rfl)))
  exact Xl.p (Sc b16 (aM _ _)) (fail _ _ (by simp only[kQ,g1,g2,g3];rfl))
 by_cases hsg:sign=1\/sign= -1
 rotate_left
 ·have h1:(sign==1)=false:=by simp;exact fun e=>hsg (.inl e)
  have h2:(sign== -1)=false:=by simp;exact fun e=>hsg (.inr e)
  refine X.seq (X.region (Xl.s ?_ (by simp[go_sem,g1,g2,g3,hw2,h1,h2];rfl)))
  exact Xl.p (Sc b16 (aM _ _)) (fail _ _ (by simp only[kQ,g1,g2,g3,h1,h2];rfl))
 have hsg':=hsg
 obtain⟨rd,hrd⟩: ∃r:Rd,r=⟨kind,arc,sign,up,ac,ap,tc,tp⟩:=⟨_,rfl⟩
 rcases hsg with rfl|rfl<;>cases up
 all_goals
  cases g5:decide ((l.length:Int)<=199)
  ·refine X.seq (X.region (Xl.s ?_ (by simp[go_sem,g1,g2,g3,hw2,g5];rfl)))
   exact Xl.p (Sc b16 (aM _ _)) (fail _ _ (by simp only[kQ,g1,g2,g3,g5];rfl))
  cases g6:decide (0<=arc)
  ·cases g7:decide (0<loops)
   ·refine X.seq (X.region (Xl.s ?_ (by simp[go_sem,g1,g2,g3,hw2,g5,g6,g7,aw r1];rfl)))
    exact Xl.p (Sc b16 (aM _ _)) (fail _ _ (by simp only[kQ,g1,g2,g3,g5,g6,g7];rfl))
   ·have harc:arc<0:=by simpa using g6
    have hlp:0<loops:=by simpa using g7
    have hwl:IntKind.i64.wrap (loops-1)=loops-1:=by rw[EP];omega
    refine X.seq (X.region (Xl.s ?_ (by simp[go_sem,g1,g2,g3,hw2,g5,g6,g7,aw r1];rfl)))
    refine Xl.o (Sc b16 (aZ _ _)) ?_
    refine Xl.nil ?_
    refine X.seq (X.g ?_ (by simp[go_sem,hw2];rfl))
    refine X.seq (X.seq (X.g ?_))
    refine X.ct (?_) (by simp[go_sem,harc])
    refine X.seq (X.g ?_ (by simp[go_sem,hw2,hw3'];rfl))
    have hn0:=hd.1
    have hatG: ∀G,at_ (S++G) n= .cells [s,O U loops] 75:=fun G=>by rw[ag hn0];exact hat
    have hsetG: ∀G o,(S++G).set n o=S.set n o++G:=fun G o=>dO hn0 G o
    refine X.g ?_ (by simp[go_sem,aw r1,hatG,hsetG,hwl];rfl)
    have hd1:=hd.loops hat (loops-1)
    have hfr1: ∀k,k≠n->at_ (S.set n (.cells [s,O U (loops-1)] 75)) k=at_ S k\/k=na/\dS (at_ (S.set n (.cells [s,O U (loops-1)] 75)) k)=true:=fun k h1=> .inl (af (Fg h1) _)
    have hlenS:(S.set n (.cells [s,O U (loops-1)] 75)).length=S.length:=EA
    have hlen1':l.length=l.length:=rfl
    generalize S.set n (.cells [s,O U (loops-1)] 75)=S1 at hd1 hfr1 hlenS⊢
    rw[<-hlenS]
    obtain⟨s1,b1,C1,hsb1,hat1,_⟩:=hd1.sl
    have hn1:=hd1.1
    have q0:aj S1 n 0=some s1:=by unfold aj aP;rw[hat1];rfl
    obtain⟨S2,ha,hl2,hk2,hn2⟩:=hd1.app (by rw[hlen1'];omega) [.cells [O U kind,O U arc,O U rd.sign,.bool rd.up,O U ac,O U ap,O U tc,O U tp] 79,
     .map [(.bool false,.map (some (S1.length+2))),(.bool true,.map (some (S1.length+3)))],
     .map [(O U 1,.agg #[O U (2*(l.length:Int)),O U (2*(l.length:Int)),O U (2*(l.length:Int)+1),O U (2*(l.length:Int)+1)]),(O U (-1),.agg #[O U (2*(l.length:Int)),O U (2*(l.length:Int)+1),O U (2*(l.length:Int)+1),O U (2*(l.length:Int))])],
     .map [(O U 1,.agg #[O U (2*(l.length:Int)+1),O U (2*(l.length:Int)+1),O U (2*(l.length:Int)),O U (2*(l.length:Int))]),(O U (-1),.agg #[O U (2*(l.length:Int)+1),O U (2*(l.length:Int)),O U (2*(l.length:Int)),O U (2*(l.length:Int)+1)])]] (kx rd.up rd.sign (2*(l.length:Int)) (2*(l.length:Int)+1) (2*(l.length:Int))) hat1
    simp only[hrd,kx,Cr.cells,List.cons_append,List.nil_append,List.length_cons,List.length_nil,EU,Nat.reduceAdd,if_true,if_false,EO,Int.reduceNeg,Int.reduceEq]at ha
    refine X.seq (X.g ?_ (by simp[go_sem,cK,mu154,mu155,bP,px,aeq4];rfl))
    have hn2':n<S2.length:=by rw[hl2];exact hn1
    have hatG2: ∀G,at_ (S2++G) n= .cells [s1,O U (loops-1)] 75:=fun G=>by rw[ag hn2'];exact hn2
    have hsetG2: ∀G o,(S2++G).set n o=S2.set n o++G:=fun G o=>dO hn2' G o
    refine X.drawnBy (fun i=>false) follows (by decide+kernel) (Xd.s (Xd.nil ?_) (by simp[go_sem,aw q0,lk155,lk154,bP,px,aeq4,pf,ha,hl2,hatG2,hsetG2,du];rfl))
    have hF:m5 l loops ⟨kind,arc,rd.sign,rd.up,ac,ap,tc,tp⟩=some (l++[kx rd.up rd.sign (2*(l.length:Int)) (2*(l.length:Int)+1) (2*(l.length:Int))],(loops-1)):=by
     have hB:kQ l loops ⟨kind,arc,rd.sign,rd.up,ac,ap,tc,tp⟩=true:=by simp only[hrd,kQ,g1,g2,g3,g5,g6,g7];rfl
     unfold m5;rw[hB,if_pos rfl];rw[if_pos harc];simp
    simp only[hrd]at hF
    rw[hF]
    refine sK (S2:=S2) (G:=[.cells [O U kind,O U arc,O U rd.sign,.bool rd.up,O U ac,O U ap,O U tc,O U tp] 79,
     .map [(.bool false,.map (some (S1.length+2))),(.bool true,.map (some (S1.length+3)))],
     .map [(O U 1,.agg #[O U (2*(l.length:Int)),O U (2*(l.length:Int)),O U (2*(l.length:Int)+1),O U (2*(l.length:Int)+1)]),(O U (-1),.agg #[O U (2*(l.length:Int)),O U (2*(l.length:Int)+1),O U (2*(l.length:Int)+1),O U (2*(l.length:Int))])],
     .map [(O U 1,.agg #[O U (2*(l.length:Int)+1),O U (2*(l.length:Int)+1),O U (2*(l.length:Int)),O U (2*(l.length:Int))]),(O U (-1),.agg #[O U (2*(l.length:Int)+1),O U (2*(l.length:Int)),O U (2*(l.length:Int)),O U (2*(l.length:Int)+1)])],.cells (kx rd.up rd.sign (2*(l.length:Int)) (2*(l.length:Int)+1) (2*(l.length:Int))).cells 73]) rfl hd.1 (by rw[hl2,hlenS])
     (fun k h1=> ?_) (fun o ho=> ?_) (by simp[hrd,kx,Cr.cells,hlenS,hlen1'])
    ·rcases hk2 k with h|⟨h,h'⟩
     ·rcases hfr1 k h1 with h2|⟨h2,h3⟩
      ·exact .inl (h.trans h2)
      ·exact .inr ⟨h2,by rw[h];exact h3⟩
     ·exact .inr ⟨h,by rw[h'];rfl⟩
    ·simp only[EG,EK,or_false]at ho
     rcases ho with rfl|rfl|rfl|rfl|rfl
     ·exact bC.plain rfl
     ·refine bC.Ek fun p hp=> ?_
      simp only[EG,EK,or_false]at hp
      rcases hp with rfl|rfl<;>exact Bel.mp (by simp only[List.length_cons,List.length_nil,hlenS];omega)
     ·exact cQ rfl _
     ·exact cQ rfl _
     ·exact bC.plain rfl
  ·have harc: ¬arc<0:=by have:0<=arc:=by simpa using g6
                         omega
   have h0:0<=arc:=by omega
   have h2n:arc<2*(l.length:Int):=by simpa using g3
   obtain⟨a,rfl⟩: ∃a:Nat,arc=a:=⟨arc.toNat,by omega⟩
   obtain⟨p1,p2,p3,p4⟩:=hs.pl true (show a<2*l.length by omega)
   refine X.seq (X.region (Xl.s ?_ (by simp[go_sem,g1,g2,g3,hw2,g5,g6];rfl)))
   refine Xl.o (Sc b16 (aZ _ _)) ?_
   refine Xl.nil ?_
   refine X.seq (X.g ?_ (by simp[go_sem,hw2,hw3'];rfl))
   refine X.seq (X.seq (X.g ?_))
   refine X.cf (?_)
   refine X.seq (X.region (Xl.s ?_))
   refine Xl.o (Sc b68 (dk _ _ l loops hd.is.app (a:Int) true (by omega))) ?_
   rw[p4]
   have hpp:=hd.put p1 ((2*l.length+1:Nat):Int)
   have hsetl:=fun v=>gD l (aW l a true).1 (aW l a true).2 v p1
   have hfl:=dy l
   obtain⟨q1,q2⟩:=p1
   have hF2:(Int.toNat (a:Int))=a:=by omega
   generalize hpa:aW l a true=pa at*
   obtain⟨c,q⟩:=pa
   simp only at q1 q2 hsetl
   refine Xl.s (Xl.nil ?_) (by simp[go_sem,gZ];rfl)
   obtain⟨z1,z2,z3,hd1⟩:=hpp
   have hatA: ∀G,at_ (S++G) na= .cells (aE l) 73:=fun G=>by rw[ag z2];exact z3
   have hsetA: ∀G o,(S++G).set na o=S.set na o++G:=fun G o=>dO z2 G o
   have hq':(q:Int)<4:=by omega
   have hc':(c:Int)<l.length:=by omega
   have hfo:c*5+q+1<=(aE l).length:=by omega
   have hss:s= .slice (some ⟨na,0,none⟩) l.length C:=by
    obtain⟨_,⟨h1,h2,h3⟩|⟨C',h1,h2,h3,h4,h5⟩⟩:=hd
    ·exact absurd h1 z1
    ·rw[hat]at h3;simp only[AO.cells.injEq,Gc]at h3
     rw[hsb]at h3⊢
     have:=h3.1.1
     simp only[Fw]at this
     rw[this.1]
   refine X.drawnBy (fun i=>false) follows (by decide+kernel) (Xd.s (Xd.nil ?_) (by simp[go_sem,aw r0,hss,hc',hq',hatA,hsetA,hfo,hsetl,du];rfl))
   have hfr1: ∀k,k≠n->at_ (S.set na (.cells (aE (bE l (c,q) ((2*l.length+1:Nat):Int))) 73)) k=at_ S k\/k=na/\dS (at_ (S.set na (.cells (aE (bE l (c,q) ((2*l.length+1:Nat):Int))) 73)) k)=true:=by
    intro k h1
    by_cases h2:k=na
    ·subst h2;rw[au z2];exact .inr ⟨rfl,cq _⟩
    ·exact .inl (af (Fg h2) _)
   have hlenS:(S.set na (.cells (aE (bE l (c,q) ((2*l.length+1:Nat):Int))) 73)).length=S.length:=EA
   have hlen1':(bE l (c,q) ((2*l.length+1:Nat):Int)).length=l.length:=aU _ _ _
   have hcast:((2*l.length+1:Nat):Int)=2*(l.length:Int)+1:=by omega
   rw[hcast]at hd1 hfr1 hlenS hlen1'
   generalize S.set na (.cells (aE (bE l (c,q) (2*(l.length:Int)+1))) 73)=S1 at hd1 hfr1 hlenS⊢
   rw[<-hlenS]
   obtain⟨s1,b1,C1,hsb1,hat1,_⟩:=hd1.sl
   have hn1:=hd1.1
   have q0:aj S1 n 0=some s1:=by unfold aj aP;rw[hat1];rfl
   obtain⟨S2,ha,hl2,hk2,hn2⟩:=hd1.app (by rw[hlen1'];omega) [.cells [O U kind,O U (a:Int),O U rd.sign,.bool rd.up,O U ac,O U ap,O U tc,O U tp] 79,.cells [O U c,O U q] 77,
    .map [(.bool false,.map (some (S1.length+3))),(.bool true,.map (some (S1.length+4)))],
    .map [(O U 1,.agg #[O U (a:Int),O U (2*(l.length:Int)+1),O U (2*(l.length:Int)),O U (2*(l.length:Int))]),(O U (-1),.agg #[O U (a:Int),O U (2*(l.length:Int)),O U (2*(l.length:Int)),O U (2*(l.length:Int)+1)])],
    .map [(O U 1,.agg #[O U (2*(l.length:Int)),O U (2*(l.length:Int)),O U (2*(l.length:Int)+1),O U (a:Int)]),(O U (-1),.agg #[O U (2*(l.length:Int)),O U (a:Int),O U (2*(l.length:Int)+1),O U (2*(l.length:Int))])]] (kx rd.up rd.sign (a:Int) (2*(l.length:Int)) (2*(l.length:Int)+1)) hat1
   simp only[hrd,kx,Cr.cells,List.cons_append,List.nil_append,List.length_cons,List.length_nil,EU,Nat.reduceAdd,if_true,if_false,EO,Int.reduceNeg,Int.reduceEq]at ha
   refine X.seq (X.g ?_ (by simp[go_sem,cK,mu154,mu155,bP,px,aeq4];rfl))
   have hn2':n<S2.length:=by rw[hl2];exact hn1
   have hatG2: ∀G,at_ (S2++G) n= .cells [s1,O U loops] 75:=fun G=>by rw[ag hn2'];exact hn2
   have hsetG2: ∀G o,(S2++G).set n o=S2.set n o++G:=fun G o=>dO hn2' G o
   refine X.drawnBy (fun i=>false) follows (by decide+kernel) (Xd.s (Xd.nil ?_) (by simp[go_sem,aw q0,lk155,lk154,bP,px,aeq4,pf,ha,hl2,hatG2,hsetG2,du];rfl))
   have hF:m5 l loops ⟨kind,(a:Int),rd.sign,rd.up,ac,ap,tc,tp⟩=some (bE l (c,q) (2*(l.length:Int)+1)++[kx rd.up rd.sign (a:Int) (2*(l.length:Int)) (2*(l.length:Int)+1)],loops):=by
    have hB:kQ l loops ⟨kind,(a:Int),rd.sign,rd.up,ac,ap,tc,tp⟩=true:=by simp only[hrd,kQ,g1,g2,g3,g5,g6];rfl
    unfold m5;rw[hB,if_pos rfl];rw[if_neg harc,hF2,hpa,hcast];simp
   simp only[hrd]at hF
   rw[hF]
   refine sK (S2:=S2) (G:=[.cells [O U kind,O U (a:Int),O U rd.sign,.bool rd.up,O U ac,O U ap,O U tc,O U tp] 79,.cells [O U c,O U q] 77,
    .map [(.bool false,.map (some (S1.length+3))),(.bool true,.map (some (S1.length+4)))],
    .map [(O U 1,.agg #[O U (a:Int),O U (2*(l.length:Int)+1),O U (2*(l.length:Int)),O U (2*(l.length:Int))]),(O U (-1),.agg #[O U (a:Int),O U (2*(l.length:Int)),O U (2*(l.length:Int)),O U (2*(l.length:Int)+1)])],
    .map [(O U 1,.agg #[O U (2*(l.length:Int)),O U (2*(l.length:Int)),O U (2*(l.length:Int)+1),O U (a:Int)]),(O U (-1),.agg #[O U (2*(l.length:Int)),O U (a:Int),O U (2*(l.length:Int)+1),O U (2*(l.length:Int))])],.cells (kx rd.up rd.sign (a:Int) (2*(l.length:Int)) (2*(l.length:Int)+1)).cells 73]) rfl hd.1 (by rw[hl2,hlenS])
    (fun k h1=> ?_) (fun o ho=> ?_) (by simp[hrd,kx,Cr.cells,hlenS,hlen1'])
   ·rcases hk2 k with h|⟨h,h'⟩
    ·rcases hfr1 k h1 with h2|⟨h2,h3⟩
     ·exact .inl (h.trans h2)
     ·exact .inr ⟨h2,by rw[h];exact h3⟩
    ·exact .inr ⟨h,by rw[h'];rfl⟩
   ·simp only[EG,EK,or_false]at ho
    rcases ho with rfl|rfl|rfl|rfl|rfl|rfl
    ·exact bC.plain rfl
    ·exact bC.plain rfl
    ·refine bC.Ek fun p hp=> ?_
     simp only[EG,EK,or_false]at hp
     rcases hp with rfl|rfl<;>exact Bel.mp (by simp only[List.length_cons,List.length_nil,hlenS];omega)
    ·exact cQ rfl _
    ·exact cQ rfl _
    ·exact bC.plain rfl
end Go.Proofs.Ytjcomcgpjjianaa
