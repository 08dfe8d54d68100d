import Derived.Test.YtjcomcgpjjianaaA19
import Derived.Test.YtjcomcgpjjianaaA43
set_option linter.all false
set_option maxHeartbeats 16000000
set_option maxRecDepth 8000
open Go.Value renaming int→O
open Go.IntKind renaming i64→U
namespace Go.Proofs.Ytjcomcgpjjianaa
open Go.Ev
def jM(g:List Row)(order:List Int)(perms:List Pm):Int:=if eX g=true then(if ik order perms g.length=true then 0 else 1)else 7
def RefR(H:AH)(g:List Row)(order:List Int)(perms:List Pm)(r:OpR):Prop:= ∃s' X,r= .val (.tuple #[glV s',O U (jM g order perms)]) (H++X)/\(∃x l k,s'= .slice x l k)/\(jM g order perms=0->SlG (H++X) s' (de g order perms))
theorem Row.setT0(r:Row){f:Nat}(hf:f<4)(v:Int):r.cells.set (f*5) (O U v)=(r.put f ⟨v,(r.at f).p⟩).cells:=by
 have:=Row.setT r hf v []
 rwa [Ft,Ft]at this
theorem Br(f:Nat):dA.at f=uR:=by
 match f with
 | 0=>rfl
 | 1=>rfl
 | 2=>rfl
 |f+3=>rfl
theorem ren01_ok(H:AH)(s ov pv:Value)(g:List Row)(order:List Int)(perms:List Pm)(hs:SlG H s g)(hov:cy H ov order)(hpv:mv H pv perms):
 ACE Try.prog 7 [glV s,ov,pv] H (RefR H g order perms):=by
 refine ACE.ofY (N:=103) f7 rfl rfl (EL rfl) ?_
 obtain⟨b0,k0,rfl⟩:=hs.len
 have hck:=fun X=>tv (H++X) (.slice b0 g.length k0) g hs.app
 unfold glV at hck
 refine X.seq (X.g ?_ (by simp[go_sem,glV];rfl))
 cases hA:eX g
 case false=>
  rw[hA,if_neg (by simp)]at hck
  have hE:jM g order perms=7:=by unfold jM;rw[hA];rfl
  refine X.seq (X.seq (X.region (Xl.s ?_)))
  refine Xl.o (Sc b4 (hck _)) ?_
  refine Xl.s (Xl.nil ?_)
  refine X.ct ?_
  refine X.seq (X.g ?_)
  refine X.ret ⟨_,⟨.slice none 0 0,_,rfl,⟨_,_,_,rfl⟩,fun h=>by rw[hE]at h;cases h⟩,_,fun t=> .inr rfl,_,?_,rfl⟩
  rw[hE]
  simp[go_sem,glV]<;>repeat constructor
 rw[hA,if_pos rfl]at hck
 obtain⟨hgl,hg⟩:=(iR g).1 hA
 refine X.seq (X.seq (X.region (Xl.s ?_)))
 refine Xl.o (Sc b4 (hck _)) ?_
 refine Xl.s (Xl.nil ?_)
 refine X.cf (X.skip ?_)
 refine X.seq (X.g ?_)
 have hio:=fun X=>AU (H++X) ov pv order perms g.length hgl (hov.app) hpv.app
 cases hI:ik order perms g.length
 case false=>
  rw[hI]at hio
  have hE:jM g order perms=1:=by unfold jM;rw[hA,hI];rfl
  refine X.seq (X.seq (X.region (Xl.s ?_)))
  refine Xl.o (Sc b22 (hio _)) ?_
  refine Xl.s (Xl.nil ?_)
  refine X.ct ?_
  refine X.seq (X.g ?_)
  refine X.ret ⟨_,⟨.slice none 0 0,_,rfl,⟨_,_,_,rfl⟩,fun h=>by rw[hE]at h;cases h⟩,_,fun t=> .inr rfl,_,?_,rfl⟩
  rw[hE]
  simp[go_sem,glV]<;>repeat constructor
 rw[hI]at hio
 have hO:=(dF _ _ _).1 hI
 have hE:jM g order perms=0:=by unfold jM;rw[hA,hI];rfl
 have hlo:=hO.lo
 have hlp:=hO.lp
 obtain⟨b1,k1,rfl⟩:=hov.len
 obtain⟨b2,k2,rfl⟩:=hpv.len
 have hmk:=fun H=>mk26 H g.length (by omega)
 refine X.seq (X.seq (X.region (Xl.s ?_)))
 refine Xl.o (Sc b22 (hio _)) ?_
 refine Xl.s (Xl.nil ?_)
 refine X.cf (X.skip ?_)
 refine X.seq (X.g ?_ (by simp[go_sem,hmk];rfl))
 refine X.seq (X.seq (X.g ?_))
 refine X.block ?_
 clear hio hck hmk
 have hz0:List.replicate g.length (0:Int)=eK order g.length 0:=rfl
 rw[hz0]
 rw[hlo]at hov⊢
 refine X.loop (fun m E h=> ∃j:Nat,m=g.length-j/\j<=g.length/\ae E 1= .slice b1 g.length k1/\ae E 2= .slice b2 perms.length k2/\ae E 3= .pointer (some ⟨H.length,0,none⟩)/\ae E 6= .pointer (some ⟨H.length+1,0,none⟩)/\ae E 8=O U g.length/\ae E 9= .slice (some ⟨H.length+2,0,none⟩) g.length g.length/\ae E 10=O U j/\h=H++[.cells [.slice b0 g.length k0] 24,.cells [.slice none 0 0] 24,.cells (ints (eK order g.length j)) 3]) g.length
  ⟨0,by omega,by omega,by simp[ae,aB],by simp[ae,aB],by simp[ae,aB],by simp[ae,aB],by simp[ae,aB],by simp[ae,aB],by simp[ae,aB],rfl⟩ ?_
 rintro m E h ⟨j,rfl,hj,e1,e2,e3,e6,e8,e9,e10,rfl⟩
 by_cases hlt:j<g.length
 ·have hlt':(j:Int)<(g.length:Int):=by omega
  have hjj:IntKind.i64.wrap ((j:Int)+1)=((j+1:Nat):Int):=aA (by omega)
  have ht:=hO.val j hlt
  have htl:=hO.lt j hlt
  have hbs:eK order g.length (j+1)=(eK order g.length j).set (bM order j) j:=rfl
  obtain⟨n1,i1,c1,hb1,hr1⟩:=hov.read ht
  rw[hlo]at hb1
  cases hb1
  generalize bM order j=t at ht htl hbs hr1
  have htl':(t:Int)<(g.length:Int):=by omega
  have hr1': ∀X,aj (H++X) n1 (i1+j)=some (O U t):=fun X=>aw hr1
  have hbl:=nG order g.length j
  have hset:(ints (eK order g.length j)).set t (O U j)=ints (eK order g.length (j+1)):=by rw[ints_set,hbs]
  have hbd:t+1<=(ints (eK order g.length j)).length:=by simp[ints,hbl];omega
  refine X.seq (X.seq (X.g ?_ (by simp[go_sem,e8,e10,hlt'];rfl)))
  refine X.ct (X.skip ?_)
  refine X.seq (X.block ?_)
  refine X.g ?_ (by simp[go_sem,e1,e9,e10,hlt',hr1',htl',hset,hbd];rfl)
  refine X.g ?_ (by simp[go_sem,e10];rfl)
  exact⟨g.length-(j+1),by omega,j+1,rfl,by omega,by simp[ae,e1],by simp[ae,e2],by simp[ae,e3],by simp[ae,e6],by simp[ae,e8],by simp[ae,e9],by simp[ae,hjj],rfl⟩
 ·have hjl:j=g.length:=by omega
  subst hjl
  refine X.seq (X.seq (X.g ?_ (by simp[go_sem,e8,e10];rfl)))
  refine X.cf (X.exit ?_)
  simp only[AX.then,AX.inBlock,if_true]
  refine X.seq (X.g ?_)
  refine X.seq (X.seq (X.g ?_))
  refine X.block ?_
  refine X.loop (fun m E h=> ∃(i:Nat) (G:AH) (sl:Value),m=g.length-i/\i<=g.length/\ae E 1= .slice b1 g.length k1/\ae E 2= .slice b2 perms.length k2/\ae E 3= .pointer (some ⟨H.length,0,none⟩)/\ae E 6= .pointer (some ⟨H.length+1,0,none⟩)/\ae E 8=O U g.length/\ae E 9= .slice (some ⟨H.length+2,0,none⟩) g.length g.length/\ae E 11= .pointer (some ⟨H.length+3,0,none⟩)/\ae E 12=O U i/\h=H++G/\RB G (.slice b0 g.length k0) (eK order g.length g.length)/\MN H G 3 sl (fe g order perms i)) g.length
   ⟨0,_,.slice none 0 0,by omega,by omega,by simp[ae,e1],by simp[ae,e2],by simp[ae,e3],by simp[ae,e6],by simp[ae,e8],by simp[ae,e9],by simp[ae],by simp[ae],rfl,⟨rfl,rfl,rfl,by simp⟩,⟨rfl,by simp,by omega,.inl ⟨rfl,rfl,rfl⟩,fun _ _ _ _ h=>(by cases h)⟩⟩ ?_
  clear e1 e2 e3 e6 e8 e9 e10 E hz0
  rintro m E h ⟨i,G,sl,rfl,hi,e1,e2,e3,e6,e8,e9,e11,e12,rfl,hB,hN⟩
  have hii:IntKind.i64.wrap ((i:Int)+1)=((i+1:Nat):Int):=aA (by omega)
  have hril:(fe g order perms i).length=i:=by simp[fe]
  by_cases hlt:i<g.length
  ·have hlt':(i:Int)<(g.length:Int):=by omega
   have hval:=hO.val i hlt
   have htl:=hO.lt i hlt
   have hpiok:=hO.ok i hlt
   obtain⟨n1,i1,c1,hb1,hr1⟩:=hov.read hval
   rw[hlo]at hb1
   cases hb1
   have hp:perms[i]? =some (bY perms i):=by unfold bY;rw[EF,Ex (by omega)];rfl
   obtain⟨n9,i9,c9,hb9,hr9⟩:=hpv.read hp
   cases hb9
   have hip:(i:Int)<(perms.length:Int):=by omega
   have hr1': ∀X,aj (H++X) n1 (i1+i)=some (O U (bM order i:Nat)):=fun X=>aw hr1
   have hpall: ∀j,j<g.length->ak H n9 (i9+j*4) 4=some (bY perms j).cells:=by
    intro j hj
    have hp:perms[j]? =some (bY perms j):=by unfold bY;rw[EF,Ex (by omega)];rfl
    obtain⟨n9',i9',c9',hb9,hr9'⟩:=hpv.read hp
    cases hb9
    exact hr9'
   have hrenF: ∀f,kE g (bM order) (bY perms) (ej order g.length) i f=if(az g (bM order i) ((bY perms i).at f).toNat).t<0 then az g (bM order i) ((bY perms i).at f).toNat
    else⟨(ej order g.length (az g (bM order i) ((bY perms i).at f).toNat).t.toNat:Nat),(bY perms (ej order g.length (az g (bM order i) ((bY perms i).at f).toNat).t.toNat)).undo.times ((az g (bM order i) ((bY perms i).at f).toNat).p.times (bY perms i))⟩:=fun f=>rfl
   generalize hti:bM order i=t at hr1' htl hrenF
   generalize hpri:bY perms i=pi at hr9 hpiok hrenF
   have htl':(t:Int)<(g.length:Int):=by omega
   refine X.seq (X.seq (X.g ?_ (by simp[go_sem,e8,e12,hlt'];rfl)))
   refine X.ct (X.skip ?_)
   refine X.seq (X.block ?_)
   refine X.seq (X.g ?_)
   refine X.seq (X.seq (X.g ?_))
   refine X.block ?_
   refine X.loop (fun m E h=> ∃(q:Nat) (rq:Row) (K:AH),m=4-q/\q<=4/\ae E 1= .slice (some ⟨n1,i1,none⟩) g.length k1/\ae E 2= .slice (some ⟨n9,i9,none⟩) perms.length k2/\ae E 3= .pointer (some ⟨H.length,0,none⟩)/\ae E 6= .pointer (some ⟨H.length+1,0,none⟩)/\ae E 8=O U g.length/\ae E 9= .slice (some ⟨H.length+2,0,none⟩) g.length g.length/\ae E 11= .pointer (some ⟨H.length+3,0,none⟩)/\ae E 12=O U i/\ae E 13= .pointer (some ⟨H.length+G.length,0,none⟩)/\ae E 14=O U q/\h=H++(G++(.cells rq.cells 52::K))/\(∀f,f<q->rq.at f=kE g (bM order) (bY perms) (ej order g.length) i f)/\ ∀f,f<4->q<=f->rq.at f=uR) 4
    ⟨0,dA,[],by omega,by omega,by simp[ae,e1],by simp[ae,e2],by simp[ae,e3],by simp[ae,e6],by simp[ae,e8],by simp[ae,e9],by simp[ae,e11],by simp[ae,e12],by simp[ae],by simp[ae],rfl,fun f hf=>by omega,fun f _ _=>Br f⟩ ?_
   clear e1 e2 e3 e6 e8 e9 e11 e12 E
   rintro m E h ⟨q,rq,K,rfl,hq,e1,e2,e3,e6,e8,e9,e11,e12,e13,e14,rfl,hrq,hrz⟩
   have hqq:IntKind.i64.wrap ((q:Int)+1)=((q+1:Nat):Int):=aA (by omega)
   have rb0: ∀Y,aj (G++Y) 0 0=some (.slice b0 g.length k0):=fun Y=>by rw[ah,(hB.app Y).a0];rfl
   by_cases hq4:q<4
   ·have hq4':(q:Int)<4:=by omega
    have hpl:=Pm.at4 hpiok (i:=(q:Int)) ⟨by omega,by omega⟩
    obtain⟨pl,hpl'⟩: ∃k:Nat,pi.at q=k:=⟨(pi.at q).toNat,by have:=hpl.1;omega⟩
    have hpl4:pl<4:=by have:=hpl.2;omega
    have hpl4':(pl:Int)<4:=by omega
    have hq9: ∀X,aj (H++X) n9 (i9+i*4+q)=some (O U pl):=by
     intro X
     have:=cG hr9 (j:=q) hq4
     unfold Pm.cells at this
     rw[Pm.cells_get pi hq4,hpl']at this
     exact aw this
    obtain⟨n5,i5,c5,hb5,hrx⟩:=hs.face htl hpl4
    cases hb5
    have hxv:=hg t htl pl hpl4
    have hrf:=hrenF q
    rw[hpl',Int.toNat_natCast]at hrf
    generalize az g t pl=x at hrx hxv hrf
    unfold Fc.cells at hrx
    have hbd:q*5+5<=rq.cells.length:=by rw[Row.DP];omega
    have hbd1:q*5+1<=rq.cells.length:=by rw[Row.DP];omega
    have hrx': ∀X,ak (H++X) n5 (i5+t*20+pl*5) 5=some [O U x.t,O U x.p.p0,O U x.p.p1,O U x.p.p2,O U x.p.p3]:=fun X=>aD hrx
    refine X.seq (X.seq (X.g ?_ (by simp[go_sem,e14,hq4'];rfl)))
    refine X.ct (X.skip ?_)
    refine X.seq (X.block ?_)
    refine X.seq (X.drawnBy (fun _=>false) follows (by decide+kernel) (Xd.s (Xd.nil ?_) (by simp[go_sem,e1,e2,e3,e12,e14,rb0,km,hip,hlt',hr1',hq4',hq9,htl',hpl4',hrx'];rfl)))
    have hput: ∀y:Fc,y=kE g (bM order) (bY perms) (ej order g.length) i q->(∀f,f<q+1->(rq.put q y).at f=kE g (bM order) (bY perms) (ej order g.length) i f)/\ ∀f,f<4->q+1<=f->(rq.put q y).at f=uR:=by
     intro y hy
     refine⟨fun f hf=> ?_,fun f hf hf'=> ?_⟩
     ·rw[Row.D2 rq y hq4 (by omega)]
      by_cases e:q=f
      ·subst e;rw[if_pos rfl,hy]
      ·rw[if_neg e];exact hrq f (by omega)
     ·rw[Row.D2 rq y hq4 hf,if_neg (by omega)]
      exact hrz f hf (by omega)
    by_cases hneg:x.t<0
    ·rw[if_pos hneg]at hrf
     have hxe:x=kD:=by
      rcases hxv with h|h
      ·exact h
      ·have:=h.lo;omega
     have hset:=Row.setT0 rq hq4 (-1)
     rw[hrz q hq4 (EJ q)]at hset
     have hset:rq.cells.set (q*5) (O U (-1))=(rq.put q kD).cells:=hset
     refine X.seq (X.seq (X.g ?_ (by simp[go_sem,hneg];rfl)))
     refine X.ct ?_
     refine X.seq (X.g ?_ (by simp[go_sem,e13,e14,hq4',hset,hbd1];rfl))
     refine X.exit ?_
     simp only[AX.then,AX.inBlock,if_true]
     refine X.g ?_ (by simp[go_sem,e14];rfl)
     obtain⟨h1,h2⟩:=hput kD (by rw[hrf,hxe])
     exact⟨4-(q+1),by omega,q+1,rq.put q kD,_,rfl,by omega,by simp[ae,e1],by simp[ae,e2],by simp[ae,e3],by simp[ae,e6],by simp[ae,e8],by simp[ae,e9],by simp[ae,e11],by simp[ae,e12],by simp[ae,e13],by simp[ae,hqq],rfl,h1,h2⟩
    ·have hge:0<=x.t:=by omega
     rw[if_neg hneg]at hrf
     have hxo:FOk g t pl x:=by
      rcases hxv with h|h
      ·rw[h]at hneg;exact absurd (show(kD.t:Int)<0 by decide) hneg
      ·exact h
     have hxhi:=hxo.hi
     have hxok:=hxo.ok
     have hxtn:x.t.toNat<g.length:=by omega
     have hbk:=hO.back_get hxtn
     have hbkl:=(hO.ord_back hxtn).1
     generalize hbke:ej order g.length x.t.toNat=bk at hbk hbkl hrf
     have hpbok:=hO.ok bk hbkl
     have hpb: ∀X,ak (H++X) n9 (i9+bk*4) 4=some (bY perms bk).cells:=fun X=>aD (hpall bk hbkl)
     have hpi': ∀X,ak (H++X) n9 (i9+i*4) 4=some pi.cells:=fun X=>aD hr9
     unfold Pm.cells at hpb hpi'
     have hbl:(bk:Int)<(perms.length:Int):=by omega
     have hxn:x.t<(g.length:Int):=hxhi
     have rb2: ∀Y,aj (G++Y) 2 x.t.toNat=some (O U bk):=fun Y=>by rw[ah,(hB.app Y).a2];exact pZ hbk
     have hu:=fun H=>BR H hpbok
     have hta:=fun H=>tJ H hxok hpiok
     have htb:=fun H=>tJ H (Pm.DN hpbok) (Pm.DM hxok hpiok)
     generalize bY perms bk=pb at hpb hu htb hrf
     generalize x.p.times pi=q1 at hta htb hrf
     generalize pb.undo=pu at hu htb hrf
     have hset2:=Row.D6 rq hq4 ⟨bk,pu.times q1⟩
     generalize pu.times q1=q2 at htb hrf hset2
     obtain⟨q20,q21,q22,q23⟩:=q2
     obtain⟨q10,q11,q12,q13⟩:=q1
     obtain⟨pu0,pu1,pu2,pu3⟩:=pu
     unfold Pm.val at hu hta htb
     unfold Fc.cells at hset2
     simp only[setAll]at hset2
     refine X.seq (X.seq (X.g ?_ (by simp[go_sem,hneg];rfl)))
     refine X.cf (X.skip ?_)
     refine X.seq (X.g ?_ (by simp[go_sem,e9,hge,hxn,rb2];rfl))
     refine X.drawnBy (fun i=>i==6||i==13||i==14) follows (by decide+kernel) (Xd.s ?_ (by simp[go_sem,e2,km,hbl,hpb];rfl))
     refine Xd.t (Sc b14 (hu _)) ?_
     refine Xd.s ?_ (by simp[go_sem,e2,e12,km,hip,hpi'];rfl)
     refine Xd.t (Sc b8 (hta _)) ?_
     refine Xd.t (Sc b8 (htb _)) ?_
     refine Xd.s (Xd.nil ?_) (by simp[go_sem,e13,e14,hq4',hset2,hbd];rfl)
     refine X.g ?_ (by simp[go_sem,e14];rfl)
     obtain⟨h1,h2⟩:=hput ⟨bk,⟨q20,q21,q22,q23⟩⟩ hrf.symm
     exact⟨4-(q+1),by omega,q+1,rq.put q ⟨bk,⟨q20,q21,q22,q23⟩⟩,_,rfl,by omega,by simp[ae,e1],by simp[ae,e2],by simp[ae,e3],by simp[ae,e6],by simp[ae,e8],by simp[ae,e9],by simp[ae,e11],by simp[ae,e12],by simp[ae,e13],by simp[ae,hqq],rfl,h1,h2⟩
   ·have hq4:q=4:=by omega
    subst hq4
    have hrow:rq=eS g order perms i:=Row.ext fun f hf=>by rw[hrq f hf,qZ _ _ _ _ hf]
    subst hrow
    have hB1:=hB.app (.cells (eS g order perms i).cells 52::K)
    have hN1:=hN.app (.cells (eS g order perms i).cells 52::K)
    have hsucc:=uN g order perms i
    have hat:=bF G (AO.cells (eS g order perms i).cells 52) K
    have hbs:=fun H=>AD H (eS g order perms i)
    generalize eS g order perms i=R at hB1 hN1 hsucc hat hbs
    refine X.seq (X.seq (X.g ?_ (by simp[go_sem,e14];rfl)))
    refine X.cf (X.exit ?_)
    simp only[AX.then,AX.inBlock,if_true]
    generalize G++(AO.cells R.cells 52::K)=G1 at hB1 hN1 hat
    have r12:aj G1 3 0=some sl:=by rw[ah,hN1.ac];rfl
    have r14:ak G1 G.length 0 20=some R.cells:=ao hat rfl
    obtain⟨G',ha,hgr,hl',hkk⟩:=app22 R (by omega) hN1.gr
    obtain⟨h3,hN2,hk2,_⟩:=hN1.moreK hgr hl' hkk
    have hle:G1.length+1<=G'.length:=by omega
    rw[hril]at ha hN2 hk2
    have hB2:=hB1.keep hk2 (by rw[EA];omega)
    unfold Row.cells at r14 ha hbs
    refine X.g ?_ (by simp[go_sem,e11,e13,r12,r14,hbs,ha,h3,hle];rfl)
    refine X.g ?_ (by simp[go_sem,e12];rfl)
    refine⟨g.length-(i+1),by omega,i+1,_,.slice (some ⟨H.length+(G1.length+1),0,none⟩) (i+1) (unk+20),rfl,by omega,by simp[ae,e1],by simp[ae,e2],by simp[ae,e3],by simp[ae,e6],by simp[ae,e8],by simp[ae,e9],by simp[ae,e11],by simp[ae,hii],rfl,hB2,?_⟩
    rw[hsucc];exact hN2
  ·have hil:i=g.length:=by omega
   subst hil
   refine X.seq (X.seq (X.g ?_ (by simp[go_sem,e8,e12];rfl)))
   refine X.cf (X.exit ?_)
   simp only[AX.then,AX.inBlock,if_true]
   obtain⟨bs,cs,hsl⟩:=hN.len
   subst hsl
   have r24:=ao (k:=1) hN.ac rfl
   have h1:=hB.a1
   refine X.seq (X.g ?_ (by simp[go_sem,e6,e11,r24,h1];rfl))
   have hl2:=hB.l
   have hS:SlG (H++G.set 1 (.cells [.slice bs (fe g order perms g.length).length cs] 24)) (.slice bs (fe g order perms g.length).length cs) (de g order perms):=by
    have hrr:de g order perms=fe g order perms g.length:=rfl
    rcases hN.gr with ⟨h1,h2,_⟩|⟨jr,C,h1,h2,h3,h4,_⟩
    ·left
     refine⟨?_,.inl h1⟩
     rw[hrr];exact Fr.1 h2
    ·refine .inr ⟨H.length+jr,0,C,h1,?_⟩
     have hne:jr≠1:=fun e=>hN.ot 1 (.inl (by omega)) (fe g order perms g.length).length C (by rw[h1,e])
     rw[aF,eO hne,hrr]
     exact ao h3 h4.symm
   have r6:=ao (S:=G.set 1 (.cells [.slice bs (fe g order perms g.length).length cs] 24)) (n:=1) (k:=1) (au (by omega) _) rfl
   refine X.ret ⟨_,⟨_,_,rfl,⟨_,_,_,rfl⟩,fun _=>hS⟩,_,fun t=> .inr rfl,.tuple #[glV (.slice bs (fe g order perms g.length).length cs),O U 0],?_,by rw[hE]⟩
   simp[go_sem,e6,r6,glV]<;>repeat constructor
end Go.Proofs.Ytjcomcgpjjianaa
