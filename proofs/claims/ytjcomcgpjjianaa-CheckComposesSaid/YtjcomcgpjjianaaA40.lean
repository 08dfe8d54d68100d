import Derived.Test.YtjcomcgpjjianaaA19
import Derived.Test.YtjcomcgpjjianaaA39
set_option linter.all false
set_option maxHeartbeats 16000000
set_option maxRecDepth 8000
open Go.Value renaming int→O
open Go.IntKind renaming i64→U
namespace Go.Proofs.Ytjcomcgpjjianaa
open Go.Ev
noncomputable def ek:Code->Code| .seq _ c=>c|_=> .skip
noncomputable def fstC:Code->Code| .seq c _=>c|_=> .skip
noncomputable def mv7:Code:=ek (ek (ek (ek (ek (ek (ek (Try.f19.body.getD .skip)))))))
noncomputable def mvL0:Code:=fstC mv7
noncomputable def mvL2:Code:=fstC (ek (ek mv7))
noncomputable def mvL4:Code:=fstC (ek (ek (ek (ek (ek mv7)))))
noncomputable def mvL8:Code:=fstC (ek (ek (ek (ek (ek (ek (ek mv7)))))))
noncomputable def mvL10:Code:=fstC (ek (ek (ek (ek (ek (ek (ek (ek mv7))))))))
theorem uy(out:List Fc): ∀t,aG out t<=t
 | 0=>EJ 0
 |t+1=>by have:=uy out t;simp only[aG];split<;>omega
structure MB(G:AH)(pv:List Value)(nums:List Int)(ms:List (Int×Int)):Prop where
 a0:at_ G 0= .cells pv 101
 a1:at_ G 1= .cells (ints nums) 3
 a2:at_ G 2= .map (cx ms)
 l:2<G.length
theorem MB.app{G:AH}{pv:List Value}{nums:List Int}{ms:List (Int×Int)}(h:MB G pv nums ms)(G':AH):MB (G++G') pv nums ms:=by
 have:=h.l
 exact⟨by rw[ag (by omega)];exact h.a0,by rw[ag (by omega)];exact h.a1,by rw[ag (by omega)];exact h.a2,by simp;omega⟩
structure ME(E:Env)(n b len:Nat):Prop where
 e0:ae E 0= .pointer (some ⟨n,0,none⟩)
 e7:ae E 7= .pointer (some ⟨b,0,none⟩)
 e8:ae E 8= .slice (some ⟨b+1,0,none⟩) len len
 e9:ae E 9= .map (some (b+2))
theorem mvL0_ok{Hk B G:AH}{E:Env}{Q:AX->Env->AH->Prop}{n len:Nat}{n1 c1:Nat}{p1 p2 p3:Value}{nums:List Int}{out:List Fc}(he:ME E n B.length len)(hG:MB G [.slice (some ⟨n1,0,none⟩) out.length c1,p1,p2,p3] nums [])(ho:ak B n1 0 (out.length*5)=some (eI out))(hl:out.length<=1000)(hd: ∀(i j:Nat) (y z:Fc),out[i]? =some y->out[j]? =some z->y.t=z.t->i=j)(hQ: ∀E' G',ME E' n B.length len->MB G' [.slice (some ⟨n1,0,none⟩) out.length c1,p1,p2,p3] nums (gM out 0)->Q .normal E' (B++G')):X ⟨Try.prog,332,Hk⟩ mvL0 Q E (B++G):=by
 have r0:aj G 0 0=some (.slice (some ⟨n1,0,none⟩) out.length c1):=by rw[ah,hG.a0];rfl
 have e7:=he.e7
 refine X.seq (X.g ?_ (by simp[go_sem,e7,r0];rfl))
 refine X.block ?_
 refine X.loop (fun m E h=> ∃j G,m=out.length-j/\j<=out.length/\ME E n B.length len/\ae E 85= .slice (some ⟨n1,0,none⟩) out.length c1/\ae E 86=O U out.length/\ae E 87=O U (j:Nat)/\h=B++G/\MB G [.slice (some ⟨n1,0,none⟩) out.length c1,p1,p2,p3] nums (gM (out.take j) 0)) out.length
  ⟨0,G,by omega,by omega,⟨by simp[ae,he.e0],by simp[ae,he.e7],by simp[ae,he.e8],by simp[ae,he.e9]⟩,by simp[ae],by simp[ae],by simp[ae],rfl,hG⟩ ?_
 clear he e7 hG r0 E G
 rintro m E h ⟨j,G,rfl,hj,he,e85,e86,e87,rfl,hG⟩
 by_cases hlt:j<out.length
 ·have hlt':(j:Int)<(out.length:Int):=by omega
  obtain⟨y,hy,r5,_⟩:=jH ho hlt
  rw[EU]at r5
  have hput:=gM_put hd hy
  obtain⟨yt,⟨y0,y1,y2,y3⟩⟩:=y
  unfold Fc.cells at r5
  simp only at hput
  have r5': ∀X,ak (B++X) n1 (j*5) 5=some [O U yt,O U y0,O U y1,O U y2,O U y3]:=fun X=>aD r5
  have hG1:=hG.app [.cells [O U yt,O U y0,O U y1,O U y2,O U y3] 103]
  have hmu:=rT (H:=B++(G++[.cells [O U yt,O U y0,O U y1,O U y2,O U y3] 103])) (n:=B.length+2) (by rw[aq];exact hG1.a2) yt j
  rw[hput,bV]at hmu
  have hjj:IntKind.i64.wrap ((j:Int)+1)=((j+1:Nat):Int):=aA (by omega)
  have e9:=he.e9
  refine X.seq (X.g ?_ (by simp[go_sem,e86,e87,hlt'];rfl))
  refine X.seq (X.ct (X.skip ?_))
  refine X.seq (X.block ?_)
  refine X.seq (X.g ?_ (by simp[go_sem,e85,e87,hlt',r5'];rfl))
  refine X.g ?_ (by simp[go_sem,e9,hmu];rfl)
  refine X.g ?_ (by simp[go_sem,e87];rfl)
  refine⟨out.length-(j+1),by omega,j+1,_,rfl,by omega,⟨by simp[ae,he.e0],by simp[ae,he.e7],by simp[ae,he.e8],by simp[ae,he.e9]⟩,by simp[ae,e85],by simp[ae,e86],by simp[ae,hjj],rfl,?_⟩
  have hl:=hG1.l
  exact⟨by rw[af (by omega)];exact hG1.a0,by rw[af (by omega)];exact hG1.a1,au hl _,by rw[EA];exact hl⟩
 ·have hjl:j=out.length:=by omega
  subst hjl
  refine X.seq (X.g ?_ (by simp[go_sem,e86,e87];rfl))
  refine X.seq (X.cf (X.exit ?_))
  simp only[AX.then,AX.inBlock,if_true]
  rw[Fp]at hG
  exact hQ _ _ ⟨by simp[ae,he.e0],by simp[ae,he.e7],by simp[ae,he.e8],by simp[ae,he.e9]⟩ hG
structure MN(B G:AH)(j12:Nat)(sl:Value)(l:List Row):Prop where
 ac:at_ G j12= .cells [sl] 24
 lt:j12<G.length
 gt:2<j12
 gr:bA G B.length 52 20 sl l.length (aV l)
 ot: ∀k,k<=2\/k=j12->bA.DJ B.length sl k
theorem MN.app{B G:AH}{j12:Nat}{sl:Value}{l:List Row}(h:MN B G j12 sl l)(G':AH):MN B (G++G') j12 sl l:=⟨by rw[ag h.lt];exact h.ac,by have:=h.lt;simp;omega,h.gt,h.gr.more G',h.ot⟩
theorem MN.set1{B G:AH}{j12:Nat}{sl:Value}{l:List Row}(h:MN B G j12 sl l){k:Nat}(hk:k<=2)(o:AO):MN B (G.set k o) j12 sl l:=⟨by rw[af (by have:=h.gt;omega)];exact h.ac,by rw[EA];exact h.lt,h.gt,h.gr.set (h.ot k (.inl hk)) o,h.ot⟩
theorem MN.len{B G:AH}{j12:Nat}{sl:Value}{l:List Row}(h:MN B G j12 sl l): ∃b c,sl= .slice b l.length c:=by
 rcases h.gr with ⟨h1,h2,_⟩|⟨i,C,h1,_⟩
 ·exact⟨none,0,by rw[h1,h2]⟩
 ·exact⟨_,_,h1⟩
theorem MN.more{B G G':AH}{j12:Nat}{sl:Value}{l:List Row}{r:Row}{pv:List Value}{nums:List Int}{ms:List (Int×Int)}(h:MN B G j12 sl l)(hm:MB G pv nums ms)(hg:bA G' B.length 52 20 (.slice (some ⟨B.length+(G.length+1),0,none⟩) (l.length+1) (unk+20)) (l.length+1) (aV l++r.cells))(hl:G'.length=G.length+2)(hk: ∀j,j<G.length->bA.DJ B.length sl j->at_ G' j=at_ G j):
 at_ G' j12= .cells [sl] 24/\MN B (G'.set j12 (.cells [.slice (some ⟨B.length+(G.length+1),0,none⟩) (l.length+1) (unk+20)] 24)) j12 (.slice (some ⟨B.length+(G.length+1),0,none⟩) (l.length+1) (unk+20)) (l++[r])/\MB (G'.set j12 (.cells [.slice (some ⟨B.length+(G.length+1),0,none⟩) (l.length+1) (unk+20)] 24)) pv nums ms:=by
 have h1:=h.lt
 have h2:=h.gt
 have h3:=hm.l
 have hne: ∀k,k<=2\/k=j12->bA.DJ B.length (.slice (some ⟨B.length+(G.length+1),0,none⟩) (l.length+1) (unk+20)) k:=fun k hk=>dv (by omega)
 refine⟨by rw[hk j12 h1 (h.ot _ (.inr rfl))];exact h.ac,⟨au (by omega) _,by rw[EA];omega,h2,?_,hne⟩,?_,?_,?_,by rw[EA];omega⟩
 ·refine bA.set ?_ (hne _ (.inr rfl)) _
  rw[nP,Ez]
  simpa[aV]using hg
 ·rw[af (by omega),hk 0 (by omega) (h.ot _ (.inl (by omega)))];exact hm.a0
 ·rw[af (by omega),hk 1 (by omega) (h.ot _ (.inl (by omega)))];exact hm.a1
 ·rw[af (by omega),hk 2 (by omega) (h.ot _ (.inl (by omega)))];exact hm.a2
theorem mvL2_ok{Hk B G:AH}{E:Env}{Q:AX->Env->AH->Prop}{n:Nat}{pv:List Value}{out:List Fc}{s:Value}{g:List Row}{j12:Nat}{ms:List (Int×Int)}(hms: ∀a,look ms a=(cm out a).map fun(j:Nat)=>(j:Int))(hc:aj B n 0=some s)(hs:SlG B s g)(hgl:g.length<=1000)(he:ME E n B.length g.length)(e12:ae E 12= .pointer (some ⟨B.length+j12,0,none⟩))(hG:MB G pv (dN out g.length 0) ms)(hN:MN B G j12 (.slice none 0 0) [])(hQ: ∀E' G' sl,ME E' n B.length g.length->ae E' 12= .pointer (some ⟨B.length+j12,0,none⟩)->MB G' pv (dN out g.length g.length) ms->MN B G' j12 sl (eH g out g.length)->Q .normal E' (B++G')):X ⟨Try.prog,332,Hk⟩ mvL2 Q E (B++G):=by
 obtain⟨b0,k0,rfl⟩:=hs.len
 have r0: ∀X,aj (B++X) n 0=some (.slice b0 g.length k0):=fun X=>aw hc
 have e0:=he.e0
 refine X.seq (X.g ?_ (by simp[go_sem,e0,r0];rfl))
 refine X.block ?_
 refine X.loop (fun m E h=> ∃t G sl,m=g.length-t/\t<=g.length/\ME E n B.length g.length/\ae E 12= .pointer (some ⟨B.length+j12,0,none⟩)/\ae E 101= .slice b0 g.length k0/\ae E 102=O U g.length/\ae E 103=O U (t:Nat)/\h=B++G/\MB G pv (dN out g.length t) ms/\MN B G j12 sl (eH g out t)) g.length
  ⟨0,G,.slice none 0 0,by omega,by omega,⟨by simp[ae,he.e0],by simp[ae,he.e7],by simp[ae,he.e8],by simp[ae,he.e9]⟩,by simp[ae,e12],by simp[ae],by simp[ae],by simp[ae],rfl,hG,hN⟩ ?_
 clear he e0 e12 hG hN E G
 rintro m E h ⟨t,G,sl,rfl,ht,he,e12,e101,e102,e103,rfl,hG,hN⟩
 have htt:IntKind.i64.wrap ((t:Int)+1)=((t+1:Nat):Int):=aA (by omega)
 by_cases hlt:t<g.length
 ·have hlt':(t:Int)<(g.length:Int):=by omega
  have hr:=Ex hlt
  generalize g[t]'hlt=r at hr
  obtain⟨n2,i2,c2,hb2,r20,_⟩:=hs.read hr
  cases hb2
  have r20': ∀X,ak (B++X) n2 (i2+t*20) 20=some r.cells:=fun X=>aD r20
  have e8:=he.e8
  have e9:=he.e9
  have hG1:=hG.app [.cells r.cells 52]
  have hN1:=hN.app [.cells r.cells 52]
  have hlk:=lk104 (H:=B++(G++[.cells r.cells 52])) (n:=B.length+2) (by rw[aq];exact hG1.a2) t
  rw[hms]at hlk
  have hlk':cU Try.prog (B++(G++[.cells r.cells 52])) 104 (.map (some (B.length+2))) (O U t) true=some (.tuple #[O U (((cm out t).map fun(j:Nat)=>(j:Int)).getD 0),.bool (cm out t).isSome]):=by
   rw[hlk,Option.isSome_map]
  unfold Row.cells at r20' hlk'
  refine X.seq (X.g ?_ (by simp[go_sem,e102,e103,hlt'];rfl))
  refine X.seq (X.ct (X.skip ?_))
  refine X.seq (X.block ?_)
  refine X.seq (X.g ?_ (by simp[go_sem,e101,e103,hlt',r20'];rfl))
  refine X.seq (X.g ?_ (by simp[go_sem,e9,hlk'];rfl))
  cases hk:(cm out t).isSome
  ·have hnum:=Ce (n:=g.length) hk
   have hnl:=jj out g.length t
   refine X.seq (X.g ?_)
   refine X.ct ?_
   have hbs:=fun H=>AD H r
   obtain⟨X0,hX0⟩: ∃X0,X0=[AO.cells r.cells 52]:=⟨_,rfl⟩
   rw[<-hX0]at hG1 hN1
   have r14: ∀k,at_ (G++X0) k=at_ (G++[AO.cells r.cells 52]) k:=fun k=>by rw[hX0]
   have hX0':=hX0
   unfold Row.cells at hX0 hbs
   rw[<-hX0]
   have hlG1:(G++X0).length=G.length+1:=by rw[hX0];simp
   have hrG:=r14 G.length
   rw[aL]at hrG
   generalize hGG:G++X0=G1 at hG1 hN1 hrG hlG1
   have ha1:=hG1.a1
   have hl1:=hG1.l
   have htl:t+1<=(ints (dN out g.length t)).length:=by simp[ints,jj];exact hlt
   have hkl:=jg g out (n:=t) (by omega)
   obtain⟨bs,cs,hsl⟩:=hN1.len
   have r12:aj G1 j12 0=some sl:=by rw[ah,hN1.ac];rfl
   have hset:(ints (dN out g.length t)).set t (O U ((eH g out t).length:Nat))=ints (dN out g.length (t+1)):=by rw[ints_set,hkl,hnum]
   refine X.seq (X.g ?_ (by simp[go_sem,e8,e12,r12,hsl,ha1,htl,hlt',hset];rfl))
   have hG2:MB (G1.set 1 (.cells (ints (dN out g.length (t+1))) 3)) pv (dN out g.length (t+1)) ms:=⟨by rw[af (by omega)];exact hG1.a0,au (by omega) _,by rw[af (by omega)];exact hG1.a2,by rw[EA];exact hl1⟩
   have hN2:=hN1.set1 (k:=1) (by omega) (.cells (ints (dN out g.length (t+1))) 3)
   have hr2:at_ (G1.set 1 (.cells (ints (dN out g.length (t+1))) 3)) G.length= .cells r.cells 52:=by rw[af (by have:=hG.l;omega)];exact hrG
   generalize G1.set 1 (.cells (ints (dN out g.length (t+1))) 3)=G2 at hG2 hN2 hr2
   have r12':aj G2 j12 0=some sl:=by rw[ah,hN2.ac];rfl
   have r142:ak G2 G.length 0 20=some r.cells:=ao hr2 rfl
   obtain⟨G',ha,hgr,hl',hkk⟩:=app22 r (by have:=uy out t;omega) hN2.gr
   obtain⟨hj,hN3,hG3⟩:=hN2.more hG2 hgr hl' hkk
   have hle:G2.length+1<=G'.length:=by omega
   unfold Row.cells at r142 ha
   refine X.g ?_ (by simp[go_sem,e12,r12',r142,hbs,ha,hj,hle];rfl)
   refine X.g ?_ (by simp[go_sem,e103];rfl)
   refine⟨g.length-(t+1),by omega,t+1,_,.slice (some ⟨B.length+(G2.length+1),0,none⟩) ((eH g out t).length+1) (unk+20),rfl,by omega,⟨by simp[ae,he.e0],by simp[ae,he.e7],by simp[ae,he.e8],by simp[ae,he.e9]⟩,by simp[ae,e12],by simp[ae,e101],by simp[ae,e102],by simp[ae,htt],rfl,hG3,?_⟩
   have hkr:eH g out (t+1)=eH g out t++[r]:=by
    simp only[eH,hk,EO,if_false,hr,Option.toList_some]
   rw[hkr];exact hN3
  ·refine X.seq (X.g ?_)
   refine X.cf (X.skip ?_)
   refine X.g ?_ (by simp[go_sem,e103];rfl)
   refine⟨g.length-(t+1),by omega,t+1,_,sl,rfl,by omega,⟨by simp[ae,he.e0],by simp[ae,he.e7],by simp[ae,he.e8],by simp[ae,he.e9]⟩,by simp[ae,e12],by simp[ae,e101],by simp[ae,e102],by simp[ae,htt],rfl,?_,?_⟩
   ·rw[Bf hk];exact hG1
   ·show MN B _ j12 sl (eH g out (t+1))
    simp only[eH,hk,if_true]
    exact hN1
 ·have htl:t=g.length:=by omega
  subst htl
  refine X.seq (X.g ?_ (by simp[go_sem,e102,e103];rfl))
  refine X.seq (X.cf (X.exit ?_))
  simp only[AX.then,AX.inBlock,if_true]
  exact hQ _ _ sl ⟨by simp[ae,he.e0],by simp[ae,he.e7],by simp[ae,he.e8],by simp[ae,he.e9]⟩ (by simp[ae,e12]) hG hN
theorem MN.put{B G:AH}{j12 jr C:Nat}{l l':List Row}(h:MN B G j12 (.slice (some ⟨B.length+jr,0,none⟩) l.length C) l)(hl:l'.length=l.length):MN B (G.set jr (.cells (aV l') 52)) j12 (.slice (some ⟨B.length+jr,0,none⟩) l'.length C) l':=by
 have hj:jr≠j12:=fun e=>h.ot j12 (.inr rfl) l.length C (by rw[e])
 refine⟨by rw[af hj,hl];exact h.ac,by rw[EA];exact h.lt,h.gt,?_,fun k hk len C' he=> ?_⟩
 ·rcases h.gr with ⟨h1,_⟩|⟨i,C',h1,h2,h3,h4,h5⟩
  ·cases h1
  ·simp only[Fw,ER,F3]at h1
   have:i=jr:=by omega
   subst this
   exact .inr ⟨i,C,rfl,by rw[EA];exact h2,au h2 _,dp _,by rw[hl,h1.2.2];exact h5⟩
 ·simp only[Fw,ER,F3]at he
  exact h.ot k hk l.length C (by simp[he.1])
theorem MN.row{B G:AH}{j12 jr C:Nat}{l:List Row}(h:MN B G j12 (.slice (some ⟨B.length+jr,0,none⟩) l.length C) l):jr<G.length/\at_ G jr= .cells (aV l) 52/\jr≠j12/\2<jr:=by
 have hot: ∀k,k<=2\/k=j12->jr≠k:=fun k hk e=>h.ot k hk l.length C (by rw[e])
 rcases h.gr with ⟨h1,_⟩|⟨i,C',h1,h2,h3,h4,h5⟩
 ·cases h1
 ·simp only[Fw,ER,F3]at h1
  have:i=jr:=by omega
  subst this
  refine⟨h2,h3,hot _ (.inr rfl),?_⟩
  have:=hot 0 (.inl (by omega))
  have:=hot 1 (.inl (by omega))
  have:=hot 2 (.inl (by omega))
  omega
theorem MB.setBig{G:AH}{pv:List Value}{nums:List Int}{ms:List (Int×Int)}(h:MB G pv nums ms){k:Nat}(hk:2<k)(o:AO):MB (G.set k o) pv nums ms:=⟨by rw[af (by omega)];exact h.a0,by rw[af (by omega)];exact h.a1,by rw[af (by omega)];exact h.a2,by rw[EA];exact h.l⟩
theorem Row.ext{r s:Row}(h: ∀f,f<4->r.at f=s.at f):r=s:=by
 have h0:=h 0 (by omega)
 have h1:=h 1 (by omega)
 have h2:=h 2 (by omega)
 have h3:=h 3 (by omega)
 obtain⟨a,b,c,d⟩:=r
 obtain⟨a',b',c',d'⟩:=s
 simp only[Row.at]at h0 h1 h2 h3
 rw[h0,h1,h2,h3]
theorem rows_ext{l m:List Row}(hl:l.length=m.length)(h: ∀t,t<l.length-> ∀f,f<4->az l t f=az m t f):l=m:=by
 apply Gx hl
 intro t h1 h2
 refine Row.ext fun f hf=> ?_
 have:=h t h1 f hf
 unfold az at this
 rw[Ex h1,Ex h2]at this
 exact this
theorem face_map{F:Fc->Fc}{l:List Row}{t:Nat}(ht:t<l.length)(f:Nat):az (l.map (Row.map F)) t f=F (az l t f):=by
 unfold az
 rw[EM,Ex ht]
 exact Row.Eh _ _ _
theorem mvL4_ok{Hk B G:AH}{E:Env}{Q:AX->Env->AH->Prop}{n len:Nat}{pv:List Value}{nums:List Int}{ms:List (Int×Int)}{sl:Value}{j12:Nat}{l0:List Row}{F:Fc->Fc}(hnl:nums.length=len)(hl0:l0.length<=1000)(hF: ∀t,t<l0.length-> ∀f,f<4->((az l0 t f).t<0/\F (az l0 t f)=az l0 t f)\/(0<=(az l0 t f).t/\ ∃v,nums[(az l0 t f).t.toNat]? =some v/\F (az l0 t f)=⟨v,(az l0 t f).p⟩))(he:ME E n B.length len)(e12:ae E 12= .pointer (some ⟨B.length+j12,0,none⟩)){v17:Value}(e17:ae E 17=v17)(hG:MB G pv nums ms)(hN:MN B G j12 sl l0)(hQ: ∀E' G',ME E' n B.length len->ae E' 12= .pointer (some ⟨B.length+j12,0,none⟩)->ae E' 17=v17->MB G' pv nums ms->MN B G' j12 sl (l0.map (Row.map F))->Q .normal E' (B++G')):X ⟨Try.prog,332,Hk⟩ mvL4 Q E (B++G):=by
 have r12:aj G j12 0=some sl:=by rw[ah,hN.ac];rfl
 obtain⟨b0,c0,hsl⟩:=hN.len
 refine X.seq (X.g ?_ (by simp[go_sem,e12,r12,hsl];rfl))
 refine X.block ?_
 refine X.loop (fun m E h=> ∃t G l,m=l0.length-t/\t<=l0.length/\ME E n B.length len/\ae E 12= .pointer (some ⟨B.length+j12,0,none⟩)/\ae E 17=v17/\ae E 139=sl/\ae E 140=O U l0.length/\ae E 141=O U (t:Nat)/\h=B++G/\MB G pv nums ms/\MN B G j12 sl l/\l.length=l0.length/\ ∀T f,f<4->az l T f=if T<t then F (az l0 T f)else az l0 T f) l0.length
  ⟨0,G,l0,by omega,by omega,⟨by simp[ae,he.e0],by simp[ae,he.e7],by simp[ae,he.e8],by simp[ae,he.e9]⟩,by simp[ae,e12],by simp[ae,e17],by simp[ae,hsl],by simp[ae],by simp[ae],rfl,hG,hN,rfl,fun T f _=>by simp⟩ ?_
 clear he e12 e17 hG hN r12 E G
 rintro m E h ⟨t,G,l,rfl,ht,he,e12,e17,e139,e140,e141,rfl,hG,hN,hll,hfl⟩
 by_cases hlt:t<l0.length
 ·have hlt':(t:Int)<(l0.length:Int):=by omega
  have htt:IntKind.i64.wrap ((t:Int)+1)=((t+1:Nat):Int):=aA (by omega)
  obtain⟨jr,C,rfl⟩: ∃jr C,sl= .slice (some ⟨B.length+jr,0,none⟩) l.length C:=by
   rcases hN.gr with ⟨_,h,_⟩|⟨i,C,h,_⟩
   ·omega
   ·exact⟨i,C,h⟩
  obtain⟨w1,w2,w3,w4⟩:=hN.row
  have htl:t<l.length:=by omega
  have htl':(t:Int)<(l.length:Int):=by omega
  have hr:=Ex htl
  generalize l[t]'htl=r at hr
  have r20:ak G jr (t*20) 20=some r.cells:=by
   have h0:ak G jr 0 (l.length*20)=some (aV l):=ao w2 (dp _).symm
   have:=bL h0 (j:=t*20) (m:=20) (by omega)
   rw[EU,lO l t r hr]at this
   rw[this];rfl
  have hrf: ∀f,f<4->r.at f=az l0 t f:=by
   intro f hf
   have:=hfl t f hf
   rw[if_neg (by omega)]at this
   rw[<-this];unfold az;rw[hr]
  unfold Row.cells at r20
  refine X.seq (X.g ?_ (by simp[go_sem,e140,e141,hlt'];rfl))
  refine X.seq (X.ct (X.skip ?_))
  refine X.seq (X.block ?_)
  refine X.seq (X.g ?_ (by simp[go_sem,e139,e141,htl',r20];rfl))
  refine X.seq (X.g ?_)
  refine X.block ?_
  have hG1:=hG.app [.cells r.cells 52]
  have hN1:=hN.app [.cells r.cells 52]
  refine X.loop (fun m E h=> ∃(q:Nat) (G:AH) (l':List Row),m=4-q/\q<=4/\ME E n B.length len/\ae E 12= .pointer (some ⟨B.length+j12,0,none⟩)/\ae E 17=v17/\ae E 139= .slice (some ⟨B.length+jr,0,none⟩) l.length C/\ae E 140=O U l0.length/\ae E 141=O U (t:Nat)/\ae E 18=O U (t:Nat)/\ae E 146=r.val/\ae E 147=O U (q:Nat)/\h=B++G/\MB G pv nums ms/\MN B G j12 (.slice (some ⟨B.length+jr,0,none⟩) l'.length C) l'/\l'.length=l.length/\ ∀T f,f<4->az l' T f=if T<t\/(T=t/\f<q)then F (az l0 T f)else az l0 T f) 4
   ⟨0,_,l,by omega,by omega,⟨by simp[ae,he.e0],by simp[ae,he.e7],by simp[ae,he.e8],by simp[ae,he.e9]⟩,by simp[ae,e12],by simp[ae,e17],by simp[ae,e139],by simp[ae,e140],by simp[ae,e141],by simp[ae],by simp[ae,Row.val,Row.cells],by simp[ae],rfl,hG1,hN1,rfl,fun T f hf=>by rw[hfl T f hf];simp⟩ ?_
  clear he e12 e17 e139 e140 e141 hG hN hG1 hN1 hfl w1 w2 w3 r20 hsl E G
  rintro m E h ⟨q,G,l',rfl,hq,he,e12,e17,e139,e140,e141,e18,e146,e147,rfl,hG,hN,hll',hfl⟩
  have hqq:IntKind.i64.wrap ((q:Int)+1)=((q+1:Nat):Int):=aA (by omega)
  by_cases hq4:q<4
  ·have hq4':(q:Int)<4:=by omega
   have hix:=ix52 r hq4
   have hxF:=hF t hlt q hq4
   rw[<-hrf q hq4]at hxF
   have hface:az l' t q=r.at q:=by
    rw[hfl t q hq4,if_neg (by omega),hrf q hq4]
   unfold Row.val Row.cells at e146
   have hG1:=hG.app [.cells (r.at q).cells 51]
   have hN1:=hN.app [.cells (r.at q).cells 51]
   generalize r.at q=x at hix hxF hface hG1 hN1
   obtain⟨xt,⟨x0,x1,x2,x3⟩⟩:=x
   unfold Fc.val at hix
   unfold Fc.cells at hG1 hN1
   refine X.seq (X.g ?_ (by simp[go_sem,e147,hq4'];rfl))
   refine X.seq (X.ct (X.skip ?_))
   refine X.seq (X.block ?_)
   refine X.seq (X.g ?_ (by simp[go_sem,e146,e147,hix];rfl))
   rcases hxF with ⟨hneg,hFx⟩|⟨hge,v,hv,hFx⟩
   ·have hge': ¬(0:Int)<=xt:=by simp only at hneg;omega
    refine X.seq (X.g ?_ (by simp[go_sem,hge'];rfl))
    refine X.cf (X.skip ?_)
    refine X.g ?_ (by simp[go_sem,e147];rfl)
    refine⟨4-(q+1),by omega,q+1,_,l',rfl,by omega,⟨by simp[ae,he.e0],by simp[ae,he.e7],by simp[ae,he.e8],by simp[ae,he.e9]⟩,by simp[ae,e12],by simp[ae,e17],by simp[ae,e139],by simp[ae,e140],by simp[ae,e141],by simp[ae,e18],by simp[ae,e146,Row.val,Row.cells],by simp[ae,hqq],rfl,hG1,hN1,hll',fun T f hf=> ?_⟩
    rw[hfl T f hf]
    by_cases e:T=t/\f=q
    ·obtain⟨rfl,rfl⟩:=e
     rw[if_neg (by omega),if_pos (by omega),<-hrf f hf]
     rw[hfl T f hf,if_neg (by omega),<-hrf f hf]at hface
     rw[hface,hFx]
    ·by_cases e2:T<t\/(T=t/\f<q)
     ·rw[if_pos e2,if_pos (by omega)]
     ·rw[if_neg e2,if_neg (by omega)]
   ·simp only at hge hv
    have hvl:xt.toNat<nums.length:=(Ey.1 hv).1
    have hxl:xt<(len:Int):=by omega
    obtain⟨w1,w2,w3,w4⟩:=hN1.row
    have r12:=show aj (G++[AO.cells [O U xt,O U x0,O U x1,O U x2,O U x3] 51]) j12 0=some (.slice (some ⟨B.length+jr,0,none⟩) l'.length C)by rw[ah,hN1.ac];rfl
    have rn:=show aj (G++[AO.cells [O U xt,O U x0,O U x1,O U x2,O U x3] 51]) 1 xt.toNat=some (O U v)by rw[ah,hG1.a1];exact pZ hv
    have e8:=he.e8
    have htl'':(t:Int)<(l'.length:Int):=by omega
    have hset:=setT_row (l:=l') (t:=t) (f:=q) (by omega) hq4 v
    rw[hface]at hset
    have hbd:t*20+q*5+1<=(aV l').length:=by rw[dp];omega
    have hN2:=hN1.put (l':=gC l' t q ⟨v,⟨x0,x1,x2,x3⟩⟩) (ei _ _ _ _)
    have hG2:=hG1.setBig w4 (.cells (aV (gC l' t q ⟨v,⟨x0,x1,x2,x3⟩⟩)) 52)
    refine X.seq (X.g ?_ (by simp[go_sem,hge];rfl))
    refine X.ct ?_
    refine X.drawnBy (fun _=>false) follows (by decide+kernel) (Xd.s (Xd.nil ?_) (by simp[go_sem,e8,e12,e18,hge,hxl,r12,rn,htl'',hq4',hset,hbd,w2];rfl))
    refine X.g ?_ (by simp[go_sem,e147];rfl)
    refine⟨4-(q+1),by omega,q+1,_,gC l' t q ⟨v,⟨x0,x1,x2,x3⟩⟩,rfl,by omega,⟨by simp[ae,he.e0],by simp[ae,he.e7],by simp[ae,he.e8],by simp[ae,he.e9]⟩,by simp[ae,e12],by simp[ae,e17],by simp[ae,e139],by simp[ae,e140],by simp[ae,e141],by simp[ae,e18],by simp[ae,e146,Row.val,Row.cells],by simp[ae,hqq],rfl,hG2,hN2,by rw[ei];exact hll',fun T f hf=> ?_⟩
    rw[qO (by omega) hq4 hf]
    by_cases e:t=T/\q=f
    ·obtain⟨rfl,rfl⟩:=e
     rw[if_pos ⟨rfl,rfl⟩,if_pos (by omega),<-hrf q hf]
     rw[hfl t q hf,if_neg (by omega),<-hrf q hf]at hface
     rw[hface,hFx]
    ·rw[if_neg e,hfl T f hf]
     by_cases e2:T<t\/(T=t/\f<q)
     ·rw[if_pos e2,if_pos (by omega)]
     ·rw[if_neg e2,if_neg (by omega)]
  ·have hq4:q=4:=by omega
   subst hq4
   refine X.seq (X.g ?_ (by simp[go_sem,e147];rfl))
   refine X.seq (X.cf (X.exit ?_))
   simp only[AX.then,AX.inBlock,if_true]
   refine X.g ?_ (by simp[go_sem,e141];rfl)
   refine⟨l0.length-(t+1),by omega,t+1,G,l',rfl,by omega,⟨by simp[ae,he.e0],by simp[ae,he.e7],by simp[ae,he.e8],by simp[ae,he.e9]⟩,by simp[ae,e12],by simp[ae,e17],by simp[ae,e139],by simp[ae,e140],by simp[ae,htt],rfl,hG,by rw[hll']at hN;exact hN,by omega,fun T f hf=> ?_⟩
   rw[hfl T f hf]
   by_cases e2:T<t+1
   ·rw[if_pos (by omega),if_pos e2]
   ·rw[if_neg (by omega),if_neg e2]
 ·have htl:t=l0.length:=by omega
  subst htl
  refine X.seq (X.g ?_ (by simp[go_sem,e140,e141];rfl))
  refine X.seq (X.cf (X.exit ?_))
  simp only[AX.then,AX.inBlock,if_true]
  have hlm:l=l0.map (Row.map F):=by
   refine rows_ext (by simpa using hll) fun T hT f hf=> ?_
   rw[hfl T f hf,if_pos (by omega),face_map (by omega)]
  rw[hlm]at hN
  exact hQ _ _ ⟨by simp[ae,he.e0],by simp[ae,he.e7],by simp[ae,he.e8],by simp[ae,he.e9]⟩ (by simp[ae,e12]) (by simp[ae,e17]) hG hN
theorem uw: ∀(g:List Nn) (j:Nat) (r:Nn),g[j]? =some r->(dC g).drop (j*7)=r.cells++dC (g.drop (j+1))
 | [],_,_,h=>by simp at h
 |e::g,0,r,h=>by simp at h;subst h;simp[dC]
 |e::g,j+1,r,h=>by
  have:=uw g j r (by simpa using h)
  rw[show(j+1)*7=e.cells.length+j*7 by show(j+1)*7=7+j*7;omega]
  show(e.cells++dC g).drop _=_
  rw[Gi,FL (by omega),Fa,List.nil_append]
  exact this
theorem ld107x(H:AH)(n i:Nat):dQ Try.prog H 107 (.pointer (some ⟨n,i,none⟩))=(ak H n i 7).map fun l=> .agg l.toArray:=by kernel_rfl
theorem mvL8_ok{Hk B G:AH}{E:Env}{Q:AX->Env->AH->Prop}{n len:Nat}{p0 p1 p2:Value}{nums:List Int}{ms:List (Int×Int)}{j12 jr C first aC:Nat}{l0:List Row}{ns:List Nn}{b3:Option Addr}{c3:Nat}(hl0:l0.length=first+aC)(hl1:l0.length<=1000)(hns: ∀x∈ns,(0<=x.a/\x.a<aC)/\(0<=x.fc/\x.fc<4)/\0<=x.b/\x.b<aC)(hnl:ns.length<=1000)(h3:ns=[]\/ ∃n3,b3=some ⟨n3,0,none⟩/\ak B n3 0 (ns.length*7)=some (dC ns))(he:ME E n B.length len)(e12:ae E 12= .pointer (some ⟨B.length+j12,0,none⟩))(e17:ae E 17=O U (first:Nat))(hG:MB G [p0,p1,p2,.slice b3 ns.length c3] nums ms)(hN:MN B G j12 (.slice (some ⟨B.length+jr,0,none⟩) l0.length C) l0)(hQ: ∀E' G',ME E' n B.length len->ae E' 12= .pointer (some ⟨B.length+j12,0,none⟩)->ae E' 17=O U (first:Nat)->MB G' [p0,p1,p2,.slice b3 ns.length c3] nums ms->MN B G' j12 (.slice (some ⟨B.length+jr,0,none⟩) (ld l0 (ns.map (tD first))).length C) (ld l0 (ns.map (tD first)))->Q .normal E' (B++G')):X ⟨Try.prog,332,Hk⟩ mvL8 Q E (B++G):=by
 have e7:=he.e7
 have r3:aj G 0 3=some (.slice b3 ns.length c3):=by rw[ah,hG.a0];rfl
 refine X.seq (X.g ?_ (by simp[go_sem,e7,r3];rfl))
 refine X.block ?_
 refine X.loop (fun m E h=> ∃(j:Nat) (G:AH) (l:List Row),m=ns.length-j/\j<=ns.length/\ME E n B.length len/\ae E 12= .pointer (some ⟨B.length+j12,0,none⟩)/\ae E 17=O U (first:Nat)/\ae E 175= .slice b3 ns.length c3/\ae E 176=O U ns.length/\ae E 177=O U (j:Nat)/\h=B++G/\MB G [p0,p1,p2,.slice b3 ns.length c3] nums ms/\MN B G j12 (.slice (some ⟨B.length+jr,0,none⟩) l.length C) l/\l.length=l0.length/\l=ld l0 ((ns.take j).map (tD first))) ns.length
  ⟨0,G,l0,by omega,by omega,⟨by simp[ae,he.e0],by simp[ae,he.e7],by simp[ae,he.e8],by simp[ae,he.e9]⟩,by simp[ae,e12],by simp[ae,e17],by simp[ae],by simp[ae],by simp[ae],rfl,hG,hN,rfl,rfl⟩ ?_
 clear he e12 e17 e7 r3 hG hN E G
 rintro m E h ⟨j,G,l,rfl,hj,he,e12,e17,e175,e176,e177,rfl,hG,hN,hll,hlw⟩
 by_cases hlt:j<ns.length
 ·have hlt':(j:Int)<(ns.length:Int):=by omega
  have hjj:IntKind.i64.wrap ((j:Int)+1)=((j+1:Nat):Int):=aA (by omega)
  have hx:=Ex hlt
  generalize ns[j]'hlt=x at hx
  obtain⟨⟨h1,h2⟩,⟨h4,h5⟩,h6,h7⟩:=hns x (EE hx)
  obtain⟨n3,hb3,hr3⟩: ∃n3,b3=some ⟨n3,0,none⟩/\ak B n3 0 (ns.length*7)=some (dC ns):=by
   rcases h3 with h3|h3
   ·rw[h3]at hlt;simp at hlt
   ·exact h3
  subst hb3
  have r7:ak B n3 (j*7) 7=some x.cells:=by
   have:=bL hr3 (j:=j*7) (m:=7) (by omega)
   rw[EU,uw ns j x hx]at this
   rw[this];rfl
  have hnext:ld l0 ((ns.take (j+1)).map (tD first))=gC l (first+x.a.toNat) x.fc.toNat ⟨first+x.b,x.by'⟩:=by
   rw[FP,hx,Option.toList_some,Gd,ua,<-hlw];rfl
  have hG1:=hG.app [.cells x.cells 107]
  have hN1:=hN.app [.cells x.cells 107]
  obtain⟨xa,xf,xb,⟨x0,x1,x2,x3⟩⟩:=x
  simp only at h1 h2 h4 h5 h6 h7 hnext
  unfold Nn.cells at r7 hG1 hN1
  simp only at r7 hG1 hN1
  have r7': ∀X,ak (B++X) n3 (j*7) 7=some [O U xa,O U xf,O U xb,O U x0,O U x1,O U x2,O U x3]:=fun X=>aD r7
  obtain⟨w1,w2,w3,w4⟩:=hN1.row
  have r12:=show aj (G++[AO.cells [O U xa,O U xf,O U xb,O U x0,O U x1,O U x2,O U x3] 107]) j12 0=some (.slice (some ⟨B.length+jr,0,none⟩) l.length C)by rw[ah,hN1.ac];rfl
  have hwa:IntKind.i64.wrap ((first:Int)+xa)=((first+xa.toNat:Nat):Int):=by rw[EP];omega
  have hwb:IntKind.i64.wrap ((first:Int)+xb)=(first:Int)+xb:=by rw[EP];omega
  have hil:((first+xa.toNat:Nat):Int)<(l.length:Int):=by omega
  have hset:=jO (l:=l) (t:=first+xa.toNat) (f:=xf.toNat) (by omega) (by omega) ⟨first+xb,⟨x0,x1,x2,x3⟩⟩
  unfold Fc.cells at hset
  simp only[setAll]at hset
  have hbd:(first+xa.toNat)*20+xf.toNat*5+5<=(aV l).length:=by rw[dp];omega
  have hN2:=hN1.put (l':=gC l (first+xa.toNat) xf.toNat ⟨first+xb,⟨x0,x1,x2,x3⟩⟩) (ei _ _ _ _)
  have hG2:=hG1.setBig w4 (.cells (aV (gC l (first+xa.toNat) xf.toNat ⟨first+xb,⟨x0,x1,x2,x3⟩⟩)) 52)
  have hge:(0:Int)<=((first+xa.toNat:Nat):Int):=by omega
  generalize first+xa.toNat=ia at hwa hil hset hbd hN2 hG2 hnext hge
  refine X.seq (X.g ?_ (by simp[go_sem,e176,e177,hlt'];rfl))
  refine X.seq (X.ct (X.skip ?_))
  refine X.seq (X.block ?_)
  refine X.seq (X.g ?_ (by simp[go_sem,e175,e177,hlt',r7',ld107x];rfl))
  refine X.drawnBy (fun _=>false) follows (by decide+kernel) (Xd.s (Xd.nil ?_) (by simp[go_sem,e12,e17,r12,hwa,hwb,hil,h4,h5,hset,hbd,w2];rfl))
  refine X.g ?_ (by simp[go_sem,e177];rfl)
  refine⟨ns.length-(j+1),by omega,j+1,_,gC l ia xf.toNat ⟨first+xb,⟨x0,x1,x2,x3⟩⟩,rfl,by omega,⟨by simp[ae,he.e0],by simp[ae,he.e7],by simp[ae,he.e8],by simp[ae,he.e9]⟩,by simp[ae,e12],by simp[ae,e17],by simp[ae,e175],by simp[ae,e176],by simp[ae,hjj],rfl,hG2,hN2,by rw[ei];exact hll,hnext.symm⟩
 ·have hjl:j=ns.length:=by omega
  subst hjl
  refine X.seq (X.g ?_ (by simp[go_sem,e176,e177];rfl))
  refine X.seq (X.cf (X.exit ?_))
  simp only[AX.then,AX.inBlock,if_true]
  rw[Fp]at hlw
  subst hlw
  exact hQ _ _ ⟨by simp[ae,he.e0],by simp[ae,he.e7],by simp[ae,he.e8],by simp[ae,he.e9]⟩ (by simp[ae,e12]) (by simp[ae,e17]) hG hN
end Go.Proofs.Ytjcomcgpjjianaa
