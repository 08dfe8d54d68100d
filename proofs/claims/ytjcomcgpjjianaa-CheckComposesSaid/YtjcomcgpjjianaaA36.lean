import Derived.Test.YtjcomcgpjjianaaA17
import Derived.Test.YtjcomcgpjjianaaA19
import Derived.Test.YtjcomcgpjjianaaA35
set_option linter.all false
set_option maxHeartbeats 16000000
set_option maxRecDepth 8000
open Go.Value renaming int→O
open Go.IntKind renaming i64→U
namespace Go.Proofs.Ytjcomcgpjjianaa
open Go.Ev
def nV(H:AH)(x:Fc)(p by':Pm):OpR:=if x.t<0 then .pan (bf 5) H else .val (Fc.val ⟨x.t,x.p.times (p.times by')⟩) H
theorem nZ(H:AH)(n:Nat)(s:Value)(g:List Row)(hc:aj H n 0=some s)(hs:SlG H s g)(t:Nat)(p:Pm)(l:Int)(by':Pm)(ht:t<g.length)(hp:p.inside)(hl:0<=l/\l<4)(hby:by'.inside):
 AC Try.prog 58 [.pointer (some ⟨n,0,none⟩),Fc.val ⟨t,p⟩,O U l,by'.val] H (nV H (az g t (p.at l).toNat) p by'):=by
 refine AC.o 38 f58 fun σ w hr=> ?_
 obtain⟨b,k,rfl⟩:=hs.len
 have ht':(t:Int)<(g.length:Int):=by omega
 have hpl:=Pm.at_inside p hp hl
 obtain⟨u,hu⟩: ∃u:Nat,p.at l=u:=⟨(p.at l).toNat,by omega⟩
 have hu4:u<4:=by omega
 have hu4':(u:Int)<4:=by omega
 rw[hu,Int.toNat_natCast]
 obtain⟨lq,rfl⟩: ∃q:Nat,l=q:=⟨l.toNat,by omega⟩
 have hlq:lq<4:=by omega
 have hlq':(lq:Int)<4:=by omega
 obtain⟨n2,i2,c2,hb2,hface⟩:=hs.face ht hu4
 cases hb2
 generalize az g t u=y at hface
 obtain⟨yt,yp⟩:=y
 obtain⟨y0,y1,y2,y3⟩:=yp
 have hpq:([O U p.p0,O U p.p1,O U p.p2,O U p.p3]:List Value)[lq]? =some (O U (p.at lq)):=Pm.cells_get p hlq
 rw[hu]at hpq
 refine W.seq (W.g ?_ (by simp[go_sem,Fc.val,Pm.val];rfl))
 have e1:aj (H++[.cells [O U (t:Int),O U p.p0,O U p.p1,O U p.p2,O U p.p3] 103,.cells [O U by'.p0,O U by'.p1,O U by'.p2,O U by'.p3] 39,.cells [O U 0,O U 0,O U 0,O U 0,O U 0] 103]) n 0=some (.slice (some ⟨n2,i2,none⟩) g.length k):=aw hc
 have e2:ak (H++[.cells [O U (t:Int),O U p.p0,O U p.p1,O U p.p2,O U p.p3] 103,.cells [O U by'.p0,O U by'.p1,O U by'.p2,O U by'.p3] 39,.cells [O U 0,O U 0,O U 0,O U 0,O U 0] 103]) n2 (i2+t*20+u*5) 5=some [O U yt,O U y0,O U y1,O U y2,O U y3]:=aD hface
 have e3:aj (H++[.cells [O U (t:Int),O U p.p0,O U p.p1,O U p.p2,O U p.p3] 103,.cells [O U by'.p0,O U by'.p1,O U by'.p2,O U by'.p3] 39,.cells [O U 0,O U 0,O U 0,O U 0,O U 0] 103]) H.length (1+lq)=some (O U u):=by
  rw[ah,bF,Gw 1 lq];exact hpq
 refine W.seq (W.drawnBy (fun _=>false) follows (by decide+kernel) (Dl.s (Dl.nil ?_) (by simp[go_sem,e1,e2,e3,ht',hu4',hlq',hu4,hlq];rfl)))
 have e4:ak (H++[.cells [O U (t:Int),O U p.p0,O U p.p1,O U p.p2,O U p.p3] 103,.cells [O U by'.p0,O U by'.p1,O U by'.p2,O U by'.p3] 39,.cells [O U 0,O U 0,O U 0,O U 0,O U 0] 103,.cells [O U yt,O U y0,O U y1,O U y2,O U y3] 51]) (H.length+3) 1 4=some [O U y0,O U y1,O U y2,O U y3]:=by
  rw[aF];rfl
 have e5:ak (H++[.cells [O U (t:Int),O U p.p0,O U p.p1,O U p.p2,O U p.p3] 103,.cells [O U by'.p0,O U by'.p1,O U by'.p2,O U by'.p3] 39,.cells [O U 0,O U 0,O U 0,O U 0,O U 0] 103,.cells [O U yt,O U y0,O U y1,O U y2,O U y3] 51]) H.length 1 4=some [O U p.p0,O U p.p1,O U p.p2,O U p.p3]:=by
  rw[ed];rfl
 by_cases hneg:yt<0
 ·have hge: ¬(0:Int)<=yt:=by omega
  unfold nV
  rw[if_pos hneg]
  refine W.seq (W.region (Wl.s ?_ (by simp[go_sem,hge];rfl)))
  exact Wl.p (Sc b16 (aM _ _)) (Ends.DL (P:=Try.prog) (fn:=Try.f58) (a:=[]) rfl)
 ·have hge:(0:Int)<=yt:=by omega
  refine W.seq (W.region (Wl.s ?_ (by simp[go_sem,hge];rfl)))
  refine Wl.o (Sc b16 (aZ _ _)) (Wl.nil ?_)
  unfold nV
  rw[if_neg hneg]
  have ht1:=eA (H++[.cells [O U (t:Int),O U p.p0,O U p.p1,O U p.p2,O U p.p3] 103,.cells [O U by'.p0,O U by'.p1,O U by'.p2,O U by'.p3] 39,.cells [O U 0,O U 0,O U 0,O U 0,O U 0] 103,.cells [O U yt,O U y0,O U y1,O U y2,O U y3] 51]) p by' hby
  have hin2:(p.times by').inside:=by
   obtain⟨b0,b1,b2,b3⟩:=hby
   exact⟨Pm.at_inside p hp b0,Pm.at_inside p hp b1,Pm.at_inside p hp b2,Pm.at_inside p hp b3⟩
  have ht2:=eA (H++[.cells [O U (t:Int),O U p.p0,O U p.p1,O U p.p2,O U p.p3] 103,.cells [O U by'.p0,O U by'.p1,O U by'.p2,O U by'.p3] 39,.cells [O U 0,O U 0,O U 0,O U 0,O U 0] 103,.cells [O U yt,O U y0,O U y1,O U y2,O U y3] 51]) ⟨y0,y1,y2,y3⟩ (p.times by') hin2
  generalize hq1:p.times by'=q1 at ht1 ht2
  generalize hq2:Pm.times ⟨y0,y1,y2,y3⟩ q1=q2 at ht2
  have hv2:q2.val= .agg #[O U q2.p0,O U q2.p1,O U q2.p2,O U q2.p3]:=rfl
  unfold Pm.val at ht1 ht2
  refine W.seq (W.drawnBy (fun i=>i==7||i==8) follows (by decide+kernel) (Dl.s ?_ (by simp[go_sem,e4,e5];rfl)))
  refine Dl.t (Sc b37 ht1) ?_
  refine Dl.s ?_
  refine Dl.t (Sc b37 ht2) ?_
  refine Dl.s (Dl.nil ?_)
  exact W.ret (Ends.quiet (by simp[go_sem,Fc.val,hq2]) rfl)
theorem Pm.undo_inside(p:Pm):p.undo.inside:=by
 have h: ∀k,0<=ju p k/\ju p k<4:=by
  intro k
  unfold ju
  split
  ·omega
  ·split
   ·omega
   ·split<;>omega
 exact⟨h 0,h 1,h 2,h 3⟩
theorem Pm.DT{p q:Pm}(hp:p.inside)(hq:q.inside):(p.times q).inside:=by
 obtain⟨b0,b1,b2,b3⟩:=hq
 exact⟨Pm.at_inside p hp b0,Pm.at_inside p hp b1,Pm.at_inside p hp b2,Pm.at_inside p hp b3⟩
def kI(H:AH)(b:Bool):OpR:=if b=true then .val (.tuple #[]) H else .pan (bf 5) H
theorem Cb(H:AH)(n:Nat)(s:Value)(g:List Row)(hc:aj H n 0=some s)(hs:SlG H s g)(t:Nat)(p:Pm)(l:Int)(t2:Int)(p2:Pm)(by':Pm)(ht:t<g.length)(hp:p.inside)(hl:0<=l/\l<4)(hby:by'.inside):
 AC Try.prog 60 [.pointer (some ⟨n,0,none⟩),Fc.val ⟨t,p⟩,O U l,Fc.val ⟨t2,p2⟩,by'.val] H (kI H ((az g t (p.at l).toNat).eq ⟨t2,p2.times (by'.times p.undo)⟩)):=by
 refine AC.o 37 f60 fun σ w hr=> ?_
 obtain⟨b,k,rfl⟩:=hs.len
 have ht':(t:Int)<(g.length:Int):=by omega
 have hpl:=Pm.at_inside p hp hl
 obtain⟨u,hu⟩: ∃u:Nat,p.at l=u:=⟨(p.at l).toNat,by omega⟩
 have hu4:u<4:=by omega
 have hu4':(u:Int)<4:=by omega
 rw[hu,Int.toNat_natCast]
 obtain⟨lq,rfl⟩: ∃q:Nat,l=q:=⟨l.toNat,by omega⟩
 have hlq:lq<4:=by omega
 have hlq':(lq:Int)<4:=by omega
 obtain⟨n2,i2,c2,hb2,hface⟩:=hs.face ht hu4
 cases hb2
 generalize az g t u=y at hface
 obtain⟨yt,yp⟩:=y
 obtain⟨y0,y1,y2,y3⟩:=yp
 have hpq:([O U p.p0,O U p.p1,O U p.p2,O U p.p3]:List Value)[lq]? =some (O U (p.at lq)):=Pm.cells_get p hlq
 rw[hu]at hpq
 refine W.seq (W.g ?_ (by simp[go_sem,Fc.val,Pm.val];rfl))
 have hx: ∃X:AH,X=[.cells [O U (t:Int),O U p.p0,O U p.p1,O U p.p2,O U p.p3] 103,.cells [O U t2,O U p2.p0,O U p2.p1,O U p2.p2,O U p2.p3] 103,.cells [O U by'.p0,O U by'.p1,O U by'.p2,O U by'.p3] 39]:=⟨_,rfl⟩
 obtain⟨X,hX⟩:=hx
 rw[<-hX]
 have e1:aj (H++X) n 0=some (.slice (some ⟨n2,i2,none⟩) g.length k):=aw hc
 have e2:ak (H++X) n2 (i2+t*20+u*5) 5=some [O U yt,O U y0,O U y1,O U y2,O U y3]:=aD hface
 have e3:aj (H++X) H.length (1+lq)=some (O U u):=by
  rw[hX,ah,bF,Gw 1 lq];exact hpq
 have e4:ak (H++X) H.length 1 4=some [O U p.p0,O U p.p1,O U p.p2,O U p.p3]:=by
  rw[hX,ed];rfl
 have e5:aj (H++X) H.length 0=some (O U t):=by rw[hX,dH];rfl
 have e6:aj (H++X) (H.length+1) 0=some (O U t2):=by rw[hX,bU];rfl
 have e7:ak (H++X) (H.length+1) 1 4=some [O U p2.p0,O U p2.p1,O U p2.p2,O U p2.p3]:=by rw[hX,aF];rfl
 have e8:ak (H++X) (H.length+2) 0 4=some [O U by'.p0,O U by'.p1,O U by'.p2,O U by'.p3]:=by rw[hX,aF];rfl
 clear hX
 have hu1:=gp (H++X) p hp
 have hu2:=eA (H++X) by' p.undo p.undo_inside
 have hu3:=eA (H++X) p2 (by'.times p.undo) (Pm.DT hby p.undo_inside)
 generalize hq1:p.undo=q1 at hu1 hu2 hu3
 generalize hq2:by'.times q1=q2 at hu2 hu3
 generalize hq3:p2.times q2=q3 at hu3
 unfold Pm.val at hu1 hu2 hu3
 cases heq:Fc.eq ⟨yt,⟨y0,y1,y2,y3⟩⟩ ⟨t2,q3⟩
 ·unfold kI
  rw[if_neg (by simp)]
  unfold Fc.eq at heq
  simp only at heq
  refine W.drawnBy (fun i=>i==21||i==22||i==23||i==26) follows (by decide+kernel) (Dl.s ?_ (by simp[go_sem,e1,e2,e3,e4,e5,e6,e7,e8,ht',hu4',hlq',hu4,hlq];rfl))
  refine Dl.t (Sc b32 hu1) ?_
  refine Dl.s ?_
  refine Dl.t (Sc b37 hu2) ?_
  refine Dl.s ?_
  refine Dl.t (Sc b37 hu3) ?_
  refine Dl.s ?_ (by simp[go_sem,heq];rfl)
  exact Dl.pan (by simp[go_sem]) (Sc b16 (aM _ _)) rfl (Ends.DL (P:=Try.prog) (fn:=Try.f60) (a:=[]) rfl)
 ·unfold kI
  rw[if_pos rfl]
  unfold Fc.eq at heq
  simp only at heq
  refine W.drawnBy (fun i=>i==21||i==22||i==23||i==26) follows (by decide+kernel) (Dl.s ?_ (by simp[go_sem,e1,e2,e3,e4,e5,e6,e7,e8,ht',hu4',hlq',hu4,hlq];rfl))
  refine Dl.t (Sc b32 hu1) ?_
  refine Dl.s ?_
  refine Dl.t (Sc b37 hu2) ?_
  refine Dl.s ?_
  refine Dl.t (Sc b37 hu3) ?_
  refine Dl.s ?_ (by simp[go_sem,heq];rfl)
  refine Dl.t (Sc b16 (aZ _ _)) (Dl.nil ?_)
  exact⟨.tuple #[],H,X,rfl,rfl,rfl,EJ _,Bel.junk _,fun n hn=> .inl ⟨hn,rfl⟩⟩
def tAt(l:List Fc)(i:Nat):Int:=match l[i]? with|some x=>x.t|none=>0
def pk(l:List Fc):Bool:=(List.range l.length).all fun i=>(List.range i).all fun j=>tAt l i !=tAt l j
theorem uj(l:List Fc):pk l=true↔ ∀i,i<l.length-> ∀j,j<i->tAt l i≠tAt l j:=by
 unfold pk
 simp only[EI,ET,bne_iff_ne]
def eI(l:List Fc):List Value:=l.flatMap Fc.cells
theorem tF: ∀(g:List Fc) (j:Nat) (r:Fc),g[j]? =some r->(eI g).drop (j*5)=r.cells++eI (g.drop (j+1))
 | [],_,_,h=>by simp at h
 |e::g,0,r,h=>by simp at h;subst h;simp[eI]
 |e::g,j+1,r,h=>by
  have:=tF g j r (by simpa using h)
  rw[show(j+1)*5=e.cells.length+j*5 by show(j+1)*5=5+j*5;omega]
  show(e.cells++eI g).drop _=_
  rw[Gi,FL (by omega),Fa,List.nil_append]
  exact this
theorem jH{H:AH}{n i:Nat}{l:List Fc}(h:ak H n i (l.length*5)=some (eI l)){j:Nat}(hj:j<l.length): ∃x,l[j]? =some x/\ak H n (i+j*5) 5=some x.cells/\aj H n (i+j*5)=some (O U (tAt l j)):=by
 have hx:l[j]? =some (l[j]'hj):=Ex hj
 have h5:ak H n (i+j*5) 5=some (l[j]'hj).cells:=by
  rw[bL h (j:=j*5) (m:=5) (by omega),tF l j _ hx]
  rfl
 refine⟨_,hx,h5,?_⟩
 have:=cG h5 (j:=0) (by omega)
 rw[Nat.add_zero]at this
 rw[this]
 unfold tAt;rw[hx];rfl
theorem iW(H:AH)(n i0 c:Nat)(l:List Fc)(hl:ak H n i0 (l.length*5)=some (eI l))(hlen:l.length<=1000):AC Try.prog 59 [.slice (some ⟨n,i0,none⟩) l.length c] H (kI H (pk l)):=by
 refine AC.o 27 f59 fun σ w hr=> ?_
 refine W.seq (W.g ?_)
 refine W.block ?_
 refine W.loop (fun m E h=> ∃j,m=l.length-j/\j<=l.length/\ae E 0= .slice (some ⟨n,i0,none⟩) l.length c/\ae E 5=O U l.length/\ae E 6=O U j/\h=H/\ ∀i,i<j-> ∀k,k<i->tAt l i≠tAt l k) l.length
  ⟨0,by omega,by omega,by simp[ae],by simp[ae],by simp[ae],rfl,fun i hi=>by omega⟩ ?_
 rintro m E h ⟨j,rfl,hj,e0,e5,e6,rfl,hok⟩
 by_cases hlt:j<l.length
 ·have hlt':(j:Int)<(l.length:Int):=by omega
  refine W.seq (W.g ?_ (by simp[go_sem,e5,e6,hlt'];rfl))
  refine W.seq (W.ct (W.skip ?_))
  refine W.seq (W.block ?_)
  refine W.seq (W.g ?_ (by simp[go_sem,e6];rfl))
  refine W.seq (W.g ?_)
  refine W.block ?_
  refine W.loop (fun m E h'=> ∃q,m=j-q/\q<=j/\ae E 0= .slice (some ⟨n,i0,none⟩) l.length c/\ae E 5=O U l.length/\ae E 6=O U j/\ae E 2=O U j/\ae E 9=O U j/\ae E 10=O U q/\h'=h/\ ∀k,k<q->tAt l j≠tAt l k) j
   ⟨0,by omega,by omega,by simp[ae,e0],by simp[ae,e5],by simp[ae,e6],by simp[ae],by simp[ae],by simp[ae],rfl,fun k hk=>by omega⟩ ?_
  clear e0 e5 e6 E
  rintro m E h' ⟨q,rfl,hq,e0,e5,e6,e2,e9,e10,rfl,hokq⟩
  by_cases hqj:q<j
  ·have hqj':(q:Int)<(j:Int):=by omega
   obtain⟨x,hx,hx5,hx1⟩:=jH hl hlt
   obtain⟨y,hy,hy5,hy1⟩:=jH hl (show q<l.length by omega)
   have hql':(q:Int)<(l.length:Int):=by omega
   refine W.seq (W.g ?_ (by simp[go_sem,e9,e10,hqj'];rfl))
   refine W.seq (W.ct (W.skip ?_))
   refine W.seq (W.block ?_)
   refine W.seq (W.g ?_ (by simp[go_sem,e10];rfl))
   by_cases hne:tAt l j=tAt l q
   ·have hf:pk l=false:=by
     rw[FN]
     intro hh
     exact(uj l).1 hh j hlt q hqj hne
    unfold kI
    rw[hf,if_neg (by simp)]
    refine W.drawnBy (fun i=>i==11) follows (by decide+kernel) (Dl.s ?_ (by simp[go_sem,e0,e2,hlt',hql',hx1,hy1,hne];rfl))
    exact Dl.pan (by simp[go_sem]) (Sc b16 (aM _ _)) rfl (Ends.Ef (P:=Try.prog) (fn:=Try.f59) (a:=[]) rfl)
   ·have hnb:(tAt l j !=tAt l q)=true:=by simp[hne]
    refine W.drawnBy (fun i=>i==11) follows (by decide+kernel) (Dl.s ?_ (by simp[go_sem,e0,e2,hlt',hql',hx1,hy1,hnb];rfl))
    refine Dl.t (Sc b16 (aZ _ _)) (Dl.nil ?_)
    refine W.g ?_ (by simp[go_sem,e10];rfl)
    refine⟨j-(q+1),by omega,q+1,rfl,by omega,by simp[ae,e0],by simp[ae,e5],by simp[ae,e6],by simp[ae,e2],by simp[ae,e9],?_,rfl,fun k hk=> ?_⟩
    ·simp only[ae,if_true];rw[aA (by omega)]
    ·by_cases e:k=q
     ·subst e;exact hne
     ·exact hokq k (by omega)
  ·have hqe:q=j:=by omega
   subst hqe
   refine W.seq (W.g ?_ (by simp[go_sem,e9,e10];rfl))
   refine W.seq (W.cf (W.exit ?_))
   simp only[AX.then,AX.inBlock,if_true]
   refine W.g ?_ (by simp[go_sem,e6];rfl)
   refine⟨l.length-(q+1),by omega,q+1,rfl,by omega,by simp[ae,e0],by simp[ae,e5],?_,rfl,fun i hi k hk=> ?_⟩
   ·simp only[ae,if_true];rw[aA (by omega)]
   ·by_cases e:i=q
    ·subst e;exact hokq k hk
    ·exact hok i (by omega) k hk
 ·have hjl:j=l.length:=by omega
  subst hjl
  have ht:pk l=true:=(uj l).2 fun i hi k hk=>hok i hi k hk
  unfold kI
  rw[ht,if_pos rfl]
  refine W.seq (W.g ?_ (by simp[go_sem,e5,e6];rfl))
  refine W.seq (W.cf (W.exit ?_))
  simp only[AX.then,AX.inBlock,if_true]
  exact⟨.tuple #[],h,[],rfl,rfl,by simp,EJ _,Bel.junk _,fun n hn=> .inl ⟨hn,rfl⟩⟩
structure Ou where
 nw:Int
 fc:Int
 od:Int
 lb:Int
 by':Pm
structure Nn where
 a:Int
 fc:Int
 b:Int
 by':Pm
def Ou.cells(o:Ou):List Value:=[O U o.nw,O U o.fc,O U o.od,O U o.lb,O U o.by'.p0,O U o.by'.p1,O U o.by'.p2,O U o.by'.p3]
def Nn.cells(o:Nn):List Value:=[O U o.a,O U o.fc,O U o.b,O U o.by'.p0,O U o.by'.p1,O U o.by'.p2,O U o.by'.p3]
def dm(l:List Ou):List Value:=l.flatMap Ou.cells
def dC(l:List Nn):List Value:=l.flatMap Nn.cells
def uC(H:AH)(v:Value)(out:List Fc)(aC:Int)(outers:List Ou)(inners:List Nn):Prop:= ∃n1 c1 n2 c2 s3,v= .agg #[.slice (some ⟨n1,0,none⟩) out.length c1,O U aC,.slice (some ⟨n2,0,none⟩) outers.length c2,s3]/\ak H n1 0 (out.length*5)=some (eI out)/\ak H n2 0 (outers.length*8)=some (dm outers)/\((inners=[]/\s3= .slice none 0 0)\/ ∃n3 c3,s3= .slice (some ⟨n3,0,none⟩) inners.length c3/\ak H n3 0 (inners.length*7)=some (dC inners))
noncomputable def wB:Code:=match Try.f33.body with|some (.seq _ (.seq _ (.seq _ rest)))=>rest|_=> .skip
noncomputable def mkT(l:List AO):Nat->Ev.Tri AO->Option (Ev.Tri AO):=l.rec (fun _ T=>some T) fun o _ ih i T=>(T.put 40 i o).bind fun T=>ih (i+1) T
noncomputable def T0(l:List AO):Ev.Tri AO:=(mkT l 0 .nil).getD .nil
noncomputable def u6:List AO:=[.cells [.slice none 0 0,O U 0,.slice none 0 0,.slice none 0 0] 101,.dead,.cells [.slice (some ⟨1,0,none⟩) 1 1,O U 4,.slice none 0 0,.slice none 0 0] 101]
def nk:Env:=[(4,.pointer (some ⟨0,0,none⟩)),(5,.pointer (some ⟨2,0,none⟩))]
noncomputable def Ax:Ev.Tri Value:=(qj nk).getD Ev.Tri.nil
noncomputable def splitR:=evC Try.prog (oI Try.prog pJ sv mdT 1000000 60) 1000000 0 50 wB Ax ⟨T0 u6,3,3,[]⟩
def fV:List Ou:=[⟨0,0,0,0,.one⟩,⟨1,1,0,1,.one⟩,⟨2,2,0,2,.one⟩,⟨3,3,0,3,.one⟩]
def gT:List Nn:=[⟨0,1,1,.swap 0 1⟩,⟨0,2,2,.swap 0 2⟩,⟨0,3,3,.swap 0 3⟩,⟨1,0,0,.swap 1 0⟩,⟨1,2,2,.swap 1 2⟩,⟨1,3,3,.swap 1 3⟩,⟨2,0,0,.swap 2 0⟩,⟨2,1,1,.swap 2 1⟩,⟨2,3,3,.swap 2 3⟩,⟨3,0,0,.swap 3 0⟩,⟨3,1,1,.swap 3 1⟩,⟨3,2,2,.swap 3 2⟩]
noncomputable def wv(r:Option (AX×St))(i j k:Nat)(t:Nat):Option (Nat×AO×AO×AO×Value):=match r with|some (.ret,s)=>some (s.h.sz,rdT s.h.T s.h.sz i,rdT s.h.T s.h.sz j,rdT s.h.T s.h.sz k,gE s.E t)|_=>none
theorem zp{r:Option (AX×St)}{i j k t:Nat}{z:Nat}{a b c:AO}{v:Value}(h:wv r i j k t=some (z,a,b,c,v)): ∃s,r=some (.ret,s)/\s.h.H.length=z/\at_ s.h.H i=a/\at_ s.h.H j=b/\at_ s.h.H k=c/\gE s.E t=v:=by
 unfold wv at h
 split at h
 ·rename_i s
  cases h
  exact⟨s,rfl,Hp.DW _,Hp.DY _ _,Hp.DY _ _,Hp.DY _ _,rfl⟩
 ·cases h
theorem CY:wv splitR 0 54 66 4=some (67,.cells [.slice (some ⟨1,0,none⟩) 1 1,O U 4,.slice (some ⟨54,0,none⟩) 4 18446744073709551624,.slice (some ⟨66,0,none⟩) 12 18446744073709551623] 101,
 .cells (dm fV) 109,.cells (dC gT) 107,.pointer (some ⟨0,0,none⟩)):=by kernel_rfl
theorem evT_ok:EvOk Try.prog (evC Try.prog (oI Try.prog pJ sv mdT 1000000 60) 1000000):=Ao follows yE 1000000
theorem split_H:toH (T0 u6) 3=u6:=by kernel_rfl
def ni(H:AH)(t:Int):AH:=[.cells [O U t,O U 0,O U 1,O U 2,O U 3] 103,
 .cells [.slice (some ⟨H.length+2,0,none⟩) 1 1,O U 4,.slice (some ⟨H.length+55,0,none⟩) 4 18446744073709551624,.slice (some ⟨H.length+67,0,none⟩) 12 18446744073709551623] 101,
 .cells [O U t,O U 0,O U 1,O U 2,O U 3] 103,.dead]++(List.replicate 51 .dead++(.cells (dm fV) 109::(List.replicate 11 .dead++[.cells (dC gT) 107])))
def xg(H:AH):Value:= .agg #[.slice (some ⟨H.length+2,0,none⟩) 1 1,O U 4,.slice (some ⟨H.length+55,0,none⟩) 4 18446744073709551624,.slice (some ⟨H.length+67,0,none⟩) 12 18446744073709551623]
theorem By(H:AH)(t:Int):uC (H++ni H t) (xg H) [⟨t,.one⟩] 4 fV gT:=by
 refine⟨_,_,_,_,_,rfl,?_,?_,.inr ⟨_,_,rfl,?_⟩⟩
 ·rw[aF];rfl
 ·rw[aF];rfl
 ·rw[aF];rfl
theorem uh(H:AH)(a b c d e:Int):aQ Try.prog H 97 1 [(0,.agg #[O U a,O U b,O U c,O U d,O U e])]=some (.slice (some ⟨H.length,0,none⟩) 1 1,H++[.cells [O U a,O U b,O U c,O U d,O U e] 103]):=by kernel_rfl
theorem BQ(n i:Nat):at_ (List.replicate n AO.dead) i= .dead:=by
 unfold at_
 rw[FD]
 split<;>rfl
theorem two_at(n m i:Nat)(o p:AO):(i=n/\at_ (List.replicate n AO.dead++(o::(List.replicate m AO.dead++[p]))) i=o)\/(i=n+(m+1)/\at_ (List.replicate n AO.dead++(o::(List.replicate m AO.dead++[p]))) i=p)\/at_ (List.replicate n AO.dead++(o::(List.replicate m AO.dead++[p]))) i= .dead:=by
 by_cases h1:i<n
 ·right;right
  rw[ag (by simpa using h1)];exact BQ n i
 ·have hi:i=(List.replicate n AO.dead).length+(i-n):=by simp;omega
  by_cases h2:i=n
  ·left
   refine⟨h2,?_⟩
   have:=bF (List.replicate n AO.dead) o (List.replicate m AO.dead++[p])
   rw[Fy]at this
   rw[h2];exact this
  ·obtain⟨k,hk⟩: ∃k,i-n=k+1:=⟨i-n-1,by omega⟩
   rw[hk]at hi
   rw[hi,aq,lF]
   by_cases h3:k<m
   ·right;right
    rw[ag (by simpa using h3)];exact BQ m k
   ·by_cases h4:k=m
    ·right;left
     refine⟨by simp;omega,?_⟩
     have:=aL (List.replicate m AO.dead) p
     rw[Fy]at this
     rw[h4];exact this
    ·right;right
     exact dJ (by simp;omega)
theorem Dh:eY Ax nk:=by
 have h:qj nk=some Ax:=by kernel_rfl
 exact nq h
theorem split_ok(H:AH)(c:Value)(t:Int):AC Try.prog 33 [c,Fc.val ⟨t,.one⟩] H (.val (xg H) (H++ni H t)):=by
 refine AC.ofX f33 rfl (EL rfl) fun σ w hr=> ?_
 show W ⟨Try.prog,50,[],σ,H,w⟩ _ (mY Try.prog Try.f33 _) _ H
 refine W.seq (W.g ?_ (by simp[go_sem,Fc.val,Pm.one];rfl))
 refine W.seq (W.region (Wl.s ?_))
 refine Wl.o (Sc b16 (aZ _ _)) (Wl.nil ?_)
 refine W.seq (W.g ?_ (by simp[go_sem,uh];rfl))
 obtain⟨s,hs,z0,z1,z2,z3,z4⟩:=zp CY
 refine W.view (ι:=[H.length+1,H.length+2,H.length+3]) (S:=u6) (a1:=nk) (Qs:=fun x a2 S2=>x= .ret/\S2=s.h.H/\cZ s.E a2) ⟨rfl,?_,?_,?_⟩ ?_ ?_ ?_
 ·simp
 ·intro n hn
  simp only[EG,EK,or_false]at hn
  simp only[Ez,List.length_cons,List.length_nil]
  omega
 ·intro j n hj
  match j with
  | 0=>
    cases hj
    right
    rw[aq]
    exact UpO.cells rfl fun i v u a b=>by
     match i with
     | 0=>cases a;cases b;exact Up.slNil
     | 1=>cases a;cases b;exact Up.plain rfl
     | 2=>cases a;cases b;exact Up.slNil
     | 3=>cases a;cases b;exact Up.slNil
     |i+4=>cases a
  | 1=>exact .inl rfl
  | 2=>
    cases hj
    right
    rw[aq]
    exact UpO.cells rfl fun i v u a b=>by
     match i with
     | 0=>cases a;cases b;exact Up.sl rfl
     | 1=>cases a;cases b;exact Up.plain rfl
     | 2=>cases a;cases b;exact Up.slNil
     | 3=>cases a;cases b;exact Up.slNil
     |i+4=>cases a
  |j+3=>cases hj
 ·intro t
  by_cases h4:4=t
  ·subst h4;exact Up.ptr rfl
  ·by_cases h5:5=t
   ·subst h5;exact Up.ptr rfl
   ·have hu:ae nk t=undef:=by simp[nk,ae,h4,h5]
    rw[hu];exact Up.junk
 ·intro K' hP hn
  have J:=evT_ok.ok (x:= .ret) (s:=s) hs (Q:=fun x a2 S2=>x= .ret/\S2=s.h.H/\cZ s.E a2) (a:=nk) Dh.less fun a' ha'=>⟨rfl,rfl,ha'⟩
  have J: ∀K:oq Try.prog 50,W K.1 wB (fun x a2 S2=>x= .ret/\S2=s.h.H/\cZ s.E a2) nk (toH (T0 u6) 3):=J
  rw[split_H]at J
  exact J ⟨K',hP,hn⟩
 ·rintro x a2 S2 ⟨rfl,rfl,hless⟩
  refine⟨by simp,[(4,.pointer (some ⟨H.length+1,0,none⟩))],H++ni H t,⟨?_,?_,?_,?_⟩,?_,?_⟩
  ·rw[z0];simp[ni]
  ·intro n hn hd
   by_cases h1:n<H.length
   ·rw[ag h1,ag h1]
   ·obtain⟨k,rfl⟩: ∃k,n=H.length+k:=⟨n-H.length,by omega⟩
    rw[aq,aq]
    have hk:k<4:=by simp at hn;omega
    match k,hk with
    | 0,_=>rfl
    | 1,_=>have:=hd 0 rfl;cases this
    | 2,_=>rfl
    | 3,_=>have:=hd 2 rfl;cases this
  ·intro j n hj hne
   match j with
   | 0=>
     cases hj
     rw[z1,aq]
     exact UpO.cells rfl fun i v u a b=>by
      match i with
      | 0=>cases a;cases b;exact Up.sl (.inl rfl)
      | 1=>cases a;cases b;exact Up.plain rfl
      | 2=>cases a;cases b;exact Up.sl (.inr ⟨by simp,by simp⟩)
      | 3=>cases a;cases b;exact Up.sl (.inr ⟨by simp,by simp⟩)
      |i+4=>cases a
   | 1=>exact absurd rfl hne
   | 2=>
     cases hj
     rw[aq]
     exact UpO.dead
   |j+3=>cases hj
  ·intro j h3 hlt
   rw[z0]at hlt
   have hj3:[H.length+1,H.length+2,H.length+3].length=3:=rfl
   rw[hj3]at h3⊢
   obtain⟨i,rfl⟩: ∃i,j=i+3:=⟨j-3,by omega⟩
   rw[Ez,Nat.add_sub_cancel,FJ,aq]
   have h4:at_ (ni H t) (4+i)=at_ (List.replicate 51 AO.dead++(.cells (dm fV) 109::(List.replicate 11 AO.dead++[.cells (dC gT) 107]))) i:=by
    unfold ni
    exact aq _ _ i
   show UpO _ _ (at_ (ni H t) (4+i))
   rw[h4]
   rcases two_at 51 11 i (.cells (dm fV) 109) (.cells (dC gT) 107)with ⟨hi,e⟩|⟨hi,e⟩|e
   ·rw[e];subst hi
    rw[z2]
    exact UpO.cells rfl fun i v u a b=>by
     rw[a]at b;cases b
     exact Up.plain (EI.1 (show(dm fV).all plain=true from rfl) v (EE a))
   ·rw[e];subst hi
    rw[z3]
    exact UpO.cells rfl fun i v u a b=>by
     rw[a]at b;cases b
     exact Up.plain (EI.1 (show(dC gT).all plain=true from rfl) v (EE a))
   ·rw[e];exact UpO.dead
  ·intro t
   by_cases h4:4=t
   ·subst h4
    rcases hless 4 with h|h
    ·rw[z4]at h;cases h
    ·rw[<-h,z4];exact Up.ptr (.inl rfl)
   ·have hu:ae [(4,Value.pointer (some ⟨H.length+1,0,none⟩))] t=undef:=by simp[ae,h4]
    rw[hu];exact Up.junk
  ·refine⟨_,fun t=> .inr rfl,xg H,?_,rfl⟩
   have hr4:ak (H++ni H t) (H.length+1) 0 4=some [.slice (some ⟨H.length+2,0,none⟩) 1 1,O U 4,.slice (some ⟨H.length+55,0,none⟩) 4 18446744073709551624,.slice (some ⟨H.length+67,0,none⟩) 12 18446744073709551623]:=by
    rw[aF];rfl
   simp[go_sem,hr4,xg]<;>repeat constructor
theorem split_no(H:AH)(c:Value)(t:Int)(p:Pm)(hp:p≠ .one):AC Try.prog 33 [c,Fc.val ⟨t,p⟩] H (.pan (bf 5) H):=by
 refine AC.o 50 f33 fun σ w hr=> ?_
 obtain⟨p0,p1,p2,p3⟩:=p
 refine W.seq (W.g ?_ (by simp[go_sem,Fc.val];rfl))
 have hb:(p0==0&&p1==1&&p2==2&&p3==3)=false:=by
  rw[FN]
  intro h
  simp only[EC,beq_iff_eq]at h
  obtain⟨⟨⟨rfl,rfl⟩,rfl⟩,rfl⟩:=h
  exact hp rfl
 refine W.seq (W.region (Wl.s ?_ (by simp[go_sem,hb];rfl)))
 exact Wl.p (Sc b16 (aM _ _)) (Ends.DL (P:=Try.prog) (fn:=Try.f33) (a:=[]) rfl)
def planS(L cp:Nat)(aC:Int):AH:=[.cells [.slice none 0 0,O U 0,.slice none 0 0,.slice none 0 0] 101,.dead,.cells [.slice (some ⟨1,0,none⟩) L cp,O U aC,.slice none 0 0,.slice none 0 0] 101]
def jV(tp:Nat):Env:=[(4,.pointer (some ⟨0,0,none⟩)),(tp,.pointer (some ⟨2,0,none⟩))]
def fX(i m:Nat)(outs inns:List Value):AH:=List.replicate i AO.dead++(.cells outs 109::(List.replicate m AO.dead++[.cells inns 107]))
def fo(H0:AH)(r q o L cp:Nat)(aC:Int)(i m l1 c1 l2 c2:Nat)(outs inns:List Value):AH:=((H0.set r (.cells [.slice (some ⟨o,0,none⟩) L cp,O U aC,.slice (some ⟨H0.length+i,0,none⟩) l1 c1,.slice (some ⟨H0.length+(i+(m+1)),0,none⟩) l2 c2] 101)).set q .dead)++fX i m outs inns
theorem wk{K:Cx}(hP:K.P=Try.prog){nt:Nat}(hn:K.n=nt){code:Code}{tp:Nat}(htp:tp≠4){H0:AH}{r q o L cp:Nat}{aC:Int}{a:Env}(ha4:ae a 4= .pointer (some ⟨r,0,none⟩))(hap:ae a tp= .pointer (some ⟨q,0,none⟩))(hr:at_ H0 r= .cells [.slice none 0 0,O U 0,.slice none 0 0,.slice none 0 0] 101)(hq:at_ H0 q= .cells [.slice (some ⟨o,0,none⟩) L cp,O U aC,.slice none 0 0,.slice none 0 0] 101)(hro:r≠o)(hrq:r≠q)(hoq:o≠q)(ho:o<H0.length){T:Ev.Tri AO}(hT:toH T 3=planS L cp aC){E:Ev.Tri Value}(hE:eY E (jV tp)){i m l1 c1 l2 c2:Nat}{outs inns:List Value}(hrun:wv (evC Try.prog (oI Try.prog pJ sv mdT 1000000 60) 1000000 0 nt code E ⟨T,3,3,[]⟩) 0 (i+3) (i+(m+1)+3) 4=some (i+(m+1)+4,.cells [.slice (some ⟨1,0,none⟩) L cp,O U aC,.slice (some ⟨i+3,0,none⟩) l1 c1,.slice (some ⟨i+(m+1)+3,0,none⟩) l2 c2] 101,
  .cells outs 109,.cells inns 107,.pointer (some ⟨0,0,none⟩)))(ho1:outs.all plain=true)(hi1:inns.all plain=true):
 W K code (fun x a3 H3=>x= .ret/\a3=[(4,.pointer (some ⟨r,0,none⟩))]/\H3=fo H0 r q o L cp aC i m l1 c1 l2 c2 outs inns) a H0:=by
 obtain⟨s,hs,z0,z1,z2,z3,z4⟩:=zp hrun
 have hrl:r<H0.length:=by
  rcases FZ r H0.length with h|h
  ·exact h
  ·rw[dJ h]at hr;cases hr
 have hql:q<H0.length:=by
  rcases FZ q H0.length with h|h
  ·exact h
  ·rw[dJ h]at hq;cases hq
 refine W.view (ι:=[r,o,q]) (S:=planS L cp aC) (a1:=jV tp) (Qs:=fun x a2 S2=>x= .ret/\S2=s.h.H/\cZ s.E a2) ⟨rfl,?_,?_,?_⟩ ?_ ?_ ?_
 ·simp[hro,hrq,hoq]
 ·intro n hn
  simp only[EG,EK,or_false]at hn
  rcases hn with rfl|rfl|rfl
  ·exact hrl
  ·exact ho
  ·exact hql
 ·intro j n hj
  match j with
  | 0=>
    cases hj
    right
    rw[hr]
    exact UpO.cells rfl fun i v u a b=>by
     match i with
     | 0=>cases a;cases b;exact Up.slNil
     | 1=>cases a;cases b;exact Up.plain rfl
     | 2=>cases a;cases b;exact Up.slNil
     | 3=>cases a;cases b;exact Up.slNil
     |i+4=>cases a
  | 1=>exact .inl rfl
  | 2=>
    cases hj
    right
    rw[hq]
    exact UpO.cells rfl fun i v u a b=>by
     match i with
     | 0=>cases a;cases b;exact Up.sl rfl
     | 1=>cases a;cases b;exact Up.plain rfl
     | 2=>cases a;cases b;exact Up.slNil
     | 3=>cases a;cases b;exact Up.slNil
     |i+4=>cases a
  |j+3=>cases hj
 ·intro t
  by_cases h4:4=t
  ·subst h4;rw[ha4];exact Up.ptr rfl
  ·by_cases h5:tp=t
   ·subst h5
    rw[hap]
    have hu:ae (jV tp) tp= .pointer (some ⟨2,0,none⟩):=by simp[jV,ae,h4]
    rw[hu];exact Up.ptr rfl
   ·have hu:ae (jV tp) t=undef:=by simp[jV,ae,h4,h5]
    rw[hu];exact Up.junk
 ·intro K' hP' hn'
  have J:=evT_ok.ok (x:= .ret) (s:=s) hs (Q:=fun x a2 S2=>x= .ret/\S2=s.h.H/\cZ s.E a2) (a:=jV tp) hE.less fun a' ha'=>⟨rfl,rfl,ha'⟩
  have J: ∀K:oq Try.prog nt,W K.1 code (fun x a2 S2=>x= .ret/\S2=s.h.H/\cZ s.E a2) (jV tp) (toH T 3):=J
  rw[hT]at J
  exact J ⟨K',hP'.trans hP,hn'.trans hn⟩
 ·rintro x a2 S2 ⟨rfl,rfl,hless⟩
  have hbl:((H0.set r (.cells [.slice (some ⟨o,0,none⟩) L cp,O U aC,.slice (some ⟨H0.length+i,0,none⟩) l1 c1,.slice (some ⟨H0.length+(i+(m+1)),0,none⟩) l2 c2] 101)).set q .dead).length=H0.length:=by simp
  refine⟨by simp,[(4,.pointer (some ⟨r,0,none⟩))],fo H0 r q o L cp aC i m l1 c1 l2 c2 outs inns,⟨?_,?_,?_,?_⟩,?_,rfl,rfl,rfl⟩
  ·rw[z0];simp[fo,fX];omega
  ·intro n hn hd
   unfold fo
   rw[ag (by rw[hbl];exact hn)]
   have h1:n≠r:=fun e=>by subst e;have:=hd 0 rfl;cases this
   have h2:n≠q:=fun e=>by subst e;have:=hd 2 rfl;cases this
   rw[af (Fg h2),af (Fg h1)]
  ·intro j n hj hne
   match j with
   | 0=>
     cases hj
     unfold fo
     rw[z1,ag (by rw[hbl];exact hrl),af (Fg hrq),au hrl]
     exact UpO.cells rfl fun k v u a b=>by
      match k with
      | 0=>cases a;cases b;exact Up.sl (.inl rfl)
      | 1=>cases a;cases b;exact Up.plain rfl
      | 2=>cases a;cases b;exact Up.sl (.inr ⟨by simp,by simp⟩)
      | 3=>cases a;cases b;exact Up.sl (.inr ⟨by simp,by simp⟩)
      |k+4=>cases a
   | 1=>exact absurd rfl hne
   | 2=>
     cases hj
     unfold fo
     rw[ag (by rw[hbl];exact hql),au (by simpa using hql)]
     exact UpO.dead
   |j+3=>cases hj
  ·intro j h3 hlt
   rw[z0]at hlt
   have hj3:[r,o,q].length=3:=rfl
   rw[hj3]at h3⊢
   obtain⟨k,rfl⟩: ∃k,j=k+3:=⟨j-3,by omega⟩
   have h4:at_ (fo H0 r q o L cp aC i m l1 c1 l2 c2 outs inns) (H0.length+(k+3-3))=at_ (fX i m outs inns) k:=by
    unfold fo
    have:=aq ((H0.set r (.cells [.slice (some ⟨o,0,none⟩) L cp,O U aC,.slice (some ⟨H0.length+i,0,none⟩) l1 c1,.slice (some ⟨H0.length+(i+(m+1)),0,none⟩) l2 c2] 101)).set q .dead) (fX i m outs inns) k
    rw[hbl]at this
    rw[Nat.add_sub_cancel];exact this
   rw[h4]
   rcases two_at i m k (.cells outs 109) (.cells inns 107)with ⟨hi,e⟩|⟨hi,e⟩|e
   ·unfold fX
    rw[e];subst hi
    rw[z2]
    exact UpO.cells rfl fun i v u a b=>by
     rw[a]at b;cases b
     exact Up.plain (EI.1 ho1 v (EE a))
   ·unfold fX
    rw[e];subst hi
    rw[z3]
    exact UpO.cells rfl fun i v u a b=>by
     rw[a]at b;cases b
     exact Up.plain (EI.1 hi1 v (EE a))
   ·unfold fX
    rw[e];exact UpO.dead
  ·intro t
   by_cases h4:4=t
   ·subst h4
    rcases hless 4 with h|h
    ·rw[z4]at h;cases h
    ·rw[<-h,z4];exact Up.ptr (.inl rfl)
   ·have hu:ae [(4,Value.pointer (some ⟨r,0,none⟩))] t=undef:=by simp[ae,h4]
    rw[hu];exact Up.junk
noncomputable def vC:Code:=match Try.f35.body with|some (.seq _ (.seq _ (.seq _ (.seq _ rest))))=>rest|_=> .skip
noncomputable def Bw:Ev.Tri Value:=(qj (jV 6)).getD Ev.Tri.nil
noncomputable def vx:Code:=match Try.f36.body with|some (.seq _ (.seq _ (.seq _ (.seq _ (.seq _ rest)))))=>rest|_=> .skip
noncomputable def AK:Ev.Tri Value:=(qj (jV 5)).getD Ev.Tri.nil
def gR:List Ou:=[⟨0,1,0,1,nM 1⟩,⟨0,0,1,1,oa 1⟩,⟨1,1,0,2,nM 2⟩,⟨1,0,1,2,oa 2⟩,⟨2,1,0,3,nM 3⟩,⟨2,0,1,3,oa 3⟩]
def lU:List Nn:=[⟨0,2,1,.swap 2 3⟩,⟨0,3,2,.swap 2 3⟩,⟨1,2,2,.swap 2 3⟩,⟨1,3,0,.swap 2 3⟩,⟨2,2,0,.swap 2 3⟩,⟨2,3,1,.swap 2 3⟩]
def fO:List Ou:=[⟨0,1,0,1,(nM 1).undo⟩,⟨1,1,0,0,(oa 1).undo⟩,⟨0,2,1,1,(nM 2).undo⟩,⟨1,2,1,0,(oa 2).undo⟩,⟨0,3,2,1,(nM 3).undo⟩,⟨1,3,2,0,(oa 3).undo⟩]
def jQ:List Nn:=[⟨0,0,1,.one⟩,⟨1,0,0,.one⟩]
theorem CK:wv (evC Try.prog (oI Try.prog pJ sv mdT 1000000 60) 1000000 0 67 vC Bw ⟨T0 (planS 2 2 3),3,3,[]⟩) 0 (23+3) (23+(5+1)+3) 4=some (23+(5+1)+4,.cells [.slice (some ⟨1,0,none⟩) 2 2,O U 3,.slice (some ⟨23+3,0,none⟩) 6 18446744073709551624,.slice (some ⟨23+(5+1)+3,0,none⟩) 6 18446744073709551623] 101,
 .cells (dm gR) 109,.cells (dC lU) 107,.pointer (some ⟨0,0,none⟩)):=by kernel_rfl
theorem C6:wv (evC Try.prog (oI Try.prog pJ sv mdT 1000000 60) 1000000 0 75 vx AK ⟨T0 (planS 3 18446744073709551621 2),3,3,[]⟩) 0 (29+3) (29+(5+1)+3) 4=some (29+(5+1)+4,.cells [.slice (some ⟨1,0,none⟩) 3 18446744073709551621,O U 2,.slice (some ⟨29+3,0,none⟩) 6 18446744073709551624,.slice (some ⟨29+(5+1)+3,0,none⟩) 2 18446744073709551623] 101,
 .cells (dm fO) 109,.cells (dC jQ) 107,.pointer (some ⟨0,0,none⟩)):=by kernel_rfl
end Go.Proofs.Ytjcomcgpjjianaa
