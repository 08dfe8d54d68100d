import Derived.Test.YtjcomcgpjjianaaA19
import Derived.Test.YtjcomcgpjjianaaA28
set_option linter.all false
set_option maxHeartbeats 16000000
set_option maxRecDepth 8000
open Go.Value renaming int→O
open Go.IntKind renaming i64→U
namespace Go.Proofs.Ytjcomcgpjjianaa
open Go.Ev
def rev5(v0 v1 v2 v3 v4:Int):Nat->List Value
 | 0=>[O U v0,O U v1,O U v2,O U v3,O U v4]
 | 1=>[O U v4,O U v1,O U v2,O U v3,O U v0]
 |_=>[O U v4,O U v3,O U v2,O U v1,O U v0]
theorem AF(H:AH)(m:Nat)(v0 v1 v2 v3 v4:Int)(hm:m<H.length)(hat:at_ H m= .cells [O U v0,O U v1,O U v2,O U v3,O U v4] 3):
 AC Try.prog 96 [.slice (some ⟨m,0,none⟩) 5 5] H (.val (.tuple #[]) (H.set m (.cells [O U v4,O U v3,O U v2,O U v1,O U v0] 3))):=by
 have w1:IntKind.i64.wrap 1=1:=by decide
 have w2:IntKind.i64.wrap 2=2:=by decide
 have w3:IntKind.i64.wrap 3=3:=by decide
 have w4:IntKind.i64.wrap 4=4:=by decide
 have hset:H.set m (.cells (rev5 v0 v1 v2 v3 v4 0) 3)=H:=yU H hat (by simp)
 refine AC.o 28 f96 fun σ w hr=> ?_
 refine W.seq (W.g ?_)
 refine W.block ?_
 refine W.loop (fun k E h=> ∃r,k=2-r/\r<=2/\ae E 0= .slice (some ⟨m,0,none⟩) 5 5/\ae E 2=O U r/\ae E 3=O U (4-r)/\h=H.set m (.cells (rev5 v0 v1 v2 v3 v4 r) 3)) 2
  ⟨0,rfl,by omega,by simp[ae],by simp[ae],by simp[ae,w4],hset.symm⟩ ?_
 rintro k E h ⟨r,rfl,hr2,e0,e2,e3,rfl⟩
 have hat1:=fun o=>au (H:=H) hm o
 match r,hr2 with
 | 0,_=>
   refine W.seq (W.seq (W.g ?_ (by simp[go_sem,e2,e3];rfl)))
   refine W.ct (W.skip ?_)
   refine W.seq (W.block ?_)
   refine W.drawnBy (fun i=>false) follows (by decide+kernel) (Dl.s (Dl.nil ?_) (by simp[go_sem,e0,e2,e3,ah,hat1,GU,rev5,du];rfl))
   refine W.g ?_ (by simp[go_sem,e2,e3,w1,w3];rfl)
   exact⟨1,by omega,1,rfl,by omega,by simp[ae,e0],by simp[ae],by simp[ae],rfl⟩
 | 1,_=>
   refine W.seq (W.seq (W.g ?_ (by simp[go_sem,e2,e3];rfl)))
   refine W.ct (W.skip ?_)
   refine W.seq (W.block ?_)
   refine W.drawnBy (fun i=>false) follows (by decide+kernel) (Dl.s (Dl.nil ?_) (by simp[go_sem,e0,e2,e3,ah,hat1,GU,rev5,du];rfl))
   refine W.g ?_ (by simp[go_sem,e2,e3,w2];rfl)
   exact⟨0,by omega,2,rfl,by omega,by simp[ae,e0],by simp[ae],by simp[ae],rfl⟩
 | 2,_=>
   refine W.seq (W.seq (W.g ?_ (by simp[go_sem,e2,e3];rfl)))
   refine W.cf (W.exit ?_)
   simp only[AX.then,AX.inBlock,if_true]
   have hbo:bC H.length (.cells (rev5 v0 v1 v2 v3 v4 2) 3):=bC.plain rfl
   refine⟨.tuple #[],_,[],rfl,rfl,by simp;rfl,by simp,Bel.junk _,fun k hk=> ?_⟩
   rw[EA]at hk⊢
   by_cases e:m=k
   ·subst e;rw[au hk];exact .inr hbo
   ·exact .inl ⟨hk,af e _⟩
theorem xu(H:AH)(a b c d e:Int):aQ Try.prog H 26 5 [(0,O U a),(1,O U b),(2,O U c),(3,O U d),(4,O U e)]=some (.slice (some ⟨H.length,0,none⟩) 5 5,H++[.cells [O U a,O U b,O U c,O U d,O U e] 3]):=by kernel_rfl
theorem Ends.set2{fn:Func}{S S1 G:AH}{a:Env}{v:Value}{m:Nat}{o:AO}(hS:S.set m o=S1)(h:fg Try.prog fn a (S1++G)=some v)(hv:Bel S.length v)(ho:bC S.length o):Ev.Ends Try.prog fn S (.val v S1) .ret a (S1++G):=by
 subst hS
 refine⟨v,S.set m o,G,h,rfl,rfl,by simp,by rw[EA];exact hv,fun k hk=> ?_⟩
 rw[EA]at hk⊢
 by_cases e:m=k
 ·subst e;rw[au hk];exact .inr ho
 ·exact .inl ⟨hk,af e _⟩
theorem Bel.push2(k:Nat)(a b:aI):Bel k (.tuple #[dP a,dP b]):=by
 intro σ v' hv
 cases hv with
 |tuple hc hc'=>
  refine .tuple hc fun i v v' h1 h2=> ?_
  have:=hc' i v v' h1 h2
  match i,h1 with
  | 0,h1=>simp at h1;subst h1;exact Bel.plain rfl _ _ this
  | 1,h1=>simp at h1;subst h1;exact Bel.plain rfl _ _ this
  |i+2,h1=>simp at h1
theorem zv(S:AH)(n na:Nat)(l:List Cr)(loops:Int)(hd:DrO S n na l loops)(hlo:0<loops/\loops<=200){s:Value}(hat:at_ S n= .cells [s,O U loops] 75)(c q:Int)(hc:c<0)(f:Nat)(hf:f<1000000):
 AC Try.prog 72 [.pointer (some ⟨n,0,none⟩),.agg #[O U c,O U q],O U f] S
  (.val (.tuple #[dP ⟨f,(f:Int)+1,(f:Int)+2,q==0⟩,dP ⟨(f:Int)+2,(f:Int)+3,f,q==0⟩]) (S.set n (.cells [s,O U (loops-1)] 75))):=by
 have hn:=hd.1
 have r1:aj S n 1=some (O U loops):=by rw[ah,hat];rfl
 have hatG: ∀G,at_ (S++G) n= .cells [s,O U loops] 75:=fun G=>by rw[ag hn];exact hat
 have hsetG: ∀G o,(S++G).set n o=S.set n o++G:=fun G o=>dO hn G o
 have hwl:IntKind.i64.wrap (loops-1)=loops-1:=by rw[EP];omega
 have w1:IntKind.i64.wrap ((f:Int)+1)=(f:Int)+1:=by rw[EP];omega
 have w2:IntKind.i64.wrap ((f:Int)+2)=(f:Int)+2:=by rw[EP];omega
 have w3:IntKind.i64.wrap ((f:Int)+3)=(f:Int)+3:=by rw[EP];omega
 have hbo:bC S.length (.cells [s,O U (loops-1)] 75):=bC.dr (hd.bel hat)
 have hsl:(S.set n (.cells [s,O U (loops-1)] 75)).length=S.length:=by simp
 refine AC.o 96 f72 fun σ w hr=> ?_
 refine W.seq (W.g ?_)
 refine W.seq (W.g ?_ (by simp[go_sem,w1,w2,w3,xu];rfl))
 refine W.seq (W.g ?_)
 refine W.seq (W.seq (W.g ?_))
 refine W.ct ?_ (by simp[go_sem,hc])
 refine W.g ?_ (by simp[go_sem,aw r1,hatG,hsetG,hwl];rfl)
 generalize hS1:S.set n (.cells [s,O U (loops-1)] 75)=S1 at*
 have e:S.length=S1.length:=hsl.symm
 rw[e]
 refine W.seq (W.drawnOne (fun i=>i==13||i==16||i==19) (S1.length+3) follows (by decide+kernel) (by simp[go_sem,j9,tn,ml,kdI]<;>repeat constructor) ?_)
 refine W.ret (Ends.set2 hS1 (by simp[go_sem,dP]<;>repeat constructor) (Bel.push2 _ _ _) hbo)
theorem AI(S:AH)(n na:Nat)(l:List Cr)(loops:Int)(hd:DrO S n na l loops)(hl:l.length<100000)(p pb pe:Nat×Nat)(hp:bt l p)(a:Int)(ha:ay l p=a)(hb:bi a false 0 l=((pb.1:Int),(pb.2:Int)))(he:bi a true 0 l=((pe.1:Int),(pe.2:Int)))(hpe:bt l pe)(f:Nat)(hf:f<1000000):
 AC Try.prog 72 [.pointer (some ⟨n,0,none⟩),plV p,O U f] S
  (.val (.tuple #[dP (if pb=p then⟨a,f,(f:Int)+1,true⟩else⟨(f:Int)+3,(f:Int)+2,(f:Int)+1,false⟩),dP (if pb=p then⟨(f:Int)+1,(f:Int)+2,(f:Int)+3,true⟩else⟨(f:Int)+1,f,a,false⟩)])
    (S.set na (.cells (aE (bE l pe ((f:Int)+3))) 73))):=by
 obtain⟨s,b,C0,hsb,hat,hsl⟩:=hd.sl
 have hn:=hd.1
 have r0:aj S n 0=some s:=by rw[ah,hat];rfl
 obtain⟨x,hx,_⟩:=ax.mem hp
 have hax:x.arc p.2=a:=by rw[<-ha];simp only[ay,hx]
 have hpp:=hd.put hpe ((f:Int)+3)
 have hsetl:=gD l pe.1 pe.2 ((f:Int)+3) hpe
 have hfl:=dy l
 obtain⟨z1,z2,z3,_⟩:=hpp
 have hss:s= .slice (some ⟨na,0,none⟩) l.length C0:=by
  obtain⟨_,⟨h1,h2,h3⟩|⟨C',h1,h2,h3,h4,h5⟩⟩:=hd
  ·exact absurd h1 z1
  ·rw[hat]at h3;simp only[AO.cells.injEq,Gc]at h3
   rw[hsb]at h3⊢
   have:=h3.1.1
   simp only[Fw]at this
   rw[this.1]
 obtain⟨pe1,pe2⟩:=pe
 have q1:pe1<l.length:=hpe.1
 have q2:pe2<4:=hpe.2
 have q1':(pe1:Int)<l.length:=by omega
 have q2':(pe2:Int)<4:=by omega
 have hfo:pe1*5+pe2+1<=(aE l).length:=by omega
 have hatA: ∀G,at_ (S++G) na= .cells (aE l) 73:=fun G=>by rw[ag z2];exact z3
 have hsetA: ∀G o,(S++G).set na o=S.set na o++G:=fun G o=>dO z2 G o
 have w1:IntKind.i64.wrap ((f:Int)+1)=(f:Int)+1:=by rw[EP];omega
 have w2:IntKind.i64.wrap ((f:Int)+2)=(f:Int)+2:=by rw[EP];omega
 have w3:IntKind.i64.wrap ((f:Int)+3)=(f:Int)+3:=by rw[EP];omega
 have hbo:bC S.length (.cells (aE (bE l (pe1,pe2) ((f:Int)+3))) 73):=bC.plain (cq _)
 have hpos: ¬((p.1:Int)<0):=by omega
 have heq:((pb.1:Int)==(p.1:Int)&&(pb.2:Int)==(p.2:Int))=decide (pb=p):=by
  rw[FU]
  simp only[EC,beq_iff_eq,decide_eq_true_eq]
  constructor
  ·rintro⟨a,b⟩;exact Gh (by omega) (by omega)
  ·rintro rfl;exact⟨rfl,rfl⟩
 simp only at hsetl
 refine AC.o 96 f72 fun σ w hr=> ?_
 refine W.seq (W.g ?_ (by simp[go_sem,plV];rfl))
 refine W.seq (W.g ?_ (by simp[go_sem,w1,w2,w3,xu];rfl))
 refine W.seq (W.g ?_)
 refine W.seq (W.seq (W.g ?_))
 refine W.cf (?_) (by simp[go_sem,hpos])
 refine W.seq (W.region (Wl.s ?_))
 refine Wl.o (Sc b73 (j8 _ _ l loops hd.is.app p.1 p.2 x hx hp.2)) ?_
 rw[hax]
 refine Wl.s (Wl.nil ?_)
 refine W.seq (W.drawnBy (fun i=>i==2) follows (by decide+kernel) (Dl.s ?_))
 refine Dl.t (Sc b68 (dk _ _ l loops hd.is.app a false (by omega))) ?_
 rw[hb]
 have hsl2:(S.set na (.cells (aE (bE l (pe1,pe2) ((f:Int)+3))) 73)).length=S.length:=by simp
 cases g:decide (pb=p)
 ·rw[g]at heq
  have hne: ¬pb=p:=by simpa using g
  rw[if_neg hne,if_neg hne]
  refine Dl.s (Dl.nil ?_) (by simp[go_sem,gZ,heq];rfl)
  refine W.seq (W.region (Wl.s ?_))
  refine Wl.o (Sc b68 (dk _ _ l loops hd.is.app a true (by omega))) ?_
  rw[he]
  refine Wl.s (Wl.nil ?_) (by simp[go_sem,gZ];rfl)
  refine W.seq (W.drawnBy (fun i=>false) follows (by decide+kernel) (Dl.s (Dl.nil ?_) (by simp[go_sem,aw r0,hss,q1',q2',hatA,hsetA,hfo,w3,hsetl,du];rfl)))
  generalize hS1:S.set na (.cells (aE (bE l (pe1,pe2) ((f:Int)+3))) 73)=S1 at*
  have e:S.length=S1.length:=hsl2.symm
  rw[e]
  refine W.seq (W.g ?_ (by simp[go_sem,w1,w2,w3,xu];rfl))
  refine W.seq (W.g ?_)
  refine W.ct ?_ (by simp[go_sem,heq])
  have hrv:=AF (S1++[AO.cells [O U p.1,O U p.2] 77,.cells [O U 0,O U 0,O U 0,.bool false] 159,.cells [O U 0,O U 0,O U 0,.bool false] 159,.cells [O U f,O U ((f:Int)+1),O U ((f:Int)+2),O U ((f:Int)+3),O U f] 3,
   .cells [O U pe1,O U pe2] 77,.cells [O U a,O U f,O U ((f:Int)+1),O U ((f:Int)+2),O U ((f:Int)+3)] 3]) (S1.length+5) a f ((f:Int)+1) ((f:Int)+2) ((f:Int)+3) (by simp) (by rw[aq];rfl)
  rw[bV]at hrv
  refine W.region (Wl.s ?_)
  refine Wl.o (Sc b96 hrv) ?_
  refine Wl.nil ?_
  simp only[List.set_cons_succ,List.set_cons_zero]
  refine W.seq (W.drawnOne (fun i=>i==13||i==16||i==19) (S1.length+5) follows (by decide+kernel) (by simp[go_sem,j9,tn,ml,kdI,heq]<;>repeat constructor) ?_)
  refine W.ret (Ends.set2 hS1 (by simp[go_sem,dP]<;>repeat constructor) (Bel.push2 _ _ _) hbo)
 ·rw[g]at heq
  have hne:pb=p:=by simpa using g
  rw[if_pos hne,if_pos hne]
  refine Dl.s (Dl.nil ?_) (by simp[go_sem,gZ,heq];rfl)
  refine W.seq (W.region (Wl.s ?_))
  refine Wl.o (Sc b68 (dk _ _ l loops hd.is.app a true (by omega))) ?_
  rw[he]
  refine Wl.s (Wl.nil ?_) (by simp[go_sem,gZ];rfl)
  refine W.seq (W.drawnBy (fun i=>false) follows (by decide+kernel) (Dl.s (Dl.nil ?_) (by simp[go_sem,aw r0,hss,q1',q2',hatA,hsetA,hfo,w3,hsetl,du];rfl)))
  generalize hS1:S.set na (.cells (aE (bE l (pe1,pe2) ((f:Int)+3))) 73)=S1 at*
  have e:S.length=S1.length:=hsl2.symm
  rw[e]
  refine W.seq (W.g ?_ (by simp[go_sem,w1,w2,w3,xu];rfl))
  refine W.seq (W.g ?_)
  refine W.cf (W.skip ?_) (by simp[go_sem,heq])
  refine W.seq (W.drawnOne (fun i=>i==13||i==16||i==19) (S1.length+5) follows (by decide+kernel) (by simp[go_sem,j9,tn,ml,kdI,heq]<;>repeat constructor) ?_)
  refine W.ret (Ends.set2 hS1 (by simp[go_sem,dP]<;>repeat constructor) (Bel.push2 _ _ _) hbo)
theorem bC.le{k l:Nat}{o:AO}(h:bC k o)(hl:k<=l):bC l o:=by
 intro σ w x ho
 have:=h σ w x ho
 cases o with
 |cells c e=>
  obtain⟨g0,cs,g1,g2,g3,g4⟩:=this
  exact⟨g0,cs,g1,g2,g3,fun i v v' a b=>(g4 i v v' a b).mono (fw hl)⟩
 |ro c=>intro i v hi;obtain⟨v',a,b⟩:=this i v hi;exact⟨v',a,b.mono (fw hl)⟩
 |map es=>
  obtain⟨g0,ents,g1,g2,g3⟩:=this
  exact⟨g0,ents,g1,g2,fun i a v e p q=>by obtain⟨x1,x2,x3⟩:=g3 i a v e p q;exact⟨x1,x2.mono (fw hl),x3⟩⟩
 |loop st pend ps assign body n env=>
  obtain⟨g0,L,g1,g2,g3,g4,g5,g6,g7,g8⟩:=this
  exact⟨g0,L,g1,g2,g3,g4,g5,g6,g7,fun t=>(g8 t).mono (fw hl)⟩
 |dead=>trivial
structure Ow(S:AH)(n na:Nat)(S':AH)(na':Nat):Prop where
 len:S.length<=S'.length
 arr:na'=na\/na'=n\/S.length<=na'
 keep: ∀k,k<S.length->k≠n->k≠na->at_ S' k=at_ S k
 bel: ∀k,k<S'.length->(k<S.length/\at_ S' k=at_ S k)\/bC S'.length (at_ S' k)
theorem Ow.trans{S S1 S2:AH}{n na n1 n2:Nat}(h:Ow S n na S1 n1)(h':Ow S1 n n1 S2 n2)(hn:n<S.length):Ow S n na S2 n2:=by
 refine⟨Fz h.len h'.len,?_,fun k k1 k2 k3=> ?_,fun k k1=> ?_⟩
 ·have:=h.len
  rcases h'.arr with e|e|e
  ·rw[e];exact h.arr
  ·exact .inr (.inl e)
  ·exact .inr (.inr (by omega))
 ·have hl:=h.len
  rw[h'.keep k (by omega) k2 ?_,h.keep k k1 k2 k3]
  rcases h.arr with e|e|e
  ·rw[e];exact k3
  ·rw[e];exact k2
  ·omega
 ·rcases h'.bel k k1 with ⟨a,b⟩|h2
  ·rcases h.bel k a with ⟨c,d⟩|h3
   ·exact .inl ⟨c,by rw[b,d]⟩
   ·exact .inr (by rw[b];exact bC.le h3 h'.len)
  ·exact .inr h2
theorem Ow.app(S:AH)(n na:Nat){G:AH}(hG: ∀m,bC (S.length+G.length) (at_ G m)):Ow S n na (S++G) na:=by
 refine⟨by simp,.inl rfl,fun k k1 _ _=>ag k1,fun k _=> ?_⟩
 by_cases h:k<S.length
 ·exact .inl ⟨h,ag h⟩
 ·obtain⟨j,rfl⟩: ∃j,k=S.length+j:=⟨k-S.length,by omega⟩
  rw[aq,Ez];exact .inr (hG j)
theorem Ow.junk(S:AH)(n na:Nat){G:AH}(hG:cP G):Ow S n na (S++G) na:=Ow.app S n na fun m=>cQ (hG.at m) _
theorem Ow.set(S:AH)(n na m:Nat)(hm:m=n\/m=na){o:AO}(ho:bC S.length o):Ow S n na (S.set m o) na:=by
 refine⟨by simp,.inl rfl,fun k _ k2 k3=>af (by rcases hm with e|e<;>(rw[e];first|exact Fg k2|exact Fg k3)) _,fun k k1=> ?_⟩
 rw[EA]at k1⊢
 by_cases e:m=k
 ·subst e;rw[au k1];exact .inr ho
 ·exact .inl ⟨k1,af e _⟩
theorem cd.ow{S:AH}{n na:Nat}{l':List Cr}{lp':Int}{r:OpR}(h:cd S n na (some (l',lp')) r): ∃S' na',r= .val (.tuple #[]) S'/\DrO S' n na' l' lp'/\Ow S n na S' na':=by
 obtain⟨S',na',h1,h2,h3,h4,h5,h6⟩:=h
 exact⟨S',na',h1,h2,⟨h3,h4,h5,h6⟩⟩
theorem Ow.moveR{S S':AH}{n na na':Nat}{l':List Cr}{lp':Int}(h:Ow S n na S' na')(hd:DrO S' n na' l' lp'):cd S n na (some (l',lp')) (.val (.tuple #[]) S'):=⟨S',na',rfl,hd,h.len,h.arr,h.keep,h.bel⟩
theorem DrO.moved{S S':AH}{n na:Nat}{l:List Cr}{loops:Int}(h:DrO S n na l loops)(hl:S.length<=S'.length)(h1:at_ S' n=at_ S n)(h2:at_ S' na=at_ S na):DrO S' n na l loops:=by
 obtain⟨h0,⟨a,b,c⟩|⟨C,a,b,c,d,e⟩⟩:=h
 ·exact⟨by omega,.inl ⟨a,b,by rw[h1];exact c⟩⟩
 ·exact⟨by omega,.inr ⟨C,a,by omega,by rw[h1];exact c,by rw[h2];exact d,e⟩⟩
def iA(l:List Cr)(a:Int)(e:Bool):Nat×Nat:=((bi a e 0 l).1.toNat,(bi a e 0 l).2.toNat)
def aK(l:List Cr)(loops:Int)(c q:Int)(f:Nat):List Cr×Int×aI:=if c<0 then(l,loops-1,⟨f,(f+1:Nat),f,q==0⟩)
 else(bE l (iA l (ay l (c.toNat,q.toNat)) true) (f+1:Nat),loops,if iA l (ay l (c.toNat,q.toNat)) false=(c.toNat,q.toNat)then⟨ay l (c.toNat,q.toNat),f,(f+1:Nat),true⟩else⟨(f+1:Nat),f,ay l (c.toNat,q.toNat),false⟩)
def Found(l:List Cr)(a:Int):Prop:=(∃p,bt l p/\bi a false 0 l=((p.1:Int),(p.2:Int)))/\ ∃p,bt l p/\bi a true 0 l=((p.1:Int),(p.2:Int))
def qy(l:List Cr)(loops:Int)(c q:Int):Prop:=(c<0/\0<loops)\/(0<=c/\0<=q/\bt l (c.toNat,q.toNat)/\Found l (ay l (c.toNat,q.toNat)))
theorem i4(S:AH)(n na:Nat)(l:List Cr)(loops:Int)(hd:DrO S n na l loops)(hl:l.length<100000)(hlo:0<=loops/\loops<=200)(c q:Int)(he:qy l loops c q)(f:Nat)(hf:f<1000000):
 ∃S',AC Try.prog 75 [.pointer (some ⟨n,0,none⟩),.agg #[O U c,O U q],O U f] S (.val (dP (aK l loops c q f).2.2) S')/\S'.length=S.length/\DrO S' n na (aK l loops c q f).1 (aK l loops c q f).2.1/\Ow S n na S' na:=by
 rcases he with ⟨hc,h0⟩|⟨hc,hq,hp,⟨pb,hpb,hb⟩,pe,hpe,he⟩
 ·obtain⟨s,b,C,hsb,hat,hsl⟩:=hd.sl
  have:=zF S n na l loops hd ⟨h0,hlo.2⟩ hat c q hc f hf
  unfold aK
  rw[if_pos hc]
  exact⟨_,this,by simp,hd.loops hat _,Ow.set S n na n (.inl rfl) (bC.dr (hd.bel hat))⟩
 ·have:=Bb S n na l loops hd hl (c.toNat,q.toNat) pb pe hp _ rfl hb he hpe f hf
  have e1:iA l (ay l (c.toNat,q.toNat)) true=pe:=by unfold iA;rw[he];simp
  have e2:iA l (ay l (c.toNat,q.toNat)) false=pb:=by unfold iA;rw[hb];simp
  have e3:plV (c.toNat,q.toNat)= .agg #[O U c,O U q]:=by unfold plV;rw[show((c.toNat:Nat):Int)=c by omega,show((q.toNat:Nat):Int)=q by omega]
  unfold aK
  rw[if_neg (by omega),e1,e2]
  rw[e3]at this
  obtain⟨_,_,_,h4⟩:=hd.put hpe ((f+1:Nat):Int)
  exact⟨_,this,by simp,h4,Ow.set S n na na (.inr rfl) (bC.plain (cq _))⟩
def bB(l:List Cr)(loops:Int)(c q:Int)(f:Nat):List Cr×Int×aI×aI:=if c<0 then(l,loops-1,⟨f,(f:Int)+1,(f:Int)+2,q==0⟩,⟨(f:Int)+2,(f:Int)+3,f,q==0⟩)
 else(bE l (iA l (ay l (c.toNat,q.toNat)) true) ((f:Int)+3),loops,(if iA l (ay l (c.toNat,q.toNat)) false=(c.toNat,q.toNat)then⟨ay l (c.toNat,q.toNat),f,(f:Int)+1,true⟩else⟨(f:Int)+3,(f:Int)+2,(f:Int)+1,false⟩),(if iA l (ay l (c.toNat,q.toNat)) false=(c.toNat,q.toNat)then⟨(f:Int)+1,(f:Int)+2,(f:Int)+3,true⟩else⟨(f:Int)+1,f,ay l (c.toNat,q.toNat),false⟩))
theorem DC(S:AH)(n na:Nat)(l:List Cr)(loops:Int)(hd:DrO S n na l loops)(hl:l.length<100000)(hlo:0<=loops/\loops<=200)(c q:Int)(he:qy l loops c q)(f:Nat)(hf:f<1000000):
 ∃S',AC Try.prog 72 [.pointer (some ⟨n,0,none⟩),.agg #[O U c,O U q],O U f] S (.val (.tuple #[dP (bB l loops c q f).2.2.1,dP (bB l loops c q f).2.2.2]) S')/\S'.length=S.length/\DrO S' n na (bB l loops c q f).1 (bB l loops c q f).2.1/\Ow S n na S' na:=by
 rcases he with ⟨hc,h0⟩|⟨hc,hq,hp,⟨pb,hpb,hb⟩,pe,hpe,he⟩
 ·obtain⟨s,b,C,hsb,hat,hsl⟩:=hd.sl
  have:=zv S n na l loops hd ⟨h0,hlo.2⟩ hat c q hc f hf
  unfold bB
  rw[if_pos hc]
  exact⟨_,this,by simp,hd.loops hat _,Ow.set S n na n (.inl rfl) (bC.dr (hd.bel hat))⟩
 ·have:=AI S n na l loops hd hl (c.toNat,q.toNat) pb pe hp _ rfl hb he hpe f hf
  have e1:iA l (ay l (c.toNat,q.toNat)) true=pe:=by unfold iA;rw[he];simp
  have e2:iA l (ay l (c.toNat,q.toNat)) false=pb:=by unfold iA;rw[hb];simp
  have e3:plV (c.toNat,q.toNat)= .agg #[O U c,O U q]:=by unfold plV;rw[show((c.toNat:Nat):Int)=c by omega,show((q.toNat:Nat):Int)=q by omega]
  unfold bB
  rw[if_neg (by omega),e1,e2]
  rw[e3]at this
  obtain⟨_,_,_,h4⟩:=hd.put hpe ((f:Int)+3)
  exact⟨_,this,by simp,h4,Ow.set S n na na (.inr rfl) (bC.plain (cq _))⟩
theorem bs151_2(H:AH)(a b c d:Int):aQ Try.prog H 151 2 [(0,.agg #[O U a,O U b]),(1,.agg #[O U c,O U d])]=some (.slice (some ⟨H.length,0,none⟩) 2 2,H++[.cells [O U a,O U b,O U c,O U d] 77]):=by kernel_rfl
def dL(l:List Cr)(c p:Int):Bool:=atB l c p||(c== -1&&(p==0||p==1))
def bQ(c:Int):Nat:=if c<0 then 1 else 0
def bj(a:aI):List Value:=[O U a.b,O U a.m,O U a.a,.bool a.al]
theorem jC{l:List Cr}{c q:Int}(h:dL l c q=true):(c= -1/\bQ c=1)\/(0<=c/\0<=q/\bt l (c.toNat,q.toNat)/\bQ c=0):=by
 unfold dL atB at h
 simp only[E8,EC,decide_eq_true_eq,beq_iff_eq]at h
 rcases h with ⟨⟨⟨h1,h2⟩,h3⟩,h4⟩|⟨rfl,_⟩
 ·refine .inr ⟨h1,h3,⟨?_,?_⟩,?_⟩
  ·simp only;omega
  ·simp only;omega
  ·unfold bQ;rw[if_neg (by omega)]
 ·exact .inl ⟨rfl,rfl⟩
theorem Ow.setJ{S T:AH}{n na na':Nat}(h:Ow S n na T na'){i:Nat}(hi:S.length<=i){o:AO}(ho:dS o=true):Ow S n na (T.set i o) na':=by
 refine⟨by rw[EA];exact h.len,h.arr,fun k k1 k2 k3=> ?_,fun k k1=> ?_⟩
 ·rw[af (by omega)];exact h.keep k k1 k2 k3
 ·rw[EA]at k1⊢
  by_cases e:i=k
  ·subst e;rw[au k1];exact .inr (cQ ho _)
  ·rw[af e];exact h.bel k k1
theorem ax.endOk{l:List Cr}(hs:ax l){loops c q:Int}(h:dL l c q=true)(h0:bQ c=1->0<loops):qy l loops c q:=by
 rcases jC h with ⟨h1,h2⟩|⟨h1,h2,h3,_⟩
 ·exact .inl ⟨by omega,h0 h2⟩
 ·refine .inr ⟨h1,h2,h3,?_⟩
  obtain⟨e,hlt⟩:=hs.an h3
  obtain⟨a1,_,_,a4⟩:=hs.pl false hlt
  obtain⟨b1,_,_,b4⟩:=hs.pl true hlt
  rw[e]at a4 b4
  exact⟨⟨_,a1,a4⟩,_,b1,b4⟩
theorem kF{fn:Func}{S T:AH}{n na:Nat}{l:List Cr}{loops:Int}(hres:fn.results= #[])(hn:n<S.length)(hO:Ow S n na T na){x y:Cr}{r1:OpR}(hr1:cd T n na (some (l++[x],loops)) r1):
 ∃S' na',r1= .val (.tuple #[]) S'/\DrO S' n na' (l++[x]) loops/\(∀k,k<T.length->k≠n->k≠na->at_ S' k=at_ T k)/\T.length<=S'.length/\ ∀r2,cd S' n na' (some (l++[x]++[y],loops)) r2-> ∃S2,r2= .val (.tuple #[]) S2/\S'.length<=S2.length/\ ∀a,ij Try.prog fn S (cd S n na (some (l++[x]++[y],loops))) .ret a S2:=by
 obtain⟨S',na',h1,h2,h3⟩:=hr1.ow
 refine⟨S',na',h1,h2,h3.keep,h3.len,fun r2 hr2=> ?_⟩
 obtain⟨S2,na2,k1,k2,k3⟩:=hr2.ow
 exact⟨S2,k1,k3.len,fun a=>cd.ends hres (((hO.trans h3 hn).trans k3 hn).moveR k2)⟩
theorem mJ{l:List Cr}{a:Int}{e:Bool}{p:Nat×Nat}(h:bi a e 0 l=((p.1:Int),(p.2:Int))):iA l a e=p:=by unfold iA;rw[h];simp
theorem ax.found{l:List Cr}(hs:ax l){p0 pe p:Nat×Nat}(hpe:bt l pe)(he:ay l pe=ay l p0)(hp:bt l p)(hne:ay l p0≠ay l p){v:Int}(hv:2*(l.length:Int)<=v):
 ay (bE l pe v) p=ay l p/\Found (bE l pe v) (ay l p):=by
 have hrng:=hs.rng hp
 have hpp:p≠pe:=fun e=>hne (by rw[e,he])
 have hat:ay (bE l pe v) p=ay l p:=by rw[cC hpe _ hp.2,if_neg hpp]
 refine⟨hat,?_⟩
 have key: ∀e,∃q,bt (bE l pe v) q/\bi (ay l p) e 0 (bE l pe v)=((q.1:Int),(q.2:Int)):=by
  intro e
  obtain⟨q,hq⟩:=hs.ex (ay l p) e hrng.1 hrng.2
  obtain⟨a1,a2,a3⟩:=dn.1 hq
  have hqe:q≠pe:=fun h=>hne (by rw[<-he,<-h,a2])
  have hit:kT (bE l pe v) (ay l p) e q:=dn.2 ⟨(cz (aU _ _ _)).2 a1,by rw[cC hpe _ a1.2,if_neg hqe,a2],by rw[iI,a3]⟩
  rcases fC (ay l p) e (bE l pe v) 0 with ⟨_,h2⟩|⟨q',h1,h2⟩
  ·exact absurd hit (h2 q)
  ·refine⟨q',h2.pl,?_⟩
   rw[h1,EU]
 exact⟨key false,key true⟩
theorem Aq{l:List Cr}(hs:ax l){loops ac ap tc tp:Int}(h1:dL l ac ap=true)(h2:dL l tc tp=true)(hk:((bQ ac+bQ tc:Nat):Int)<=loops)(hj:bQ ac+bQ tc≠0\/ay l (ac.toNat,ap.toNat)≠ay l (tc.toNat,tp.toNat)):
 qy l loops ac ap/\qy (aK l loops ac ap (2*l.length)).1 (aK l loops ac ap (2*l.length)).2.1 tc tp/\loops-1<=(aK l loops ac ap (2*l.length)).2.1/\(aK l loops ac ap (2*l.length)).2.1<=loops/\(0<=loops->0<=(aK l loops ac ap (2*l.length)).2.1):=by
 have e1:=hs.endOk (loops:=loops) h1 (fun h=>by omega)
 refine⟨e1,?_⟩
 rcases jC h1 with ⟨a1,a2⟩|⟨a1,a2,a3,a4⟩
 ·have hF:aK l loops ac ap (2*l.length)=(l,loops-1,⟨(2*l.length:Nat),(2*l.length+1:Nat),(2*l.length:Nat),ap==0⟩):=by unfold aK;rw[if_pos (by omega)]
  rw[hF]
  refine⟨hs.endOk h2 (fun h=>by simp only;omega),?_,?_,fun _=> ?_⟩<;>(simp only;omega)
 ·obtain⟨e,hlt⟩:=hs.an a3
  obtain⟨b1,b2,_,b4⟩:=hs.pl true hlt
  rw[e]at b4 b2
  have hpl:iA l (ay l (ac.toNat,ap.toNat)) true=aW l (bW l (ac.toNat,ap.toNat)) true:=mJ b4
  have hF1:(aK l loops ac ap (2*l.length)).1=bE l (aW l (bW l (ac.toNat,ap.toNat)) true) (2*l.length+1:Nat):=by unfold aK;rw[if_neg (by omega),hpl]
  have hF2:(aK l loops ac ap (2*l.length)).2.1=loops:=by unfold aK;rw[if_neg (by omega)]
  rw[hF1,hF2]
  refine⟨?_,by omega,by omega,fun h=>h⟩
  rcases jC h2 with ⟨c1,c2⟩|⟨c1,c2,c3,c4⟩
  ·exact .inl ⟨by omega,by omega⟩
  ·have hne:ay l (ac.toNat,ap.toNat)≠ay l (tc.toNat,tp.toNat):=by
    rcases hj with h|h
    ·omega
    ·exact h
   obtain⟨f1,f2⟩:=hs.found b1 b2 c3 hne (v:=((2*l.length+1:Nat):Int)) (by omega)
   exact .inr ⟨c1,c2,(cz (aU _ _ _)).2 c3,by rw[f1];exact f2⟩
end Go.Proofs.Ytjcomcgpjjianaa
