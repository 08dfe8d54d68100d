import Derived.Test.YtjcomcgpjjianaaA19
import Derived.Test.YtjcomcgpjjianaaA35
import Derived.Test.YtjcomcgpjjianaaA37
set_option linter.all false
set_option maxHeartbeats 16000000
set_option maxRecDepth 8000
open Go.Value renaming int→O
open Go.IntKind renaming i64→U
namespace Go.Proofs.Ytjcomcgpjjianaa
open Go.Ev
theorem und98:Try.prog.underlying 98=some (.slice 109):=by kernel_rfl
theorem info109:Try.prog.info? 109=some Try.t109:=by kernel_rfl
theorem Db:Try.t109.bytes=64:=rfl
theorem CT(g h:List Ou):dm (g++h)=dm g++dm h:=by simp[dm]
theorem bs98_1(H:AH)(a b c d e f g h:Int):aQ Try.prog H 98 1 [(0,.agg #[O U a,O U b,O U c,O U d,O U e,O U f,O U g,O U h])]=some (.slice (some ⟨H.length,0,none⟩) 1 1,H++[.cells [O U a,O U b,O U c,O U d,O U e,O U f,O U g,O U h] 109]):=by kernel_rfl
theorem app98{H G:AH}{v:Value}{len:Nat}{cont:List Value}{a b c d e f g h:Int}(hl:len<1000000)(hg:bA G H.length 109 8 v len cont):
 ∃G',bD Try.prog (H++(G++[.cells [O U a,O U b,O U c,O U d,O U e,O U f,O U g,O U h] 109])) #[98,98] v (.slice (some ⟨H.length+G.length,0,none⟩) 1 1)=some (.slice (some ⟨H.length+(G.length+1),0,none⟩) (len+1) (unk+8),H++G')/\bA G' H.length 109 8 (.slice (some ⟨H.length+(G.length+1),0,none⟩) (len+1) (unk+8)) (len+1) (cont++[O U a,O U b,O U c,O U d,O U e,O U f,O U g,O U h])/\G'.length=G.length+2/\(∀j,j<G.length->bA.DJ H.length v j->at_ G' j=at_ G j):=by
 obtain⟨v',G',h1,h2,h3,h4,_,_,rfl,_⟩:=bA.append (P:=Try.prog) (H:=H) (G:=G) (v:=v) (cont:=cont) (e:=109) (ts:= #[98,98]) (t:=98) (el:=[O U a,O U b,O U c,O U d,O U e,O U f,O U g,O U h]) (it:=Try.t109) (z:= .agg #[O U 0,O U 0,O U 0,O U 0,O U 0,O U 0,O U 0,O U 0]) (by simp[und98]) info109 rfl rfl (by decide) rfl und98 (fun _ h=>nomatch h) rfl rfl (by rw[Db];omega) (by omega) hg
 exact⟨G',h1,h2,h3,h4⟩
def fB:List Ou:=[⟨0,0,0,0,.one⟩,⟨0,1,1,1,.one⟩,⟨0,2,2,2,.one⟩,⟨0,3,3,3,.one⟩]
def mh(g:List Row)(x:Fc):Nat->Option (List Fc)
 | 0=>some [x]
 |j+1=>(mh g x j).bind fun l=>(acr g x ((j+1:Nat):Int) (.swap 0 ((j+1:Nat):Int))).map fun z=>l++[z]
def jOk(g:List Row)(l:List Fc)(q h:Nat):Bool:=h==q||match l[q]?,l[h]? with|some y,some z=>jnd g y h z (.swap q h)|_,_=>false
def gJ(g:List Row)(x:Fc):Option (List Fc):=(mh g x 3).bind fun l=>if pk l&&(List.range 4).all fun q=>(List.range 4).all fun h=>jOk g l q h then some l else none
theorem nQ{g:List Row}{x:Fc}: ∀{j:Nat} {l:List Fc},mh g x j=some l->l.length=j+1
 | 0,l,h=>by cases h;rfl
 |j+1,l,h=>by
  simp only[mh,EN,EB]at h
  obtain⟨l',h1,z,_,rfl⟩:=h
  rw[Ez,nQ h1];rfl
theorem tM{i j:Int}(hi:In4 i)(hj:In4 j):(Pm.swap i j).ok=true:=by
 have h1:i=0\/i=1\/i=2\/i=3:=by have:=hi.1;have:=hi.2;omega
 have h2:j=0\/j=1\/j=2\/j=3:=by have:=hj.1;have:=hj.2;omega
 rcases h1 with rfl|rfl|rfl|rfl<;>rcases h2 with rfl|rfl|rfl|rfl<;>rfl
theorem uo{g:List Row}(hg:VG g){x:Fc}(hx:fi g x): ∀{j:Nat} {l:List Fc},j<=3->mh g x j=some l-> ∀y∈l,fi g y
 | 0,l,_,h=>by cases h;intro y hy;simp at hy;subst hy;exact hx
 |j+1,l,hj,h=>by
  simp only[mh,EN,EB]at h
  obtain⟨l',h1,z,hz,rfl⟩:=h
  have ih:=uo hg hx (by omega) h1
  intro u hu
  rw[EY]at hu
  rcases hu with hu|hu
  ·exact ih u hu
  ·simp at hu;subst hu
   exact vd hg hx ⟨by omega,by omega⟩ (tM ⟨by omega,by omega⟩ ⟨by omega,by omega⟩) hz
theorem Bq{g:List Row}{x:Fc}{j:Nat}(h:mh g x j=none): ∀{k:Nat},j<=k->mh g x k=none:=by
 intro k hk
 induction k with
 |zero=>have:j=0:=by omega
        subst this;exact h
 |succ k ih=>
  by_cases e:j=k+1
  ·subst e;exact h
  ·have:=ih (by omega)
   unfold mh;rw[this];rfl
structure MlS(H G:AH)(i C q:Nat)(outs:List Fc)(ol:Value):Prop where
 a1:at_ G 1= .cells [.slice none 0 0,O U 0,.slice none 0 0,.slice none 0 0] 101
 a3:at_ G 3= .cells [.slice (some ⟨H.length+i,0,none⟩) outs.length C,O U 1,ol,.slice none 0 0] 101
 li:i<G.length
 ai:at_ G i= .cells (eI outs) 103
 n1:i≠1
 n3:i≠3
 l3:3<G.length
 gr:bA G H.length 109 8 ol q (dm (fB.take q))
 o1:bA.DJ H.length ol 1
 o3:bA.DJ H.length ol 3
 oi:bA.DJ H.length ol i
theorem MlS.r3{H G:AH}{i C q:Nat}{outs:List Fc}{ol:Value}(h:MlS H G i C q outs ol):aj G 3 0=some (.slice (some ⟨H.length+i,0,none⟩) outs.length C):=by
 rw[ah,h.a3];rfl
theorem MlS.r32{H G:AH}{i C q:Nat}{outs:List Fc}{ol:Value}(h:MlS H G i C q outs ol):aj G 3 2=some ol:=by
 rw[ah,h.a3];rfl
theorem MlS.rout{H G:AH}{i C q:Nat}{outs:List Fc}{ol:Value}(h:MlS H G i C q outs ol):ak G i 0 (outs.length*5)=some (eI outs):=ao h.ai (n0 _).symm
theorem MlS.rel{H G:AH}{i C q:Nat}{outs:List Fc}{ol:Value}(h:MlS H G i C q outs ol){j:Nat}{x:Fc}(hx:outs[j]? =some x):ak G i (j*5) 5=some x.cells:=by
 have hj:j<outs.length:=(Ey.1 hx).1
 obtain⟨y,hy,h5,_⟩:=jH h.rout hj
 rw[hx]at hy;cases hy
 rw[EU]at h5;exact h5
theorem MlS.more{H G G':AH}{i C q:Nat}{outs:List Fc}{ol:Value}(h:MlS H G i C q outs ol)(hq:q<4)(hg:bA G' H.length 109 8 (.slice (some ⟨H.length+(G.length+1),0,none⟩) (q+1) (unk+8)) (q+1) (dm (fB.take q)++[O U 0,O U q,O U q,O U q,O U 0,O U 1,O U 2,O U 3]))(hl:G'.length=G.length+2)(hk: ∀j,j<G.length->bA.DJ H.length ol j->at_ G' j=at_ G j):
 at_ G' 3= .cells [.slice (some ⟨H.length+i,0,none⟩) outs.length C,O U 1,ol,.slice none 0 0] 101/\MlS H (G'.set 3 (.cells [.slice (some ⟨H.length+i,0,none⟩) outs.length C,O U 1,.slice (some ⟨H.length+(G.length+1),0,none⟩) (q+1) (unk+8),.slice none 0 0] 101)) i C (q+1) outs (.slice (some ⟨H.length+(G.length+1),0,none⟩) (q+1) (unk+8)):=by
 have h3:=h.l3
 have hli:=h.li
 have hc:fB.take (q+1)=fB.take q++[⟨0,q,q,q,.one⟩]:=by
  have:q=0\/q=1\/q=2\/q=3:=by omega
  rcases this with rfl|rfl|rfl|rfl<;>rfl
 refine⟨by rw[hk 3 h3 h.o3];exact h.a3,?_⟩
 refine⟨?_,?_,by simp;omega,?_,h.n1,h.n3,by simp;omega,?_,dv (by omega),dv (by omega),dv (by omega)⟩
 ·rw[af (by omega),hk 1 (by omega) h.o1];exact h.a1
 ·rw[au (by omega)]
 ·rw[af (Fg h.n3),hk i hli h.oi];exact h.ai
 ·refine bA.set ?_ (dv (by omega)) _
  rw[hc,CT]
  exact hg
theorem merge_ok(H:AH)(n:Nat)(s:Value)(g:List Row)(hc:aj H n 0=some s)(hs:SlG H s g)(hg:VG g)(x:Fc)(hx:fi g x):
 ACE Try.prog 34 [.pointer (some ⟨n,0,none⟩),x.val] H (vG H (gJ g x) 1 fB []):=by
 refine ACE.ofY (N:=68) f34 rfl rfl (EL rfl) ?_
 have hsw: ∀H (a b:Nat),a<4->b<4->AC Try.prog 57 [O U a,O U b] H (.val (Pm.swap a b).val H):=fun H a b h1 h2=>nR H a b ⟨by omega,by omega⟩ ⟨by omega,by omega⟩
 have hsw0: ∀H (b:Nat),b<4->AC Try.prog 57 [O U 0,O U b] H (.val (Pm.swap 0 b).val H):=fun H b h2=>nR H 0 b ⟨by omega,by omega⟩ ⟨by omega,by omega⟩
 have hac: ∀X (l:Nat),l<4->AC Try.prog 58 [.pointer (some ⟨n,0,none⟩),x.val,O U l,(Pm.swap 0 l).val] (H++X) (match acr g x l (.swap 0 l)with|none=> .pan (bf 5) (H++X)|some y=> .val y.val (H++X)):=fun X l hl=>tU (H++X) n s g (aw hc) hs.app x hx l ⟨by omega,by omega⟩ _ (tM ⟨by omega,by omega⟩ ⟨by omega,by omega⟩)
 have hjo: ∀X y z (a b:Nat),fi g y->a<4->b<4->AC Try.prog 60 [.pointer (some ⟨n,0,none⟩),y.val,O U b,z.val,(Pm.swap a b).val] (H++X) (kI (H++X) (jnd g y b z (.swap a b))):=fun X y z a b hy ha hb=>tS (H++X) n s g (aw hc) hs.app y hy b ⟨by omega,by omega⟩ z _ (tM ⟨by omega,by omega⟩ ⟨by omega,by omega⟩)
 unfold Fc.val Pm.val at hac hjo
 unfold Pm.val at hsw hsw0
 refine X.seq (X.g ?_ (by simp[go_sem,Fc.val];rfl))
 refine X.seq (X.g ?_ (by simp[go_sem,uh];rfl))
 refine X.seq (X.seq (X.g ?_))
 refine X.block ?_
 refine X.loop (fun m E h=> ∃j G i C outs,m=3-j/\j<=3/\ae E 0= .pointer (some ⟨n,0,none⟩)/\ae E 3= .pointer (some ⟨H.length,0,none⟩)/\ae E 4= .pointer (some ⟨H.length+1,0,none⟩)/\ae E 5= .pointer (some ⟨H.length+3,0,none⟩)/\ae E 6=O U ((j+1:Nat):Int)/\h=H++G/\mh g x j=some outs/\PlS H G i C 1 outs/\i≠0/\at_ G 0= .cells x.cells 103) 3
  ⟨0,_,2,1,[x],rfl,by omega,by simp[ae],by simp[ae],by simp[ae],by simp[ae],by simp[ae],rfl,rfl,⟨rfl,rfl,by simp,rfl,.inl ⟨rfl,by simp[mK]⟩,by decide,by decide,by simp⟩,by decide,rfl⟩ ?_
 rintro m E h ⟨j,G,i,C,outs,rfl,hj,e0,e3,e4,e5,e6,rfl,ho,hp,hi0,hx0⟩
 have hlen:=nQ ho
 have hin:=uo hg hx hj ho
 by_cases hlt:j<3
 ·have hlt':(((j+1:Nat):Int))<4:=by omega
  have r3:=hp.r3
  have r0:ak G 0 0 5=some x.cells:=ao hx0 rfl
  have hnext:mh g x (j+1)=(acr g x ((j+1:Nat):Int) (.swap 0 ((j+1:Nat):Int))).map fun z=>outs++[z]:=by simp[mh,ho]
  have hacy:=fun X=>hac X (j+1) (by omega)
  have hswy:=fun X=>hsw0 X (j+1) (by omega)
  have hjj:IntKind.i64.wrap (((j+1:Nat):Int)+1)=((j+1+1:Nat):Int):=aA (by omega)
  generalize hJ:j+1=J at*
  refine X.seq (X.seq (X.g ?_ (by simp[go_sem,e6,hlt'];rfl)))
  refine X.ct (X.skip ?_)
  refine X.seq (X.block ?_)
  unfold Fc.cells at r0
  cases hz:acr g x J (.swap 0 J)with
  |none=>
   rw[hz]at hacy hnext
   have hF:gJ g x=none:=by
    unfold gJ;rw[Bq hnext (by omega)];rfl
   refine X.drawnPartBy [0,1,2,3,4,5,6,7] (fun i=>i==6||i==7) follows (by decide+kernel) (by decide+kernel) ?_
   unfold iC
   simp only[Fv,Gy,GQ,GR]
   refine Xd.s ?_ (by simp[go_sem,e0,e3,e5,e6,r3,r0];rfl)
   refine Xd.t (Sc b57 (hswy _)) ?_
   refine Xd.s ?_ (by simp[go_sem,e5];rfl)
   refine Xd.pan (by simp[go_sem]) (Sc b58 (hacy _)) rfl ?_
   exact⟨.pan (bf 5) H,by rw[hF];rfl,Ends.DL (P:=Try.prog) (fn:=Try.f34) (a:=[]) rfl⟩
  |some z=>
   rw[hz]at hacy hnext
   obtain⟨zt,⟨z0,z1,z2,z3⟩⟩:=z
   obtain⟨G',ha,hgr,hl',hk⟩:=app97 (a:=zt) (b:=z0) (c:=z1) (d:=z2) (e:=z3) (by omega) hp.grow
   obtain⟨h3,hp'⟩:=hp.more (y:=⟨zt,⟨z0,z1,z2,z3⟩⟩) hgr hl' hk
   have hle:G.length+1<=G'.length:=by omega
   have hl3:=hp.l3
   refine X.drawnBy (fun i=>i==6||i==7) follows (by decide+kernel) (Xd.s ?_ (by simp[go_sem,e0,e3,e5,e6,r3,r0];rfl))
   refine Xd.t (Sc b57 (hswy _)) ?_
   refine Xd.s ?_
   refine Xd.t (Sc b58 (hacy _)) ?_
   refine Xd.s (Xd.nil ?_) (by simp[go_sem,Fc.val,uh,ha,e5,h3,hle];rfl)
   refine X.g ?_ (by simp[go_sem,e6];rfl)
   refine⟨3-J,by omega,J,_,G.length+1,unk+5,outs++[⟨zt,⟨z0,z1,z2,z3⟩⟩],rfl,by omega,by simp[ae,e0],by simp[ae,e3],by simp[ae,e4],by simp[ae,e5],by simp[ae,hjj],rfl,by rw[hnext];rfl,hp',by omega,?_⟩
   rw[af (by omega),hk 0 (by omega) (dv hi0)];exact hx0
 ·have hj2:j=3:=by omega
  subst hj2
  refine X.seq (X.seq (X.g ?_ (by simp[go_sem,e6];rfl)))
  refine X.cf (X.exit ?_)
  simp only[AX.then,AX.inBlock,if_true]
  have r3:=hp.r3
  have hdf:=iW (H++G) (H.length+i) 0 C outs (by rw[aF];exact hp.rout) (by omega)
  unfold kI at hdf
  cases hd:pk outs
  ·rw[hd,if_neg (by simp)]at hdf
   have hF:gJ g x=none:=by unfold gJ;rw[ho,Option.bind_some,hd,G7];rfl
   refine X.seq (X.region (Xl.s ?_ (by simp[go_sem,e5,r3];rfl)))
   refine Xl.p (Sc b59 hdf) ?_
   exact⟨.pan (bf 5) H,by rw[hF];rfl,Ends.DL (P:=Try.prog) (fn:=Try.f34) (a:=[]) rfl⟩
  rw[hd,if_pos rfl]at hdf
  refine X.seq (X.region (Xl.s ?_ (by simp[go_sem,e5,r3];rfl)))
  refine Xl.o (Sc b59 hdf) (Xl.nil ?_)
  have hF:gJ g x=if(List.range 4).all fun q=>(List.range 4).all fun h=>jOk g outs q h then some outs else none:=by unfold gJ;rw[ho,Option.bind_some,hd,F0]
  clear ho hd hdf hac
  refine X.seq (X.seq (X.g ?_))
  refine X.block ?_
  have hli:=hp.li
  refine X.loop (fun m E h=> ∃q G ol,m=4-q/\q<=4/\ae E 0= .pointer (some ⟨n,0,none⟩)/\ae E 4= .pointer (some ⟨H.length+1,0,none⟩)/\ae E 5= .pointer (some ⟨H.length+3,0,none⟩)/\ae E 30=O U (q:Nat)/\h=H++G/\MlS H G i C q outs ol/\ ∀a,a<q-> ∀b,b<4->jOk g outs a b=true) 4
   ⟨0,G,.slice none 0 0,rfl,by omega,by simp[ae,e0],by simp[ae,e4],by simp[ae,e5],by simp[ae],rfl,⟨hp.a1,hp.a3,hp.li,hp.ai,hp.n1,hp.n3,hp.l3,.inl ⟨rfl,rfl,rfl⟩,fun _ _ h=>(by cases h),fun _ _ h=>(by cases h),fun _ _ h=>(by cases h)⟩,fun a ha=>by omega⟩ ?_
  clear e0 e3 e4 e5 e6 hp hx0 hli r3 G E
  rintro m E h ⟨q,G,ol,rfl,hq,e0,e4,e5,e30,rfl,hp,hok⟩
  by_cases hlt:q<4
  ·have hlt':(q:Int)<4:=by omega
   refine X.seq (X.g ?_ (by simp[go_sem,e30,hlt'];rfl))
   refine X.seq (X.ct (X.skip ?_))
   refine X.seq (X.block ?_)
   refine X.seq (X.g ?_ (by simp[go_sem,e30];rfl))
   have r32:=hp.r32
   obtain⟨G',ha,hgr,hl',hk⟩:=app98 (a:=0) (b:=q) (c:=q) (d:=q) (e:=0) (f:=1) (g:=2) (h:=3) (by omega) hp.gr
   obtain⟨h3,hp'⟩:=hp.more hlt hgr hl' hk
   have hle:G.length+1<=G'.length:=by omega
   refine X.seq (X.drawnBy (fun i=>i==5) follows (by decide+kernel) (Xd.s ?_ (by simp[go_sem,e0,e5,r32];rfl)))
   refine Xd.t (Sc b57 (hsw _ 0 0 (by omega) (by omega))) ?_
   refine Xd.s (Xd.nil ?_) (by simp[go_sem,bs98_1,Pm.swap,qL,ha,e5,h3,hle];rfl)
   refine X.seq (X.g ?_)
   refine X.block ?_
   generalize hG2:G'.set 3 (.cells [.slice (some ⟨H.length+i,0,none⟩) outs.length C,O U 1,.slice (some ⟨H.length+(G.length+1),0,none⟩) (q+1) (unk+8),.slice none 0 0] 101)=G2 at hp'
   refine X.loop (fun m E h=> ∃b,m=4-b/\b<=4/\ae E 0= .pointer (some ⟨n,0,none⟩)/\ae E 4= .pointer (some ⟨H.length+1,0,none⟩)/\ae E 5= .pointer (some ⟨H.length+3,0,none⟩)/\ae E 30=O U (q:Nat)/\ae E 7=O U (q:Nat)/\ae E 43=O U (b:Nat)/\h=H++G2/\ ∀b',b'<b->jOk g outs q b'=true) 4
    ⟨0,rfl,by omega,by simp[ae,e0],by simp[ae,e4],by simp[ae,e5],by simp[ae,e30],by simp[ae],by simp[ae],rfl,fun a ha=>by omega⟩ ?_
   clear e0 e4 e5 e30 E hgr ha hk h3 r32 hle hG2
   rintro m E h ⟨b,rfl,hb,e0,e4,e5,e30,e7,e43,rfl,hokb⟩
   by_cases hltb:b<4
   ·have hltb':(b:Int)<4:=by omega
    refine X.seq (X.g ?_ (by simp[go_sem,e43,hltb'];rfl))
    refine X.seq (X.ct (X.skip ?_))
    refine X.seq (X.block ?_)
    refine X.seq (X.g ?_ (by simp[go_sem,e43];rfl))
    have hbb:IntKind.i64.wrap ((b:Int)+1)=((b+1:Nat):Int):=aA (by omega)
    by_cases hbq:b=q
    ·have hne:((b:Int)!=(q:Int))=false:=by simp[hbq]
     refine X.seq (X.g ?_ (by simp[go_sem,e7,hne];rfl))
     refine X.cf (X.skip ?_) (by simp[go_sem,hbq])
     refine X.g ?_ (by simp[go_sem,e43];rfl)
     refine⟨4-(b+1),by omega,b+1,rfl,by omega,by simp[ae,e0],by simp[ae,e4],by simp[ae,e5],by simp[ae,e30],by simp[ae,e7],by simp[ae,hbb],rfl,fun b' hb'=> ?_⟩
     by_cases e:b'=b
     ·subst e;unfold jOk;simp[hbq]
     ·exact hokb b' (by omega)
    ·have hne:((b:Int)!=(q:Int))=true:=by simp;omega
     obtain⟨y,hy⟩: ∃y,outs[q]? =some y:=⟨_,Ex (show q<outs.length by omega)⟩
     obtain⟨z,hz⟩: ∃z,outs[b]? =some z:=⟨_,Ex (show b<outs.length by omega)⟩
     have hyin:=hin y (EE hy)
     have r3:=hp'.r3
     have ry:=hp'.rel hy
     have rz:=hp'.rel hz
     have hql:(q:Int)<(outs.length:Int):=by omega
     have hbl:(b:Int)<(outs.length:Int):=by omega
     have hjoy:=fun X=>hjo X y z q b hyin hlt hltb
     have hJ:jOk g outs q b=jnd g y b z (.swap q b):=by
      unfold jOk;rw[hy,hz];simp[hbq]
     obtain⟨yt,⟨y0,y1,y2,y3⟩⟩:=y
     obtain⟨zt,⟨z0,z1,z2,z3⟩⟩:=z
     unfold Fc.cells at ry rz
     refine X.seq (X.g ?_ (by simp[go_sem,e7,hne];rfl))
     refine X.ct ?_ (by simp[go_sem,hbq])
     cases hj:jnd g ⟨yt,⟨y0,y1,y2,y3⟩⟩ b ⟨zt,⟨z0,z1,z2,z3⟩⟩ (.swap q b)
     ·rw[hj]at hJ hjoy
      have hF:gJ g x=none:=by
       rw[hF,if_neg]
       intro hall
       have:=EI.1 (EI.1 hall q (ET.2 hlt)) b (ET.2 hltb)
       rw[hJ]at this;cases this
      refine X.drawnBy (fun i=>i==14||i==15) follows (by decide+kernel) (Xd.s ?_ (by simp[go_sem,e0,e5,e7,r3,ry,rz,hql,hbl];rfl))
      refine Xd.t (Sc b57 (hsw _ q b hlt hltb)) ?_
      refine Xd.pan (by simp[go_sem]) (Sc b60 (hjoy _)) rfl ?_
      exact⟨.pan (bf 5) H,by rw[hF];rfl,Ends.DL (P:=Try.prog) (fn:=Try.f34) (a:=[]) rfl⟩
     ·rw[hj]at hJ hjoy
      refine X.drawnBy (fun i=>i==14||i==15) follows (by decide+kernel) (Xd.s ?_ (by simp[go_sem,e0,e5,e7,r3,ry,rz,hql,hbl];rfl))
      refine Xd.t (Sc b57 (hsw _ q b hlt hltb)) ?_
      refine Xd.t (Sc b60 (hjoy _)) (Xd.nil ?_)
      refine X.g ?_ (by simp[go_sem,e43];rfl)
      refine⟨4-(b+1),by omega,b+1,rfl,by omega,by simp[ae,e0],by simp[ae,e4],by simp[ae,e5],by simp[ae,e30],by simp[ae,e7],by simp[ae,hbb],rfl,fun b' hb'=> ?_⟩
      by_cases e:b'=b
      ·subst e;exact hJ
      ·exact hokb b' (by omega)
   ·have hb4:b=4:=by omega
    subst hb4
    refine X.seq (X.g ?_ (by simp[go_sem,e43];rfl))
    refine X.seq (X.cf (X.exit ?_))
    simp only[AX.then,AX.inBlock,if_true]
    have hqq:IntKind.i64.wrap ((q:Int)+1)=((q+1:Nat):Int):=aA (by omega)
    refine X.g ?_ (by simp[go_sem,e30];rfl)
    refine⟨4-(q+1),by omega,q+1,G2,_,rfl,by omega,by simp[ae,e0],by simp[ae,e4],by simp[ae,e5],by simp[ae,hqq],rfl,hp',fun a ha b' hb'=> ?_⟩
    by_cases e:a=q
    ·subst e;exact hokb b' hb'
    ·exact hok a (by omega) b' hb'
  ·have hq4:q=4:=by omega
   subst hq4
   refine X.seq (X.g ?_ (by simp[go_sem,e30];rfl))
   refine X.seq (X.cf (X.exit ?_))
   simp only[AX.then,AX.inBlock,if_true]
   have hF:gJ g x=some outs:=by
    rw[hF,if_pos]
    rw[EI]
    intro a ha
    rw[EI]
    intro b hb
    exact hok a (ET.1 ha) b (ET.1 hb)
   have hgr:=hp.gr
   obtain⟨io,Co,rfl,hio,hao,hlo,hCo⟩: ∃io Co,ol= .slice (some ⟨H.length+io,0,none⟩) 4 Co/\io<G.length/\at_ G io= .cells (dm fB) 109/\True/\True:=by
    rcases hgr with ⟨_,h,_⟩|⟨io,Co,h1,h2,h3,_⟩
    ·cases h
    ·exact⟨io,Co,h1,h2,h3,trivial,trivial⟩
   have n1o:io≠1:=fun e=>hp.o1 4 Co (by rw[e])
   have rp:ak G 3 0 4=some [.slice (some ⟨H.length+i,0,none⟩) outs.length C,O U 1,.slice (some ⟨H.length+io,0,none⟩) 4 Co,.slice none 0 0]:=ao hp.a3 rfl
   have h1:=hp.a1
   have hl1:1<G.length:=by have:=hp.l3;omega
   refine X.seq (X.g ?_ (by simp[go_sem,e4,e5,rp,h1];rfl))
   have hpl:uC (H++G.set 1 (.cells [.slice (some ⟨H.length+i,0,none⟩) outs.length C,O U 1,.slice (some ⟨H.length+io,0,none⟩) 4 Co,.slice none 0 0] 101)) (.agg #[.slice (some ⟨H.length+i,0,none⟩) outs.length C,O U 1,.slice (some ⟨H.length+io,0,none⟩) 4 Co,.slice none 0 0]) outs 1 fB []:=by
    refine⟨H.length+i,C,H.length+io,Co,.slice none 0 0,rfl,?_,?_,.inl ⟨rfl,rfl⟩⟩
    ·rw[aF,eO hp.n1];exact hp.rout
    ·rw[aF,eO n1o];exact ao hao rfl
   refine X.ret ⟨_,by rw[hF];exact⟨_,_,rfl,hpl⟩,_,fun t=> .inr rfl,_,?_,rfl⟩
   have r4:ak (G.set 1 (.cells [.slice (some ⟨H.length+i,0,none⟩) outs.length C,O U 1,.slice (some ⟨H.length+io,0,none⟩) 4 Co,.slice none 0 0] 101)) 1 0 4=some [.slice (some ⟨H.length+i,0,none⟩) outs.length C,O U 1,.slice (some ⟨H.length+io,0,none⟩) 4 Co,.slice none 0 0]:=ao (au hl1 _) rfl
   simp[go_sem,e4,r4]<;>repeat constructor
def rc(g:List Row)(x:Fc):Option (List Fc):=(acr g x 0 (.swap 0 0)).bind fun u=>if pk [x,u]then some [x,u]else none
def qB(x:Fc):Option (List Fc):=if x.p= .one then some [x]else none
theorem Cq(H:AH)(n:Nat)(s:Value)(g:List Row)(hc:aj H n 0=some s)(hs:SlG H s g)(x:Fc)(hx:fi g x):
 ACE Try.prog 35 [.pointer (some ⟨n,0,none⟩),x.val] H (vG H (rc g x) 3 gR lU):=by
 obtain⟨t,ht,htl⟩:=hx.nat
 have hp:=Pm.DI hx.ok
 obtain⟨xt,p⟩:=x
 simp only at ht hp
 subst ht
 unfold rc acr
 by_cases hneg:(ew g ⟨t,p⟩ 0 (.swap 0 0)).t<0
 ·rw[if_pos hneg]
  exact⟨_,rfl,DG H n s g hc hs t p htl hp _ rfl hneg⟩
 ·rw[if_neg hneg,Option.bind_some]
  cases hd:pk [⟨t,p⟩,ew g ⟨t,p⟩ 0 (.swap 0 0)]
  ·exact⟨_,by simp[vG],raise_no H n s g hc hs t p htl hp _ rfl hneg hd⟩
  ·refine⟨_,?_,raise_ok H n s g hc hs t p htl hp _ rfl hneg hd⟩
   rw[if_pos rfl]
   have hpi:=zd (H0:=H++ki H ⟨t,p⟩ (ew g ⟨t,p⟩ 0 (.swap 0 0))) (r:=H.length+1) (q:=H.length+4) (o:=H.length+3) (L:=2) (cp:=2) (aC:=3) (i:=23) (m:=5) (l1:=6) (c1:=18446744073709551624) (l2:=6) (c2:=18446744073709551623) (out:=[⟨t,p⟩,ew g ⟨t,p⟩ 0 (.swap 0 0)]) (outers:=gR) (inners:=lU)
    (by omega) (by omega) (by simp[ki]) rfl (by rw[aF];rfl) rfl rfl rfl rfl
   have hl:(H++ki H ⟨t,p⟩ (ew g ⟨t,p⟩ 0 (.swap 0 0))).length=H.length+5:=by simp[ki]
   rw[hl]at hpi
   obtain⟨X,hX⟩: ∃X,mM H ⟨t,p⟩ (ew g ⟨t,p⟩ 0 (.swap 0 0))=H++X:=by
    unfold mM fo
    rw[bV,bV,EH]
    exact⟨_,rfl⟩
   have hpi:uC (mM H ⟨t,p⟩ (ew g ⟨t,p⟩ 0 (.swap 0 0))) _ _ _ _ _:=hpi
   rw[hX]at hpi⊢
   exact⟨_,X,rfl,hpi⟩
theorem C8(H:AH)(c:Value)(x:Fc):ACE Try.prog 33 [c,x.val] H (vG H (qB x) 4 fV gT):=by
 obtain⟨t,p⟩:=x
 unfold qB
 by_cases hp:p= .one
 ·subst hp
  exact⟨_,⟨_,_,rfl,By H t⟩,split_ok H c t⟩
 ·rw[if_neg hp]
  exact⟨_,rfl,split_no H c t p hp⟩
def rU(g:List Row)(k:Int)(x:Fc):Option (List Fc):=if k=1 then qB x else if k=2 then gJ g x else if k=3 then rc g x else if k=4 then jn g x else none
def np(k:Int):Int:=if k=1 then 4 else if k=2 then 1 else if k=3 then 3 else 2
def vA(k:Int):List Ou:=if k=1 then fV else if k=2 then fB else if k=3 then gR else fO
def oD(k:Int):List Nn:=if k=1 then gT else if k=2 then []else if k=3 then lU else jQ
def wZ(k:Int):Nat:=if k=1 then 33 else if k=2 then 34 else if k=3 then 35 else 36
theorem plan_ok(H:AH)(n:Nat)(s:Value)(g:List Row)(hc:aj H n 0=some s)(hs:SlG H s g)(hg:VG g)(x:Fc)(hx:fi g x)(k:Int)(hk:k=1\/k=2\/k=3\/k=4):
 ACE Try.prog (wZ k) [.pointer (some ⟨n,0,none⟩),x.val] H (vG H (rU g k x) (np k) (vA k) (oD k)):=by
 rcases hk with rfl|rfl|rfl|rfl
 ·exact C8 H _ x
 ·exact merge_ok H n s g hc hs hg x hx
 ·exact Cq H n s g hc hs x hx
 ·exact lower_ok H n s g hc hs hg x hx
deriving instance DecidableEq for Ou,Nn
structure Pl0(outs aC:Nat)(os:List Ou)(ns:List Nn):Prop where
 o: ∀o∈os,o.by'.ok=true/\o.by'.at o.fc=o.lb/\(0<=o.nw/\o.nw<aC)/\(0<=o.fc/\o.fc<4)/\(0<=o.od/\o.od<outs)/\(0<=o.lb/\o.lb<4)
 u1: ∀o∈os,∀p∈os,o.nw=p.nw->o.fc=p.fc->o=p
 u2: ∀o∈os,∀p∈os,o.od=p.od->o.lb=p.lb->o=p
 u3: ∀o∈os,∀x∈ns,¬(o.nw=x.a/\o.fc=x.fc)
 u4: ∀x∈ns,∀y∈ns,x.a=y.a->x.fc=y.fc->x=y
 i: ∀x∈ns,x.by'.ok=true/\(0<=x.a/\x.a<aC)/\(0<=x.fc/\x.fc<4)/\(0<=x.b/\x.b<aC)/\ ¬(x.a=x.b/\x.by'.at x.fc=x.fc)/\ ∃y∈ns,y.a=x.b/\y.fc=x.by'.at x.fc/\y.b=x.a/\y.by'=x.by'.undo
 all: ∀j,j<aC-> ∀f,f<4->(∃o∈os,o.nw=(j:Nat)/\o.fc=(f:Nat))\/ ∃x∈ns,x.a=(j:Nat)/\x.fc=(f:Nat)
theorem Cs:Pl0 1 4 fV gT:=⟨by decide+kernel,by decide+kernel,by decide+kernel,by decide+kernel,by decide+kernel,by decide+kernel,by decide+kernel⟩
theorem Cw:Pl0 4 1 fB []:=⟨by decide+kernel,by decide+kernel,by decide+kernel,by decide+kernel,by decide+kernel,by decide+kernel,by decide+kernel⟩
theorem Cy:Pl0 2 3 gR lU:=⟨by decide+kernel,by decide+kernel,by decide+kernel,by decide+kernel,by decide+kernel,by decide+kernel,by decide+kernel⟩
theorem DH:Pl0 3 2 fO jQ:=⟨by decide+kernel,by decide+kernel,by decide+kernel,by decide+kernel,by decide+kernel,by decide+kernel,by decide+kernel⟩
def Ou.val(o:Ou):Value:= .agg #[O U o.nw,O U o.fc,O U o.od,O U o.lb,O U o.by'.p0,O U o.by'.p1,O U o.by'.p2,O U o.by'.p3]
theorem move1_ok(H:AH)(o:Ou)(n1 n2:Nat)(i l:Int)(h1:aj H n1 0=some (O U i))(h2:aj H n2 0=some (O U l)):
 AC Try.prog 39 [o.val,.pointer (some ⟨n1,0,none⟩),.pointer (some ⟨n2,0,none⟩)] H (.val (.bool (o.od==i&&o.lb==l)) H):=by
 refine AC.o 15 f39 fun σ w hr=> ?_
 refine W.seq (W.g ?_ (by simp[go_sem,Ou.val];rfl))
 have e1:aj (H++[.cells [O U o.nw,O U o.fc,O U o.od,O U o.lb,O U o.by'.p0,O U o.by'.p1,O U o.by'.p2,O U o.by'.p3] 109]) n1 0=some (O U i):=aw h1
 have e2:aj (H++[.cells [O U o.nw,O U o.fc,O U o.od,O U o.lb,O U o.by'.p0,O U o.by'.p1,O U o.by'.p2,O U o.by'.p3] 109]) n2 0=some (O U l):=aw h2
 cases g1:(o.od==i)
 ·refine W.seq (W.g ?_ (by simp[go_sem,e1,e2,g1];rfl))
  exact W.ret (Ends.quiet (by simp[go_sem]) rfl)
 ·refine W.seq (W.g ?_ (by simp[go_sem,e1,e2,g1];rfl))
  exact W.ret (Ends.quiet (by simp[go_sem]) rfl)
theorem ll: ∀(g:List Ou) (j:Nat) (r:Ou),g[j]? =some r->(dm g).drop (j*8)=r.cells++dm (g.drop (j+1))
 | [],_,_,h=>by simp at h
 |e::g,0,r,h=>by simp at h;subst h;simp[dm]
 |e::g,j+1,r,h=>by
  have:=ll g j r (by simpa using h)
  rw[show(j+1)*8=e.cells.length+j*8 by show(j+1)*8=8+j*8;omega]
  show(e.cells++dm g).drop _=_
  rw[Gi,FL (by omega),Fa,List.nil_append]
  exact this
def isO(i l:Int)(o:Ou):Bool:=o.od==i&&o.lb==l
def oX(os:List Ou)(i l:Int):Int:=match os.findIdx? (isO i l)with|some k=>k|none=> -1
theorem Dj(H:AH)(n i0 c:Nat)(os:List Ou)(hl:ak H n i0 (os.length*8)=some (dm os))(hlen:os.length<=1000)(n1 n2:Nat)(i l:Int)(h1:aj H n1 0=some (O U i))(h2:aj H n2 0=some (O U l)):
 AC Try.prog 38 [.slice (some ⟨n,i0,none⟩) os.length c,.func (.func 39) #[] #[.pointer (some ⟨n1,0,none⟩),.pointer (some ⟨n2,0,none⟩)]] H (.val (O U (oX os i l)) H):=by
 refine AC.o 19 f38 fun σ w hr=> ?_
 refine W.seq (W.g ?_)
 refine W.seq (W.seq (W.g ?_))
 refine W.block ?_
 refine W.loop (fun m E h=> ∃j,m=os.length-j/\j<=os.length/\ae E 0= .slice (some ⟨n,i0,none⟩) os.length c/\ae E 1= .func (.func 39) #[] #[.pointer (some ⟨n1,0,none⟩),.pointer (some ⟨n2,0,none⟩)]/\ae E 7=O U os.length/\ae E 8=O U j/\h=H/\ ∀k o,k<j->os[k]? =some o->isO i l o=false) os.length
  ⟨0,by omega,by omega,by simp[ae],by simp[ae],by simp[ae],by simp[ae],rfl,fun k o hk=>by omega⟩ ?_
 rintro m E h ⟨j,rfl,hj,e0,e1,e7,e8,rfl,hok⟩
 by_cases hlt:j<os.length
 ·have hlt':(j:Int)<(os.length:Int):=by omega
  have hx:os[j]? =some (os[j]'hlt):=Ex hlt
  generalize os[j]'hlt=o at hx
  have h8:ak h n (i0+j*8) 8=some o.cells:=by
   rw[bL hl (j:=j*8) (m:=8) (by omega),ll os j _ hx];rfl
  unfold Ou.cells at h8
  have hm:=move1_ok h o n1 n2 i l h1 h2
  unfold Ou.val at hm
  refine W.seq (W.g ?_ (by simp[go_sem,e7,e8,hlt'];rfl))
  refine W.seq (W.ct (W.skip ?_))
  refine W.seq (W.block ?_)
  refine W.seq (W.g ?_ (by simp[go_sem,e8];rfl))
  refine W.seq (W.region (Wl.s ?_ (by simp[go_sem,e0,e1,hlt',h8];rfl)))
  refine Wl.o (bO.call rfl rfl ⟨_,f39,rfl,rfl⟩ hm) (Wl.nil ?_)
  cases g:isO i l o
  ·refine W.cf (W.skip ?_) (by simp[go_sem];simpa[isO]using g)
   refine W.g ?_ (by simp[go_sem,e8];rfl)
   refine⟨os.length-(j+1),by omega,j+1,rfl,by omega,by simp[ae,e0],by simp[ae,e1],by simp[ae,e7],?_,rfl,fun k q hk hq=> ?_⟩
   ·simp only[ae,if_true];rw[aA (by omega)]
   ·by_cases e:k=j
    ·subst e;rw[hx]at hq;cases hq;exact g
    ·exact hok k q (by omega) hq
  ·refine W.ct ?_ (by simp[go_sem];simpa[isO]using g)
   have hf:oX os i l=j:=by
    have:os.findIdx? (isO i l)=some j:=by
     rw[Gu]
     refine⟨hlt,?_,fun k hk=> ?_⟩
     ·have:os[j]=o:=by rw[Ex hlt]at hx;exact Fj hx
      rw[this];exact g
     ·have:=hok k os[k] hk (Ex (by omega))
      simp[this]
    unfold oX;rw[this]
   rw[hf]
   refine W.seq (W.g ?_)
   exact W.ret (Ends.still (by simp[go_sem]) rfl)
 ·have hjl:j=os.length:=by omega
  subst hjl
  have hf:oX os i l= -1:=by
   have:os.findIdx? (isO i l)=none:=by
    rw[Gt]
    intro x hx
    obtain⟨k,hk,rfl⟩:=FF hx
    exact hok k _ hk (Ex hk)
   unfold oX;rw[this]
  rw[hf]
  refine W.seq (W.g ?_ (by simp[go_sem,e7,e8];rfl))
  refine W.seq (W.cf (W.exit ?_))
  simp only[AX.then,AX.inBlock,if_true]
  refine W.seq (W.g ?_)
  exact W.ret (Ends.still (by simp[go_sem]) rfl)
def cm(out:List Fc)(t:Int):Option Nat:=out.findIdx? fun y=>y.t==t
def aG(out:List Fc):Nat->Nat
 | 0=>0
 |t+1=>if(cm out t).isSome then aG out t else aG out t+1
def eH(g:List Row)(out:List Fc):Nat->List Row
 | 0=>[]
 |t+1=>if(cm out t).isSome then eH g out t else eH g out t++(g[t]?).toList
def mu(out:List Fc)(t:Nat):Int:=if(cm out t).isSome then 0 else aG out t
def renT(out:List Fc)(x:Fc):Fc:=if x.t<0 then x else⟨mu out x.t.toNat,x.p⟩
def Row.map(f:Fc->Fc)(r:Row):Row:=⟨f r.f0,f r.f1,f r.f2,f r.f3⟩
def Row.put(r:Row)(q:Nat)(x:Fc):Row:=match q with| 0=>⟨x,r.f1,r.f2,r.f3⟩| 1=>⟨r.f0,x,r.f2,r.f3⟩| 2=>⟨r.f0,r.f1,x,r.f3⟩|_=>⟨r.f0,r.f1,r.f2,x⟩
def gC(l:List Row)(t q:Nat)(x:Fc):List Row:=match l[t]? with|some r=>l.set t (r.put q x)|none=>l
abbrev Wr:=Nat×Nat×Fc
def ld(l:List Row)(ws:List Wr):List Row:=ws.foldl (fun l w=>gC l w.1 w.2.1 w.2.2) l
def uR:Fc:=⟨0,Pm.none⟩
def dA:Row:=⟨uR,uR,uR,uR⟩
def tD(first:Nat)(x:Nn):Wr:=(first+x.a.toNat,x.fc.toNat,⟨first+x.b,x.by'⟩)
def bw(g:List Row)(y:Fc)(o:Ou):Fc:=az g y.t.toNat (y.p.at o.lb).toNat
def oBy(g:List Row)(y:Fc)(o:Ou):Pm:=(bw g y o).p.times (y.p.times o.by')
def mL(g:List Row)(out:List Fc)(os:List Ou)(first:Nat)(o:Ou):List Wr:=match out[o.od.toNat]? with
 |none=>[]
 |some y=>
  if(bw g y o).t<0 then [(first+o.nw.toNat,o.fc.toNat,bw g y o)]
  else match cm out (bw g y o).t with
   |none=>[(first+o.nw.toNat,o.fc.toNat,⟨mu out (bw g y o).t.toNat,oBy g y o⟩),((mu out (bw g y o).t.toNat).toNat,((oBy g y o).at o.fc).toNat,⟨first+o.nw,(oBy g y o).undo⟩)]
   |some i=>match out[i]? with
    |none=>[]
    |some z=>match os[(oX os i (z.p.undo.at ((oBy g y o).at o.fc))).toNat]? with
     |none=>[]
     |some u=>[(first+o.nw.toNat,o.fc.toNat,⟨first+u.nw,u.by'.undo.times (z.p.undo.times (oBy g y o))⟩)]
def kZ(g:List Row)(out:List Fc)(aC:Nat):List Row:=(eH g out g.length).map (Row.map (renT out))++List.replicate aC dA
def allW(g:List Row)(out:List Fc)(os:List Ou)(ns:List Nn):List Wr:=ns.map (tD (aG out g.length))++os.flatMap (mL g out os (aG out g.length))
def fN(g:List Row)(out:List Fc)(aC:Nat)(os:List Ou)(ns:List Nn):List Row:=ld (kZ g out aC) (allW g out os ns)
theorem Row.D2(r:Row){q f:Nat}(x:Fc)(hq:q<4)(hf:f<4):(r.put q x).at f=if q=f then x else r.at f:=by
 match q,hq,f,hf with
 | 0,_,0,_=>rfl
 | 0,_,1,_=>rfl
 | 0,_,2,_=>rfl
 | 0,_,3,_=>rfl
 | 1,_,0,_=>rfl
 | 1,_,1,_=>rfl
 | 1,_,2,_=>rfl
 | 1,_,3,_=>rfl
 | 2,_,0,_=>rfl
 | 2,_,1,_=>rfl
 | 2,_,2,_=>rfl
 | 2,_,3,_=>rfl
 | 3,_,0,_=>rfl
 | 3,_,1,_=>rfl
 | 3,_,2,_=>rfl
 | 3,_,3,_=>rfl
theorem Row.Eh(F:Fc->Fc)(r:Row)(f:Nat):(r.map F).at f=F (r.at f):=by
 match f with
 | 0=>rfl
 | 1=>rfl
 | 2=>rfl
 |f+3=>rfl
theorem ei(l:List Row)(t q:Nat)(x:Fc):(gC l t q x).length=l.length:=by
 unfold gC
 split<;>simp
theorem qO{l:List Row}{t q:Nat}{x:Fc}(ht:t<l.length)(hq:q<4){T f:Nat}(hf:f<4):az (gC l t q x) T f=if t=T/\q=f then x else az l T f:=by
 unfold gC
 rw[Ex ht]
 simp only
 unfold az
 rw[Ff]
 by_cases e:t=T
 ·subst e
  rw[if_pos rfl,if_pos ht,Ex ht]
  simp only[true_and]
  exact Row.D2 _ _ hq hf
 ·rw[if_neg e,if_neg (fun h=>e h.1)]
theorem pV: ∀(ws:List Wr) (l:List Row),(ld l ws).length=l.length
 | [],_=>rfl
 |w::ws,l=>by
  have:=pV ws (gC l w.1 w.2.1 w.2.2)
  rw[ei]at this;exact this
theorem ua(l:List Row)(ws us:List Wr):ld l (ws++us)=ld (ld l ws) us:=Hs
theorem sO: ∀(ws:List Wr) (l:List Row),(∀w∈ws,w.1<l.length/\w.2.1<4)-> ∀{T f:Nat},f<4->(∀w∈ws,¬(w.1=T/\w.2.1=f))->az (ld l ws) T f=az l T f
 | [],_,_,_,_,_,_=>rfl
 |w::ws,l,hw,T,f,hf,hn=>by
  have h1:=hw w (by simp)
  have:=sO ws (gC l w.1 w.2.1 w.2.2) (fun u hu=>by rw[ei];exact hw u (by simp[hu])) (T:=T) hf fun u hu=>hn u (by simp[hu])
  rw[qO h1.1 h1.2 hf,if_neg (hn w (by simp))]at this
  exact this
theorem pH: ∀(ws:List Wr) (l:List Row),(∀w∈ws,w.1<l.length/\w.2.1<4)-> ∀{T f:Nat} {v:Fc},f<4->(∃w∈ws,w.1=T/\w.2.1=f)->(∀w∈ws,w.1=T->w.2.1=f->w.2.2=v)->az (ld l ws) T f=v
 | [],_,_,_,_,_,_,he,_=>by obtain⟨w,hw,_⟩:=he;cases hw
 |w::ws,l,hw,T,f,v,hf,he,hv=>by
  have h1:=hw w (by simp)
  have hw': ∀u∈ws,u.1<(gC l w.1 w.2.1 w.2.2).length/\u.2.1<4:=fun u hu=>by rw[ei];exact hw u (by simp[hu])
  by_cases hex: ∃u∈ws,u.1=T/\u.2.1=f
  ·exact pH ws _ hw' hf hex fun u hu=>hv u (by simp[hu])
  ·have hno:=sO ws _ hw' (T:=T) hf fun u hu hc=>hex ⟨u,hu,hc⟩
   refine hno.trans ?_
   obtain⟨u,hu,h2,h3⟩:=he
   have:u=w:=by
    rcases EG.1 hu with e|e
    ·exact e
    ·exact absurd ⟨u,e,h2,h3⟩ hex
   subst this
   rw[qO h1.1 h1.2 hf,if_pos ⟨h2,h3⟩]
   exact hv u (by simp) h2 h3
theorem AJ(out:List Fc): ∀{t u:Nat},t<=u->aG out t<=aG out u:=by
 intro t u h
 induction u with
 |zero=>have:t=0:=by omega
        subst this;exact EJ _
 |succ u ih=>
  by_cases e:t=u+1
  ·subst e;exact EJ _
  ·have:=ih (by omega)
   simp only[aG]
   split<;>omega
theorem eL{out:List Fc}{t u:Nat}(h:t<u)(hk:cm out t=none):aG out t<aG out u:=by
 have h1:aG out (t+1)=aG out t+1:=by simp[aG,hk]
 have:=AJ out (show t+1<=u from h)
 omega
theorem vN{out:List Fc}{t u:Nat}(ht:cm out t=none)(hu:cm out u=none)(h:aG out t=aG out u):t=u:=by
 rcases Ge t u with e|e|e
 ·have:=eL e ht;omega
 ·exact e
 ·have:=eL e hu;omega
theorem gH(out:List Fc): ∀(n T:Nat),T<aG out n-> ∃t,t<n/\cm out t=none/\aG out t=T
 | 0,T,h=>by simp[aG]at h
 |n+1,T,h=>by
  cases hg:cm out n with
  |some i=>
   simp only[aG,hg,Option.isSome_some,if_true]at h
   obtain⟨t,h1,h2,h3⟩:=gH out n T h
   exact⟨t,by omega,h2,h3⟩
  |none=>
   simp only[aG,hg,Option.isSome_none,EO,if_false]at h
   by_cases e:T=aG out n
   ·exact⟨n,by omega,hg,e.symm⟩
   ·obtain⟨t,h1,h2,h3⟩:=gH out n T (by omega)
    exact⟨t,by omega,h2,h3⟩
theorem jg(g:List Row)(out:List Fc): ∀{n:Nat},n<=g.length->(eH g out n).length=aG out n
 | 0,_=>rfl
 |n+1,h=>by
  have ih:=jg g out (n:=n) (by omega)
  simp only[eH,aG]
  split
  ·exact ih
  ·rw[Ez,ih,Ex (show n<g.length by omega)];rfl
theorem qX(g:List Row)(out:List Fc): ∀{n:Nat},n<=g.length-> ∀{t:Nat},t<n->cm out t=none->(eH g out n)[aG out t]? =g[t]?
 | 0,_,t,h,_=>by omega
 |n+1,hn,t,ht,hk=>by
  have hl:=jg g out (n:=n) (by omega)
  by_cases e:t=n
  ·subst e
   simp only[eH,hk,Option.isSome_none,EO,if_false]
   rw[FK (by omega),hl,F8,Ex (show t<g.length by omega)]
   rfl
  ·have ih:=qX g out (n:=n) (by omega) (t:=t) (by omega) hk
   have hlt:=eL (show t<n by omega) hk
   simp only[eH]
   split
   ·exact ih
   ·rw[Fo (by omega)];exact ih
theorem uB(g:List Row)(out:List Fc)(aC:Nat):(kZ g out aC).length=aG out g.length+aC:=by
 unfold kZ
 rw[Ez,Fl,Fy,jg g out (EJ _)]
theorem vU{g:List Row}{out:List Fc}{aC t f:Nat}(ht:t<g.length)(hk:cm out t=none):az (kZ g out aC) (aG out t) f=renT out (az g t f):=by
 have h1:=qX g out (EJ _) ht hk
 rw[Ex ht]at h1
 have h2:(kZ g out aC)[aG out t]? =some (Row.map (renT out) g[t]):=by
  unfold kZ
  rw[Fo (by rw[Fl,jg g out (EJ _)];exact eL ht hk),EM,h1];rfl
 unfold az
 rw[h2,Ex ht]
 exact Row.Eh _ _ _
end Go.Proofs.Ytjcomcgpjjianaa
