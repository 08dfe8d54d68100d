import Derived.Test.YtjcomcgpjjianaaA9
import Derived.Test.YtjcomcgpjjianaaA19
import Derived.Test.YtjcomcgpjjianaaA24
import Derived.Test.YtjcomcgpjjianaaA25
set_option linter.all false
set_option maxHeartbeats 16000000
set_option maxRecDepth 8000
open Go.Value renaming int→O
open Go.IntKind renaming i64→U
namespace Go.Proofs.Ytjcomcgpjjianaa
open Go.Ev
theorem lnm104(H:AH)(n:Nat):rV Try.prog H 104 (.map (some n))=match at_ H n with| .map es=>some (O U es.length)|_=>none:=by kernel_rfl
theorem app30{H G:AH}{v:Value}{len:Nat}{cont:List Value}(x:Cr)(hl:len<1000000)(hg:bA G H.length 73 5 v len cont):
 ∃v' G',bD Try.prog (H++(G++[.cells x.cells 73])) #[30,30] v (.slice (some ⟨H.length+G.length,0,none⟩) 1 1)=some (v',H++G')/\bA G' H.length 73 5 v' (len+1) (cont++x.cells)/\G'.length=G.length+2/\(∀j,j<G.length->bA.DJ H.length v j->at_ G' j=at_ G j)/\(∀j,j<G.length->bA.DJ H.length v' j)/\(cont.all Ev.plain=true-> ∀k,(k<G.length/\at_ G' k=at_ G k)\/dS (at_ G' k)=true):=by
 have hz5:(Value.agg #[O U 0,O U 0,O U 0,O U 0,O U 0]).cells.size=Try.t73.size:=rfl
 have hs0:0<Try.t73.size:=by rw[lS];omega
 obtain⟨v',G',h1,h2,h3,h4,h5,_,_,h8⟩:=bA.append (P:=Try.prog) (ts:= #[30,30]) (t:=30) (el:=x.cells) (it:=Try.t73) (z:= .agg #[O U 0,O U 0,O U 0,O U 0,O U 0]) (by simp[rI]) xw rfl hz5 hs0 rfl rI (fun _ h=>nomatch h) rfl rfl (by rw[ve];omega) (by omega) hg
 exact⟨v',G',h1,h2,h3,h4,h5,h8 rfl⟩
def po(f:Int->Int)(x:Cr)(q:Nat):Cr:=⟨if 0<q then f x.a0 else x.a0,if 1<q then f x.a1 else x.a1,if 2<q then f x.a2 else x.a2,if 3<q then f x.a3 else x.a3,x.s⟩
theorem uM(f:Int->Int)(x:Cr){q:Nat}(hq:q<4):(po f x q).cells.set q (O U (f (x.arc q)))=(po f x (q+1)).cells:=by
 match q,hq with
 | 0,_=>rfl
 | 1,_=>rfl
 | 2,_=>rfl
 | 3,_=>rfl
structure TO(S G:AH)(j4 jc jm jb n C:Nat)(lp:Int)(nxt:List Cr)(rk:List (Int×Int))(bs:List Bool):Prop where
 h4:at_ G j4= .cells [.slice (some ⟨S.length+jc,0,none⟩) n C,O U lp] 75
 hc:at_ G jc= .cells (aE nxt) 73
 hm:at_ G jm= .map (cx rk)
 hb:at_ G jb= .cells (bs.map .bool) 4
 l4:j4<G.length
 lc:jc<G.length
 lm:jm<G.length
 lb:jb<G.length
 d1:j4≠jc
 d2:j4≠jm
 d3:j4≠jb
 d4:jc≠jm
 d5:jc≠jb
 d6:jm≠jb
 hn:nxt.length=n
 hs:bs.length=2*n
 junk: ∀k,k≠j4->dS (at_ G k)=true
section
variable {S G:AH}{j4 jc jm jb n C:Nat}{lp:Int}{nxt:List Cr}{rk:List (Int×Int)}{bs:List Bool}
theorem rG{G G':AH}{j4:Nat}(h: ∀k,k≠j4->dS (at_ G k)=true)(h':cP G')(l4:j4<G.length): ∀k,k≠j4->dS (at_ (G++G') k)=true:=by
 intro k hk
 by_cases hlt:k<G.length
 ·rw[ag hlt];exact h k hk
 ·obtain⟨j,rfl⟩: ∃j,k=G.length+j:=⟨k-G.length,by omega⟩
  rw[aq];exact h'.at j
theorem im{G:AH}{j4 j:Nat}(h: ∀k,k≠j4->dS (at_ G k)=true){o:AO}(ho:j=j4\/dS o=true): ∀k,k≠j4->dS (at_ (G.set j o) k)=true:=by
 intro k hk
 by_cases e:j=k
 ·subst e
  rcases ho with ho|ho
  ·exact absurd ho hk
  ·by_cases hl:j<G.length
   ·rw[au hl];exact ho
   ·rw[List.set_eq_of_length_le (by omega)];exact h j hk
 ·rw[af e];exact h k hk
theorem TO.more(t:TO S G j4 jc jm jb n C lp nxt rk bs){G':AH}(h:cP G'):TO S (G++G') j4 jc jm jb n C lp nxt rk bs:=⟨by rw[ag t.l4];exact t.h4,by rw[ag t.lc];exact t.hc,by rw[ag t.lm];exact t.hm,by rw[ag t.lb];exact t.hb,by rw[Ez];have:=t.l4;omega,by rw[Ez];have:=t.lc;omega,by rw[Ez];have:=t.lm;omega,by rw[Ez];have:=t.lb;omega,t.d1,t.d2,t.d3,t.d4,t.d5,t.d6,t.hn,t.hs,rG t.junk h t.l4⟩
theorem zq(bs:List Bool):(bs.map Value.bool).all Ev.plain=true:=by
 rw[EI]
 intro v hv
 obtain⟨b,_,rfl⟩:=E9.1 hv
 rfl
theorem vQ(rk:List (Int×Int)):dS (.map (cx rk))=true:=by
 simp only[dS,cx,List.all_map]
 rw[EI];intro p _;rfl
theorem TO.setb(t:TO S G j4 jc jm jb n C lp nxt rk bs){bs':List Bool}(h:bs'.length=bs.length):TO S (G.set jb (.cells (bs'.map .bool) 4)) j4 jc jm jb n C lp nxt rk bs':=⟨by rw[af (Fg t.d3)];exact t.h4,by rw[af (Fg t.d5)];exact t.hc,by rw[af (Fg t.d6)];exact t.hm,au t.lb _,by rw[EA];exact t.l4,by rw[EA];exact t.lc,by rw[EA];exact t.lm,by rw[EA];exact t.lb,t.d1,t.d2,t.d3,t.d4,t.d5,t.d6,t.hn,by rw[h];exact t.hs,im t.junk (.inr (zq _))⟩
theorem TO.setm(t:TO S G j4 jc jm jb n C lp nxt rk bs)(rk':List (Int×Int)):TO S (G.set jm (.map (cx rk'))) j4 jc jm jb n C lp nxt rk' bs:=⟨by rw[af (Fg t.d2)];exact t.h4,by rw[af (Fg t.d4)];exact t.hc,au t.lm _,by rw[af t.d6];exact t.hb,by rw[EA];exact t.l4,by rw[EA];exact t.lc,by rw[EA];exact t.lm,by rw[EA];exact t.lb,t.d1,t.d2,t.d3,t.d4,t.d5,t.d6,t.hn,t.hs,im t.junk (.inr (vQ _))⟩
theorem TO.setc(t:TO S G j4 jc jm jb n C lp nxt rk bs){nxt':List Cr}(h:nxt'.length=nxt.length):TO S (G.set jc (.cells (aE nxt') 73)) j4 jc jm jb n C lp nxt' rk bs:=⟨by rw[af (Fg t.d1)];exact t.h4,au t.lc _,by rw[af t.d4];exact t.hm,by rw[af t.d5];exact t.hb,by rw[EA];exact t.l4,by rw[EA];exact t.lc,by rw[EA];exact t.lm,by rw[EA];exact t.lb,t.d1,t.d2,t.d3,t.d4,t.d5,t.d6,by rw[h];exact t.hn,t.hs,im t.junk (.inr (cq _))⟩
theorem TO.set4(t:TO S G j4 jc jm jb n C lp nxt rk bs)(lp':Int):TO S (G.set j4 (.cells [.slice (some ⟨S.length+jc,0,none⟩) n C,O U lp'] 75)) j4 jc jm jb n C lp' nxt rk bs:=⟨au t.l4 _,by rw[af t.d1];exact t.hc,by rw[af t.d2];exact t.hm,by rw[af t.d3];exact t.hb,by rw[EA];exact t.l4,by rw[EA];exact t.lc,by rw[EA];exact t.lm,by rw[EA];exact t.lb,t.d1,t.d2,t.d3,t.d4,t.d5,t.d6,t.hn,t.hs,im t.junk (.inl rfl)⟩
theorem TO.a4(t:TO S G j4 jc jm jb n C lp nxt rk bs)(G':AH):at_ (G++G') j4= .cells [.slice (some ⟨S.length+jc,0,none⟩) n C,O U lp] 75:=by rw[ag t.l4];exact t.h4
theorem TO.ac(t:TO S G j4 jc jm jb n C lp nxt rk bs)(G':AH):at_ (G++G') jc= .cells (aE nxt) 73:=by rw[ag t.lc];exact t.hc
theorem TO.am(t:TO S G j4 jc jm jb n C lp nxt rk bs)(G':AH):at_ (G++G') jm= .map (cx rk):=by rw[ag t.lm];exact t.hm
theorem TO.ab(t:TO S G j4 jc jm jb n C lp nxt rk bs)(G':AH):at_ (G++G') jb= .cells (bs.map .bool) 4:=by rw[ag t.lb];exact t.hb
theorem TO.s4(t:TO S G j4 jc jm jb n C lp nxt rk bs)(G':AH)(o:AO):(G++G').set j4 o=G.set j4 o++G':=dO t.l4 G' o
theorem TO.sc(t:TO S G j4 jc jm jb n C lp nxt rk bs)(G':AH)(o:AO):(G++G').set jc o=G.set jc o++G':=dO t.lc G' o
theorem TO.sb(t:TO S G j4 jc jm jb n C lp nxt rk bs)(G':AH)(o:AO):(G++G').set jb o=G.set jb o++G':=dO t.lb G' o
end
theorem cy.app{H G:AH}{v:Value}{l:List Int}(h:cy H v l):cy (H++G) v l:=by
 rcases h with h|⟨n,i,c,h1,h2⟩
 ·exact .inl h
 ·exact .inr ⟨n,i,c,h1,aD h2⟩
theorem j6(out:List Nat)(c:Nat):(out.map fun c:Nat=>(c:Int)).contains (c:Int)=out.contains c:=by
 rw[FU]
 simp only[GI,E9]
 constructor
 ·rintro⟨a,h,e⟩
  have:a=c:=by omega
  exact this▸h
 ·intro h;exact⟨c,h,rfl⟩
theorem lz{q:Nat}(h:q<4):(IntKind.i64.wrap ((q:Int)+2)).tmod 4=(((q+2)%4:Nat):Int):=by
 have:IntKind.i64.wrap ((q:Int)+2)=((q+2:Nat):Int):=by rw[EP];omega
 rw[this];rfl
theorem ax.stp_int{l:List Cr}(hs:ax l){a:Nat}(h:a<2*l.length){x:Cr}(hx:l[(aW l a true).1]? =some x):x.arc (((aW l a true).2+2)%4)=((stp l a:Nat):Int):=by
 have h1:=(hs.an (cX (hs.pl true h).1)).1
 unfold stp
 rw[h1]
 simp only[ay,thr,hx]
theorem ah(G:AH)(k i:Nat):aj G k i=(match at_ G k with| .cells c _=>c[i]? | .ro c=>c[i]? |_=>none):=by
 unfold aj aP
 cases at_ G k<;>rfl
theorem ur(S:AH)(n na:Nat)(l:List Cr)(loops:Int)(hd:DrO S n na l loops)(hs:ax l)(hl:l.length<=200)(hne:0<l.length)(hlo:0<=loops/\loops<=200)(ov:Value)(out:List Nat)(ho:cy S ov (out.map fun c:Nat=>(c:Int)))(hol:out.length<1000):
 ACE Try.prog 70 [.pointer (some ⟨n,0,none⟩),ov] S (cd S n na (rL l loops out)):=by
 obtain⟨s,b,C0,hsb,hat,hsl⟩:=hd.sl
 have r0:aj S n 0=some s:=by unfold aj aP;rw[hat];rfl
 have r1:aj S n 1=some (O U loops):=by unfold aj aP;rw[hat];rfl
 have hw2:=jz (n:=l.length) (by omega)
 obtain⟨v',G0,na',hcl,how,hnl,hjk⟩:=rv S s l hsl (by omega)
 obtain⟨jc,C,hv',hjc,hatc,hCC⟩: ∃jc C,v'= .slice (some ⟨S.length+jc,0,none⟩) l.length C/\jc<G0.length/\at_ G0 jc= .cells (aE l) 73/\True:=by
  rcases how with ⟨_,h,_⟩|⟨C,h1,h2,h3,_⟩
  ·omega
  ·obtain⟨j,rfl⟩: ∃j,na'=S.length+j:=⟨na'-S.length,by omega⟩
   rw[aq]at h3
   exact⟨j,C,h1,by rw[Ez]at h2;omega,h3,trivial⟩
 subst hv'
 refine ACE.o 166 f70 ?_
 refine X.seq (X.drawnBy (fun i=>i==5) follows (by decide+kernel) (Xd.s ?_ (by simp[go_sem,r0];rfl)))
 refine Xd.quiet rfl (by simp[go_sem]) (Sc b24 hcl) ?_
 refine Xd.s (Xd.nil ?_) (by simp[go_sem,aw r1];rfl)
 refine X.seq (X.g ?_ (by simp[go_sem,aw r0,hsb,hw2];rfl))
 refine X.seq (X.g ?_ (by simp[go_sem,cK];rfl))
 have hmk:=fun H:AH=>mk113 H (2*l.length) (by omega)
 have hc2:((2*l.length:Nat):Int)=2*(l.length:Int):=by omega
 rw[hc2]at hmk
 refine X.seq (X.g ?_ (by simp[go_sem,hmk];rfl))
 refine X.seq (X.seq (X.g ?_))
 refine X.block ?_
 have t0:TO S (G0++[.cells [.slice (some ⟨S.length+jc,0,none⟩) l.length C,O U loops] 75,.map [],.cells (List.replicate (2*l.length) (.bool false)) 4]) G0.length jc (G0.length+1) (G0.length+2) l.length C loops l [] (List.replicate (2*l.length) false):=by
  refine⟨bF _ _ _,by rw[ag hjc];exact hatc,by rw[aq];rfl,by rw[aq,List.map_replicate];rfl,by simp,by simp;omega,by simp,by simp,by omega,by omega,by omega,by omega,by omega,by omega,rfl,by simp,?_⟩
  intro k hk
  by_cases h:k<G0.length
  ·rw[ag h];exact hjk.at k
  ·obtain⟨j,rfl⟩: ∃j,k=G0.length+j:=⟨k-G0.length,by omega⟩
   rw[aq]
   match j,hk with
   | 0,hk=>exact absurd rfl hk
   | 1,_=>rfl
   | 2,_=>
     show(List.replicate (2*l.length) (Value.bool false)).all Ev.plain=true
     rw[EI];intro v hv;rw[List.eq_of_mem_replicate hv];rfl
   |j+3,_=>rfl
 generalize hG:G0++[.cells [.slice (some ⟨S.length+jc,0,none⟩) l.length C,O U loops] 75,.map [],.cells (List.replicate (2*l.length) (.bool false)) 4]=G at t0
 generalize hj4:G0.length=j4 at t0
 have hj4':=hj4
 refine X.loop (fun m E h=> ∃j G,m=2*l.length-j/\j<=2*l.length/\ae E 0= .pointer (some ⟨n,0,none⟩)/\ae E 1=ov/\ae E 4= .pointer (some ⟨S.length+j4,0,none⟩)/\ae E 5=O U (2*l.length)/\ae E 6= .map (some (S.length+(j4+1)))/\ae E 7= .slice (some ⟨S.length+(j4+2),0,none⟩) (2*l.length) (2*l.length)/\ae E 41=O U (2*l.length)/\ae E 42=O U j/\h=S++G/\TO S G j4 jc (j4+1) (j4+2) l.length C loops (dc l out j) (eG l out j) (lf l out j)) (2*l.length)
  ⟨0,G,by omega,by omega,by simp[ae],by simp[ae],by simp[ae,hj4],by simp[ae],by simp[ae,hj4],by simp[ae,hj4],by simp[ae],by simp[ae],by simp[hG],t0⟩ ?_
 clear t0 hG hcl hatc hjc hjk
 clear G
 rintro m E h ⟨j,G,rfl,hj,e0,e1,e4,e5,e6,e7,e41,e42,rfl,t⟩
 by_cases hlt:j<2*l.length
 ·have hlt':(j:Int)<2*(l.length:Int):=by omega
  obtain⟨p1,p2,p3,p4⟩:=hs.pl false hlt
  refine X.seq (X.g ?_ (by simp[go_sem,e41,e42,hlt'];rfl))
  refine X.seq (X.ct (X.skip ?_))
  refine X.seq (X.block ?_)
  refine X.seq (X.g ?_ (by simp[go_sem,e42];rfl))
  refine X.seq (X.seq (X.region (Xl.s ?_ (by simp[go_sem,e0,e1];rfl))))
  refine Xl.o (Sc b68 (dk _ _ l loops hd.is.app (j:Int) false (by omega))) ?_
  rw[p4]
  refine Xl.s ?_ (by simp[go_sem,gZ,Bo];rfl)
  refine Xl.o (Sc b95 (xN _ _ _ ho.app ((aW l j false).1:Int) (by simp;omega))) ?_
  rw[j6]
  refine Xl.nil ?_
  by_cases hin:(aW l j false).1∈out
  ·have hin':out.contains (aW l j false).1=true:=by simpa using hin
   refine X.ct (?_) (by simp[go_sem,hin])
   refine X.exit ?_
   simp only[AX.then,AX.inBlock,if_true]
   refine X.g ?_ (by simp[go_sem,e42];rfl)
   refine⟨2*l.length-(j+1),by omega,j+1,G,rfl,by omega,by simp[ae,e0],by simp[ae,e1],by simp[ae,e4],by simp[ae,e5],by simp[ae,e6],by simp[ae,e7],by simp[ae,e41],?_,rfl,?_⟩
   ·simp only[ae,if_true];rw[aA (by omega)]
   ·rw[zX l out j hin]
    simp only[dc,lf,if_pos hin]
    exact t
  ·have hin':out.contains (aW l j false).1=false:=by simpa using hin
   have hst:fF l out j:=⟨hlt,hin⟩
   refine X.cf (X.skip ?_) (by simp[go_sem,hin])
   have hmat:at_ (S++G) (S.length+(j4+1))= .map (cx (eG l out j)):=by rw[aq];exact t.hm
   have hmu:=rT hmat (j:Int) (((eG l out j).length:Nat):Int)
   rw[CI l out j hin,bV]at hmu
   have hml:(cx (eG l out j)).length=(eG l out j).length:=by simp[cx]
   refine X.seq (X.g ?_ (by simp[go_sem,e6,lnm104,t.hm,hml,hmu];rfl))
   have t1:=t.setm (eG l out (j+1))
   generalize G.set (j4+1) (.map (cx (eG l out (j+1))))=G1 at t1⊢
   clear hmat hmu hml t
   refine X.seq (X.g ?_)
   have hlen1:=t1.hs
   have hlej:j+1<=2*l.length:=hlt
   refine X.seq (X.g ?_ (by simp[go_sem,e7,hlt',size4,t1.hb,hlen1,hlej];rfl))
   have t2:=t1.setb (bs':=iH l j 0 (lf l out j)) (by simp[iH])
   rw[show((lf l out j).map Value.bool).set j (.bool true)=(iH l j 0 (lf l out j)).map Value.bool from(Gz ..).symm]
   generalize G1.set (j4+2) (.cells ((iH l j 0 (lf l out j)).map .bool) 4)=G2 at t2⊢
   clear t1 hlen1
   obtain⟨hkl,hlast⟩:=hs.lk hst
   generalize hKK:su l out j=KK at hkl hlast
   refine X.seq (X.block ?_)
   refine X.loop (fun m E h=> ∃i G,m=KK-i/\i<=KK/\ae E 0= .pointer (some ⟨n,0,none⟩)/\ae E 1=ov/\ae E 4= .pointer (some ⟨S.length+j4,0,none⟩)/\ae E 5=O U (2*l.length)/\ae E 6= .map (some (S.length+(j4+1)))/\ae E 7= .slice (some ⟨S.length+(j4+2),0,none⟩) (2*l.length) (2*l.length)/\ae E 8=O U j/\ae E 9=O U (it (stp l) i j:Nat)/\ae E 41=O U (2*l.length)/\ae E 42=O U j/\h=S++G/\TO S G j4 jc (j4+1) (j4+2) l.length C loops (dc l out j) (eG l out (j+1)) (iH l j i (lf l out j))) KK
    ⟨0,G2,by omega,by omega,by simp[ae,e0],by simp[ae,e1],by simp[ae,e4],by simp[ae,e5],by simp[ae,e6],by simp[ae,e7],by simp[ae],by simp[ae,it],by simp[ae,e41],by simp[ae,e42],rfl,t2⟩ ?_
   clear t2 G2 G1 e0 e1 e4 e5 e6 e7 e41 e42 E
   rintro m E h ⟨i,G,rfl,hi,e0,e1,e4,e5,e6,e7,e8,e9,e41,e42,rfl,t⟩
   have hblt:=hs.it_lt hlt i
   have hstp:it (stp l) (i+1) j=stp l (it (stp l) i j):=rfl
   generalize hbb:it (stp l) i j=b at*
   obtain⟨q1,q2,q3,q4⟩:=hs.pl true hblt
   have hq2:(aW l b true).2<4:=q1.2
   obtain⟨x,hx,_⟩:=ax.mem q1
   refine X.seq (X.seq (X.region (Xl.s ?_ (by simp[go_sem,e0,e1,e9];rfl))))
   refine Xl.o (Sc b68 (dk _ _ l loops hd.is.app (b:Int) true (by omega))) ?_
   rw[q4]
   refine Xl.s ?_ (by simp[go_sem,gZ,Bo];rfl)
   refine Xl.o (Sc b95 (xN _ _ _ ho.app ((aW l b true).1:Int) (by simp;omega))) ?_
   rw[j6]
   refine Xl.nil ?_
   by_cases hik:i<KK
   ·have hin2:(aW l b true).1∈out:=by have:=hlast.2 i hik;rw[hbb]at this;exact this
    have hlt3:=hs.stp_lt b hblt
    have hlt3':((stp l b:Nat):Int)<2*(l.length:Int):=by omega
    have hlej3:stp l b+1<=2*l.length:=hlt3
    refine X.ct (X.skip ?_) (by simp[go_sem,hin2])
    refine X.block ?_
    refine X.seq (X.region (Xl.s ?_ (by simp[go_sem,e0,e9];rfl)))
    refine Xl.o (Sc b68 (dk _ _ l loops hd.is.app (b:Int) true (by omega))) ?_
    rw[q4]
    refine Xl.s ?_ (by simp[go_sem,gZ];rfl)
    refine Xl.o (Sc b82 (fK _ ((aW l b true).1:Int) ((aW l b true).2:Int))) ?_
    rw[lz hq2]
    refine Xl.s ?_
    refine Xl.o (Sc b73 (j8 _ _ l loops hd.is.app (aW l b true).1 (((aW l b true).2+2)%4) x hx (F7 _ (by omega)))) ?_
    rw[hs.stp_int hblt hx]
    refine Xl.s (Xl.nil ?_)
    have hlen1:=t.hs
    refine X.g ?_ (by simp[go_sem,e7,hlt3',size4,t.hb,hlen1,hlej3];rfl)
    have t2:=t.setb (bs':=iH l j (i+1) (lf l out j)) (by simp[iH])
    have hmk1:iH l j (i+1) (lf l out j)=(iH l j i (lf l out j)).set (stp l b) true:=by
     show(iH l j i (lf l out j)).set (it (stp l) (i+1) j) true=_
     rw[hstp]
    refine⟨KK-(i+1),by omega,i+1,_,rfl,hik,by simp[ae,e0],by simp[ae,e1],by simp[ae,e4],by simp[ae,e5],by simp[ae,e6],by simp[ae,e7],by simp[ae,e8],by simp[ae,hstp],by simp[ae,e41],by simp[ae,e42],?_,t2⟩
    rw[hmk1,Gz]
   ·have hik':i=KK:=by omega
    have hout2: ¬(aW l b true).1∈out:=by have:=hlast.1;rw[<-hik',hbb]at this;exact this
    have hlA:oE l out j=b:=by unfold oE;rw[hKK,<-hik',hbb]
    refine X.cf (?_) (by simp[go_sem,hout2])
    refine X.exit ?_
    simp only[AX.then,AX.inBlock,if_true]
    refine X.seq (X.region (Xl.s ?_ (by simp[go_sem,e0,e9];rfl)))
    refine Xl.o (Sc b68 (dk _ _ l loops hd.is.app (b:Int) true (by omega))) ?_
    rw[q4]
    refine Xl.s (Xl.nil ?_) (by simp[go_sem,gZ];rfl)
    have hq1:(aW l b true).1<l.length:=q1.1
    have hq1':((aW l b true).1:Int)<l.length:=by omega
    have hq2':((aW l b true).2:Int)<4:=by omega
    have hfl:=dy (dc l out j)
    rw[dG]at hfl
    have hfo:(aW l b true).1*5+(aW l b true).2+1<=(aE (dc l out j)).length:=by omega
    have r4: ∀G',aj (G++G') j4 0=some (.slice (some ⟨S.length+jc,0,none⟩) l.length C):=fun G'=>by rw[ah,t.a4];rfl
    have hset:=gD (dc l out j) (aW l b true).1 (aW l b true).2 (j:Int) ((cz (dG l out j)).2 q1)
    have hnx:bE (dc l out j) ((aW l b true).1,(aW l b true).2) (j:Int)=dc l out (j+1):=by
     simp only[dc,if_neg hin,hlA]
    rw[hnx]at hset
    refine X.drawnBy (fun i=>false) follows (by decide+kernel) (Xd.s (Xd.nil ?_) (by simp[go_sem,e4,e8,r4,hq1',hq2',t.ac,t.sc,hfo,hset,du];rfl))
    have hgb: ∀o∈[AO.cells [O U (aW l b true).1,O U (aW l b true).2] 77],True:=fun _ _=>trivial
    have t2:=(t.setc (nxt':=dc l out (j+1)) (by rw[dG,dG])).more (G':=[.cells [O U (aW l b true).1,O U (aW l b true).2] 77]) rfl
    have hmm:lf l out (j+1)=iH l j i (lf l out j):=by simp only[lf,if_neg hin,hKK,hik']
    rw[<-hmm]at t2
    refine X.g ?_ (by simp[go_sem,e42];rfl)
    refine⟨2*l.length-(j+1),by omega,j+1,_,rfl,by omega,by simp[ae,e0],by simp[ae,e1],by simp[ae,e4],by simp[ae,e5],by simp[ae,e6],by simp[ae,e7],by simp[ae,e41],?_,rfl,t2⟩
    simp only[ae,if_true];rw[aA (by omega)]
 ·have hjl:j=2*l.length:=by omega
  subst hjl
  refine X.seq (X.g ?_ (by simp[go_sem,e41,e42];rfl))
  refine X.seq (X.cf (X.exit ?_))
  simp only[AX.then,AX.inBlock,if_true]
  refine X.seq (X.seq (X.g ?_ (by simp[go_sem,e5];rfl)))
  refine X.block ?_
  refine X.loop (fun m E h=> ∃j G,m=2*l.length-j/\j<=2*l.length/\ae E 0= .pointer (some ⟨n,0,none⟩)/\ae E 1=ov/\ae E 4= .pointer (some ⟨S.length+j4,0,none⟩)/\ae E 6= .map (some (S.length+(j4+1)))/\ae E 7= .slice (some ⟨S.length+(j4+2),0,none⟩) (2*l.length) (2*l.length)/\ae E 89=O U (2*l.length)/\ae E 90=O U j/\h=S++G/\TO S G j4 jc (j4+1) (j4+2) l.length C (ph2 l out loops j).2 (dc l out (2*l.length)) (eG l out (2*l.length)) (ph2 l out loops j).1) (2*l.length)
   ⟨0,G,by omega,by omega,by simp[ae,e0],by simp[ae,e1],by simp[ae,e4],by simp[ae,e6],by simp[ae,e7],by simp[ae],by simp[ae],rfl,t⟩ ?_
  clear t e0 e1 e4 e5 e6 e7 e41 e42 E G hj
  rintro m E h ⟨j,G,rfl,hj,e0,e1,e4,e6,e7,e89,e90,rfl,t⟩
  by_cases hlt:j<2*l.length
  ·have hlt':(j:Int)<2*(l.length:Int):=by omega
   refine X.seq (X.g ?_ (by simp[go_sem,e89,e90,hlt'];rfl))
   refine X.seq (X.ct (X.skip ?_))
   refine X.seq (X.block ?_)
   refine X.seq (X.g ?_ (by simp[go_sem,e90];rfl))
   have hbl:(ph2 l out loops j).1.length=2*l.length:=xj l out loops j
   have hbj:(ph2 l out loops j).1[j]? =some ((ph2 l out loops j).1.getD j false):=by
    rw[Ex (by omega),EF,Ex (by omega)];rfl
   have rb:aj G (j4+2) j=some (.bool ((ph2 l out loops j).1.getD j false)):=by rw[ah,t.hb];simp only[EM,hbj];rfl
   have hph:ph2 l out loops (j+1)=if(ph2 l out loops j).1.getD j false=true then ph2 l out loops j else(j3 l (2*l.length+1) (ph2 l out loops j).1 j,(ph2 l out loops j).2+1):=rfl
   have hple:=xA l out loops j
   cases g:(ph2 l out loops j).1.getD j false
   ·rw[g]at hph rb
    rw[if_neg (by simp)]at hph
    refine X.seq (X.seq (X.g ?_ (by simp[go_sem,e7,hlt',rb];rfl)))
    refine X.cf (X.skip ?_)
    have hwl:IntKind.i64.wrap ((ph2 l out loops j).2+1)=(ph2 l out loops j).2+1:=by rw[EP];omega
    have r4:aj G j4 1=some (O U (ph2 l out loops j).2):=by rw[ah,t.h4];rfl
    refine X.seq (X.g ?_ (by simp[go_sem,e4,r4,t.h4,hwl,wP];rfl))
    have t1:=t.set4 ((ph2 l out loops j).2+1)
    generalize G.set j4 (.cells [.slice (some ⟨S.length+jc,0,none⟩) l.length C,O U ((ph2 l out loops j).2+1)] 75)=G1 at t1⊢
    refine X.seq (X.g ?_)
    refine X.block ?_
    obtain⟨CL,hCL⟩: ∃CL,j3 l (2*l.length+1) (ph2 l out loops j).1 j=CL:=⟨_,rfl⟩
    rw[hCL]at hph
    refine X.loop (fun m E h=> ∃f bs b G,m=lu bs/\lu bs<f/\bs.length=2*l.length/\b<2*l.length/\ae E 0= .pointer (some ⟨n,0,none⟩)/\ae E 1=ov/\ae E 4= .pointer (some ⟨S.length+j4,0,none⟩)/\ae E 6= .map (some (S.length+(j4+1)))/\ae E 7= .slice (some ⟨S.length+(j4+2),0,none⟩) (2*l.length) (2*l.length)/\ae E 12=O U b/\ae E 89=O U (2*l.length)/\ae E 90=O U j/\h=S++G/\TO S G j4 jc (j4+1) (j4+2) l.length C ((ph2 l out loops j).2+1) (dc l out (2*l.length)) (eG l out (2*l.length)) bs/\CL=j3 l f bs b) (lu (ph2 l out loops j).1)
     ⟨2*l.length+1,(ph2 l out loops j).1,j,G1,rfl,by have:=CW (ph2 l out loops j).1;omega,hbl,hlt,by simp[ae,e0],by simp[ae,e1],by simp[ae,e4],by simp[ae,e6],by simp[ae,e7],by simp[ae],by simp[ae,e89],by simp[ae,e90],rfl,t1,hCL.symm⟩ ?_
    clear t1 t r4 rb e0 e1 e4 e6 e7 e89 e90 E
    rintro m E h ⟨f,bs,b,G,rfl,hf,hbl2,hb2,e0,e1,e4,e6,e7,e12,e89,e90,rfl,t,hcl⟩
    have hb2':(b:Int)<2*(l.length:Int):=by omega
    have hbj2:bs[b]? =some (bs.getD b false):=by
     rw[Ex (by omega),EF,Ex (by omega)];rfl
    have rb:aj G (j4+2) b=some (.bool (bs.getD b false)):=by rw[ah,t.hb];simp only[EM,hbj2];rfl
    obtain⟨f,rfl⟩: ∃f',f=f'+1:=⟨f-1,by omega⟩
    simp only[j3]at hcl
    cases g3:bs.getD b false
    ·rw[g3]at rb hbj2
     rw[g3,if_neg (by simp)]at hcl
     obtain⟨q1,q2,q3,q4⟩:=hs.pl true hb2
     have hq2:(aW l b true).2<4:=q1.2
     obtain⟨x,hx,_⟩:=ax.mem q1
     have hfs:=uL bs b hbj2
     have hlej:b+1<=2*l.length:=hb2
     refine X.seq (X.seq (X.g ?_ (by simp[go_sem,e7,e12,hb2',rb];rfl)))
     refine X.ct (X.skip ?_)
     refine X.seq (X.block ?_)
     refine X.g ?_ (by simp[go_sem,e7,e12,hb2',size4,t.hb,hbl2,hlej];rfl)
     have t2:=t.setb (bs':=bs.set b true) (by simp)
     refine X.region (Xl.s ?_ (by simp[go_sem,e0,e12];rfl))
     refine Xl.o (Sc b68 (dk _ _ l loops hd.is.app (b:Int) true (by omega))) ?_
     rw[q4]
     refine Xl.s ?_ (by simp[go_sem,gZ];rfl)
     refine Xl.o (Sc b82 (fK _ ((aW l b true).1:Int) ((aW l b true).2:Int))) ?_
     rw[lz hq2]
     refine Xl.s ?_
     refine Xl.o (Sc b73 (j8 _ _ l loops hd.is.app (aW l b true).1 (((aW l b true).2+2)%4) x hx (F7 _ (by omega)))) ?_
     rw[hs.stp_int hb2 hx]
     refine Xl.s (Xl.nil ?_)
     exact⟨lu (bs.set b true),by omega,f,bs.set b true,stp l b,G.set (j4+2) (.cells ((bs.set b true).map .bool) 4),rfl,by omega,by simp[hbl2],hs.stp_lt b hb2,by simp[ae,e0],by simp[ae,e1],by simp[ae,e4],by simp[ae,e6],by simp[ae,e7],by simp[ae],by simp[ae,e89],by simp[ae,e90],by rw[Gz],t2,hcl⟩
    ·rw[g3]at rb
     rw[g3,if_pos rfl]at hcl
     refine X.seq (X.seq (X.g ?_ (by simp[go_sem,e7,e12,hb2',rb];rfl)))
     refine X.cf (?_)
     refine X.exit ?_
     simp only[AX.then,AX.inBlock,if_true]
     refine X.g ?_ (by simp[go_sem,e90];rfl)
     refine⟨2*l.length-(j+1),by omega,j+1,G,rfl,by omega,by simp[ae,e0],by simp[ae,e1],by simp[ae,e4],by simp[ae,e6],by simp[ae,e7],by simp[ae,e89],?_,rfl,?_⟩
     ·simp only[ae,if_true];rw[aA (by omega)]
     ·rw[hph,hcl];exact t
   ·rw[g]at hph rb
    rw[if_pos rfl]at hph
    refine X.seq (X.seq (X.g ?_ (by simp[go_sem,e7,hlt',rb];rfl)))
    refine X.ct (?_)
    refine X.exit ?_
    simp only[AX.then,AX.inBlock,if_true]
    refine X.g ?_ (by simp[go_sem,e90];rfl)
    refine⟨2*l.length-(j+1),by omega,j+1,G,rfl,by omega,by simp[ae,e0],by simp[ae,e1],by simp[ae,e4],by simp[ae,e6],by simp[ae,e7],by simp[ae,e89],?_,rfl,?_⟩
    ·simp only[ae,if_true];rw[aA (by omega)]
    ·rw[hph];exact t
  ·have hjl:j=2*l.length:=by omega
   subst hjl
   refine X.seq (X.g ?_ (by simp[go_sem,e89,e90];rfl))
   refine X.seq (X.cf (X.exit ?_))
   simp only[AX.then,AX.inBlock,if_true]
   refine X.seq (X.g ?_)
   have hple:=xA l out loops (2*l.length)
   have htF:rL l loops out=if(ph2 l out loops (2*l.length)).2<=200 then some (js l out,(ph2 l out loops (2*l.length)).2)else none:=rfl
   generalize hLP:(ph2 l out loops (2*l.length)).2=LP at t hple htF
   generalize (ph2 l out loops (2*l.length)).1=BS at t
   have r40:aj G j4 0=some (.slice (some ⟨S.length+jc,0,none⟩) l.length C):=by rw[ah,t.h4];rfl
   refine X.seq (X.seq (X.g ?_ (by simp[go_sem,e4,r40];rfl)))
   refine X.block ?_
   refine X.loop (fun m E h=> ∃j G v,m=l.length-j/\j<=l.length/\ae E 0= .pointer (some ⟨n,0,none⟩)/\ae E 1=ov/\ae E 4= .pointer (some ⟨S.length+j4,0,none⟩)/\ae E 6= .map (some (S.length+(j4+1)))/\ae E 13=v/\ae E 121= .slice (some ⟨S.length+jc,0,none⟩) l.length C/\ae E 122=O U l.length/\ae E 123=O U j/\h=S++G/\TO S G j4 jc (j4+1) (j4+2) l.length C LP (dc l out (2*l.length)) (eG l out (2*l.length)) BS/\bA G S.length 73 5 v (iB l out j).length (aE (iB l out j))/\bA.DJ S.length v j4/\bA.DJ S.length v jc/\bA.DJ S.length v (j4+1)/\bA.DJ S.length v (j4+2)) l.length
    ⟨0,G,.slice none 0 0,by omega,by omega,by simp[ae,e0],by simp[ae,e1],by simp[ae,e4],by simp[ae,e6],by simp[ae],by simp[ae],by simp[ae],by simp[ae],rfl,t,.inl ⟨rfl,rfl,rfl⟩,fun _ _ h=>by(cases h),fun _ _ h=>by(cases h),fun _ _ h=>by(cases h),fun _ _ h=>by(cases h)⟩ ?_
   clear t r40 e0 e1 e4 e6 e7 e89 e90 E G hj hlt
   rintro m E h ⟨j,G,v,rfl,hj,e0,e1,e4,e6,e13,e121,e122,e123,rfl,t,hg,o1,o2,o3,o4⟩
   by_cases hlt:j<l.length
   ·have hlt':(j:Int)<(l.length:Int):=by omega
    have hxn:(dc l out (2*l.length))[j]? =some (fD (dc l out (2*l.length)) j):=by
     unfold fD
     rw[Ex (by rw[dG];exact hlt)];rfl
    generalize hX:fD (dc l out (2*l.length)) j=x at hxn
    have hrx:ak G jc (j*5) 5=some x.cells:=by
     have h0:=ao t.hc (k:=l.length*5) (by rw[dy,dG])
     have:=bL h0 (j:=j*5) (m:=5) (by omega)
     rw[mV _ j x hxn,EU]at this
     rw[this];rfl
    refine X.seq (X.g ?_ (by simp[go_sem,e122,e123,hlt'];rfl))
    refine X.seq (X.ct (X.skip ?_))
    refine X.seq (X.block ?_)
    refine X.seq (X.g ?_ (by simp[go_sem,e121,e123,hlt',hrx,Cr.cells];rfl))
    refine X.seq (X.seq (X.region (Xl.s ?_ (by simp[go_sem,e1];rfl))))
    refine Xl.o (Sc b95 (xN _ _ _ ho.app (j:Int) (by simp;omega))) ?_
    rw[j6]
    refine Xl.nil ?_
    have tG:=fun y:Cr=>t.more (G':=[.cells y.cells 73]) rfl
    have gG:=fun y:Cr=>hg.more [.cells y.cells 73]
    by_cases hin:j∈out
    ·refine X.ct (?_) (by simp[go_sem,hin])
     refine X.exit ?_
     simp only[AX.then,AX.inBlock,if_true]
     refine X.g ?_ (by simp[go_sem,e123];rfl)
     refine⟨l.length-(j+1),by omega,j+1,G++[.cells x.cells 73],v,rfl,by omega,by simp[ae,e0],by simp[ae,e1],by simp[ae,e4],by simp[ae,e6],by simp[ae,e13],by simp[ae,e121],by simp[ae,e122],?_,rfl,tG x,?_,o1,o2,o3,o4⟩
     ·simp only[ae,if_true];rw[aA (by omega)]
     ·rw[tR,if_pos hin];exact gG x
    ·refine X.cf (X.skip ?_) (by simp[go_sem,hin])
     refine X.seq (X.seq (X.g ?_))
     refine X.block ?_
     refine X.loop (fun m E h=> ∃q,m=4-q/\q<=4/\ae E 0= .pointer (some ⟨n,0,none⟩)/\ae E 1=ov/\ae E 4= .pointer (some ⟨S.length+j4,0,none⟩)/\ae E 6= .map (some (S.length+(j4+1)))/\ae E 13=v/\ae E 15= .pointer (some ⟨S.length+G.length,0,none⟩)/\ae E 121= .slice (some ⟨S.length+jc,0,none⟩) l.length C/\ae E 122=O U l.length/\ae E 123=O U j/\ae E 132= .agg #[O U x.a0,O U x.a1,O U x.a2,O U x.a3]/\ae E 133=O U q/\h=S++(G++[.cells (po (rkA l out) x q).cells 73])) 4
      ⟨0,rfl,by omega,by simp[ae,e0],by simp[ae,e1],by simp[ae,e4],by simp[ae,e6],by simp[ae,e13],by simp[ae],by simp[ae,e121],by simp[ae,e122],by simp[ae,e123],by simp[ae],by simp[ae],rfl⟩ ?_
     clear e0 e1 e4 e6 e13 e121 e122 e123 E
     rintro m E h ⟨q,rfl,hq,e0,e1,e4,e6,e13,e15,e121,e122,e123,e132,e133,rfl⟩
     have hma:at_ (S++(G++[.cells (po (rkA l out) x q).cells 73])) (S.length+(j4+1))= .map (cx (eG l out (2*l.length))):=by rw[aq];exact t.am _
     by_cases hq4:q<4
     ·have hq':(q:Int)<4:=by omega
      have har:=x.arr hq4
      have hlk:=lD hma (x.arc q)
      have hlk':(look (eG l out (2*l.length)) (x.arc q)).getD 0=rkA l out (x.arc q):=rfl
      rw[hlk']at hlk
      have hms:=uM (rkA l out) x hq4
      have hml:(po (rkA l out) x q).cells.length=5:=rfl
      have hq5:q+1<=5:=by omega
      refine X.seq (X.g ?_ (by simp[go_sem,e133,hq'];rfl))
      refine X.seq (X.ct (X.skip ?_))
      refine X.seq (X.block ?_)
      refine X.seq (X.g ?_ (by simp[go_sem,e132,e133,hq',ix38,har];rfl))
      refine X.g ?_ (by simp[go_sem,e6,e15,hlk,hq',wP,hms,hml,hq5];rfl)
      refine X.g ?_ (by simp[go_sem,e133];rfl)
      refine⟨4-(q+1),by omega,q+1,rfl,by omega,by simp[ae,e0],by simp[ae,e1],by simp[ae,e4],by simp[ae,e6],by simp[ae,e13],by simp[ae,e15],by simp[ae,e121],by simp[ae,e122],by simp[ae,e123],by simp[ae,e132],?_,rfl⟩
      simp only[ae,if_true];rw[aA (by omega)]
     ·have hqq:q=4:=by omega
      subst hqq
      have hm4:po (rkA l out) x 4=x.map (rkA l out):=rfl
      rw[hm4]
      refine X.seq (X.g ?_ (by simp[go_sem,e133];rfl))
      refine X.seq (X.cf (X.exit ?_))
      simp only[AX.then,AX.inBlock,if_true]
      have hy:(x.map (rkA l out)).cells=[O U (x.map (rkA l out)).a0,O U (x.map (rkA l out)).a1,O U (x.map (rkA l out)).a2,O U (x.map (rkA l out)).a3,O U (x.map (rkA l out)).s]:=rfl
      generalize hY:x.map (rkA l out)=y at*
      have hleft:(iB l out j).length<1000000:=by
       rw[iB,Fl,jD]
       have:=Gk (fun c=> !(out.contains c)) (List.range j)
       rw[Gp]at this;omega
      have tY:=tG y
      have gY:=gG y
      obtain⟨v',G',ha,hg',hl',hk,hno,hju⟩:=app30 (H:=S) y hleft gY
      rw[hy]at ha
      simp only[EH,List.cons_append,List.nil_append,Ez,List.length_cons,List.length_nil,EU]at ha hl'
      rw[hy]
      refine X.g ?_ (by simp[go_sem,e13,e15,pf,ha];rfl)
      have gl:G'.length=G.length+3:=by omega
      have f4: ∀k,k<G.length->bA.DJ S.length v k->at_ G' k=at_ (G++[.cells y.cells 73]) k:=fun k h h'=>hk k (by simp;omega) h'
      have hju':=hju (cq _)
      have t2:TO S G' j4 jc (j4+1) (j4+2) l.length C LP (dc l out (2*l.length)) (eG l out (2*l.length)) BS:=by
       have l4:=t.l4
       have lc:=t.lc
       have lm:=t.lm
       have lb:=t.lb
       refine⟨by rw[f4 _ t.l4 o1];exact tY.h4,by rw[f4 _ t.lc o2];exact tY.hc,by rw[f4 _ t.lm o3];exact tY.hm,by rw[f4 _ t.lb o4];exact tY.hb,by omega,by omega,by omega,by omega,t.d1,t.d2,t.d3,t.d4,t.d5,t.d6,t.hn,t.hs,fun k hk4=> ?_⟩
       rcases hju' k with ⟨_,h⟩|h
       ·rw[h];exact tY.junk k hk4
       ·exact h
      have hlk:iB l out (j+1)=iB l out j++[y]:=by rw[tR,if_neg hin,hX,hY]
      refine X.g ?_ (by simp[go_sem,e123];rfl)
      refine⟨l.length-(j+1),by omega,j+1,G',v',rfl,by omega,by simp[ae,e0],by simp[ae,e1],by simp[ae,e4],by simp[ae,e6],by simp[ae],by simp[ae,e121],by simp[ae,e122],?_,rfl,t2,?_,hno _ (by have:=t.l4;simp;omega),hno _ (by have:=t.lc;simp;omega),hno _ (by have:=t.lm;simp;omega),hno _ (by have:=t.lb;simp;omega)⟩
      ·simp only[ae,if_true];rw[aA (by omega)]
      ·rw[hlk,lg,Ez]
       have:aE [y]=y.cells:=by simp[aE]
       rw[this];exact hg'
   ·have hjl:j=l.length:=by omega
    subst hjl
    refine X.seq (X.g ?_ (by simp[go_sem,e122,e123];rfl))
    refine X.seq (X.cf (X.exit ?_))
    simp only[AX.then,AX.inBlock,if_true]
    have r4:aj G j4 1=some (O U LP):=by rw[ah,t.h4];rfl
    by_cases hLe:LP<=200
    ·rw[if_pos hLe]at htF
     rw[htF]
     refine X.seq (X.region (Xl.s ?_ (by simp[go_sem,e4,r4,hLe];rfl)))
     refine Xl.o (Sc b16 (aZ _ _)) ?_
     refine Xl.nil ?_
     have hn0:=hd.1
     have hatG: ∀G,at_ (S++G) n= .cells [s,O U loops] 75:=fun G=>by rw[ag hn0];exact hat
     have hsetG: ∀G o,(S++G).set n o=S.set n o++G:=fun G o=>dO hn0 G o
     have hatG2: ∀G w,at_ (S.set n (.cells [w,O U loops] 75)++G) n= .cells [w,O U loops] 75:=fun G w=>by rw[ag (by rw[EA];exact hn0)];exact au hn0 _
     have hsetG2: ∀G o o',(S.set n o++G).set n o'=S.set n o'++G:=fun G o o'=>by rw[dO (by rw[EA];exact hn0),GU]
     have hvc: ∃vb vl vc,v= .slice vb vl vc:=by
      rcases hg with ⟨h,_⟩|⟨i,C',h,_⟩<;>exact⟨_,_,_,h⟩
     obtain⟨vb,vl,vc,hvv⟩:=hvc
     rw[hvv]at e13
     have hnn: ¬(n=S.length+j4):=by omega
     refine X.drawnOne (fun i=>i==5) (S.length+j4) follows (by decide+kernel) (by simp[go_sem,j9,tn,ml,kdI,e0,e4,e13,r4,hatG,hsetG,hatG2,hsetG2,wP,hnn]<;>repeat constructor) ?_
     rw[<-hvv]
     have hTl:(S.set n (.cells [v,O U LP] 75)++G).length=S.length+G.length:=by simp
     have hlow: ∀k,k<S.length->k≠n->at_ (S.set n (.cells [v,O U LP] 75)++G) k=at_ S k:=fun k h1 h2=>by
      rw[ag (by rw[EA];exact h1),af (Fg h2)]
     have hTn:at_ (S.set n (.cells [v,O U LP] 75)++G) n= .cells [v,O U LP] 75:=by
      rw[ag (by rw[EA];exact hn0),au hn0]
     have hhigh: ∀k,at_ (S.set n (.cells [v,O U LP] 75)++G) (S.length+k)=at_ G k:=fun k=>by
      have:=aq (S.set n (.cells [v,O U LP] 75)) G k
      rw[EA]at this;exact this
     have hbv:Bel (S.set n (.cells [v,O U LP] 75)++G).length v:=by
      rcases hg with ⟨h,_⟩|⟨i,C',h,hi,_⟩
      ·rw[h];exact Bel.plain rfl
      ·rw[hTl,h];exact Bel.sl (by omega)
     have hDr: ∃na',DrO (S.set n (.cells [v,O U LP] 75)++G) n na' (js l out) LP/\(na'=na\/na'=n\/S.length<=na'):=by
      rcases hg with ⟨h,h1,_⟩|⟨i,C',h,hi,h2,h3,h4⟩
      ·have hnil:js l out=[]:=Fr.1 h1
       refine⟨n,⟨by rw[hTl];omega,.inl ⟨rfl,hnil,by rw[hTn,h]⟩⟩,.inr (.inl rfl)⟩
      ·refine⟨S.length+i,⟨by rw[hTl];omega,.inr ⟨C',by omega,by rw[hTl];omega,by rw[hTn,h];rfl,by rw[hhigh];exact h2,?_⟩⟩,.inr (.inr (by omega))⟩
       rcases h4 with ⟨h4,h5⟩|h4
       ·exact .inl ⟨h4,by rw[h4];exact h5⟩
       ·exact .inr h4
     obtain⟨na',hD1,hD2⟩:=hDr
     have hkk: ∀k,k<(S.set n (.cells [v,O U LP] 75)++G).length->(k<S.length/\at_ (S.set n (.cells [v,O U LP] 75)++G) k=at_ S k)\/bC (S.set n (.cells [v,O U LP] 75)++G).length (at_ (S.set n (.cells [v,O U LP] 75)++G) k):=by
      intro k hk
      by_cases h1:k<S.length
      ·by_cases h2:k=n
       ·subst h2;rw[hTn];exact .inr (bC.dr hbv)
       ·exact .inl ⟨h1,hlow k h1 h2⟩
      ·refine .inr ?_
       obtain⟨i,rfl⟩: ∃i,k=S.length+i:=⟨k-S.length,by omega⟩
       rw[hhigh]
       by_cases h3:i=j4
       ·rw[h3,t.h4,hTl];exact bC.dr (Bel.sl (by have:=t.lc;omega))
       ·exact cQ (t.junk i h3) _
     exact⟨.val (.tuple #[]) (S.set n (.cells [v,O U LP] 75)++G),⟨_,na',rfl,hD1,by rw[hTl];omega,hD2,(fun k h1 h2 _=>hlow k h1 h2),hkk⟩,Ends.own (by simp only[fg];rfl) (by rw[hTl];omega) (Bel.junk _) hkk⟩
    ·rw[if_neg hLe]at htF
     rw[htF]
     refine X.seq (X.region (Xl.s ?_ (by simp[go_sem,e4,r4,hLe];rfl)))
     exact Xl.p (Sc b16 (aM _ _)) ⟨.pan (bf 5) S,rfl,Ends.DL rfl⟩
end Go.Proofs.Ytjcomcgpjjianaa
