import Derived.Test.YtjcomcgpjjianaaA19
import Derived.Test.YtjcomcgpjjianaaA27
set_option linter.all false
set_option maxHeartbeats 16000000
set_option maxRecDepth 8000
open Go.Value renaming int→O
open Go.IntKind renaming i64→U
namespace Go.Proofs.Ytjcomcgpjjianaa
open Go.Ev
noncomputable def lC(l:List Cr)(loops:Int)(m:Rd):Option (List Cr×Int):=if kY l m=true then
 if perOf l (m.ac.toNat,m.ap.toNat)=3 then
  let p0:=(m.ac.toNat,m.ap.toNat)
  let p1:=nx l p0
  let p2:=nx l p1
  if¬p0.1=p1.1/\ ¬p0.1=p2.1/\ ¬p1.1=p2.1 then
   if([p0,p1,p2].any fun p=>dV l p&&decide (p.2%2=1))=true/\([p0,p1,p2].any fun p=>dV l p&&decide (p.2%2=0))=true then some (fE l p0 p1 p2,loops)else none
  else none
 else none
 else none
theorem Bel.ptr{k n i:Nat}(h:n<k):Bel k (.pointer (some ⟨n,i,none⟩)):=by
 intro σ v' hv
 cases hv with
 |ptr hn=>exact .ptr (bG.2 ⟨h,hn⟩)
theorem bC.cellsOf{k:Nat}{c:List Value}{e:TypeId}(h: ∀v∈c,Bel k v):bC k (.cells c e):=by
 intro σ w x ho
 obtain⟨g0,cs,g1,g2,g3,g4⟩:=ho
 exact⟨g0,cs,g1,g2,g3,fun i v v' a b=>h v (EE a) _ _ (g4 i v v' a b)⟩
theorem iY{K:AH}{i k:Nat}(h:k≠i)(o:AO)(a b:Nat):ak (K.set i o) k a b=ak K k a b:=by
 unfold ak aP;rw[af (Fg h)]
structure TS(M:AH)(bl j7 jc n C:Nat)(nxt:List Cr):Prop where
 hc:at_ M jc= .cells (aE nxt) 73
 h7:at_ M j7= .cells [.slice (some ⟨bl+jc,0,none⟩) n C] 30
 lc:jc<M.length
 l7:j7<M.length
 d:jc≠j7
 hn:nxt.length=n
 junk: ∀k,k≠j7->dS (at_ M k)=true
theorem TS.more{M:AH}{bl j7 jc n C:Nat}{nxt:List Cr}(t:TS M bl j7 jc n C nxt){G:AH}(h:cP G):TS (M++G) bl j7 jc n C nxt:=⟨by rw[ag t.lc];exact t.hc,by rw[ag t.l7];exact t.h7,by rw[Ez];have:=t.lc;omega,by rw[Ez];have:=t.l7;omega,t.d,t.hn,rG t.junk h t.l7⟩
theorem TS.setc{M:AH}{bl j7 jc n C:Nat}{nxt nxt':List Cr}(t:TS M bl j7 jc n C nxt)(h:nxt'.length=nxt.length):TS (M.set jc (.cells (aE nxt') 73)) bl j7 jc n C nxt':=⟨au t.lc _,by rw[af t.d];exact t.h7,by rw[EA];exact t.lc,by rw[EA];exact t.l7,t.d,by rw[h];exact t.hn,im t.junk (.inr (cq _))⟩
theorem TS.put{B M:AH}{j7 jc n C:Nat}{nxt:List Cr}(t:TS M B.length j7 jc n C nxt){p:Nat×Nat}(hp:bt nxt p)(v:Int):
 AC Try.prog 81 [plV p,O U v,.pointer (some ⟨B.length+j7,0,none⟩)] (B++M) (.val (.tuple #[]) (B++M.set jc (.cells (aE (bE nxt p v)) 73))):=by
 have:=Dt (B++M) (B.length+j7) (B.length+jc) C nxt (by rw[bU,ah,t.h7,t.hn];rfl) (by rw[Ez];have:=t.lc;omega) (by rw[aq];exact t.hc) p hp v
 rw[bV]at this
 exact this
theorem slide_ok(S:AH)(n na:Nat)(l:List Cr)(loops:Int)(hd:DrO S n na l loops)(hs:ax l)(hl:l.length<=200)(hlo:0<=loops/\loops<=200)(m:Rd):
 ACE Try.prog 46 [.pointer (some ⟨n,0,none⟩),m.val] S (cd S n na (lC l loops m)):=by
 obtain⟨kind,arc,sign,up,ac,ap,tc,tp⟩:=m
 refine ACE.o 121 f46 ?_
 refine X.seq (X.g ?_ (by simp[go_sem,Rd.val];rfl))
 obtain⟨r,hr,hac⟩:=xx (S++[.cells [.pointer (some ⟨n,0,none⟩)] 70,.cells [O U kind,O U arc,O U sign,.bool up,O U ac,O U ap,O U tc,O U tp] 79]) _ l loops hd.is.app ⟨kind,arc,sign,up,ac,ap,tc,tp⟩
 cases hb:kY l ⟨kind,arc,sign,up,ac,ap,tc,tp⟩
 ·rw[hb]at hr
  simp only[oB,EO,if_false]at hr
  subst hr
  have hF:lC l loops ⟨kind,arc,sign,up,ac,ap,tc,tp⟩=none:=by unfold lC;rw[hb];rfl
  rw[hF]
  refine X.seq (X.region (Xl.s ?_))
  exact Xl.p (Sc b69 hac) ⟨.pan (bf 5) S,rfl,Ends.DL rfl⟩
 rw[hb]at hr
 simp only[oB,if_true]at hr
 subst hr
 obtain⟨c,q,e1,e2,hp⟩:=pU hb
 simp only at e1 e2
 subst e1;subst e2
 refine X.seq (X.region (Xl.s ?_))
 refine Xl.o (Sc b69 hac) ?_
 refine Xl.nil ?_
 obtain⟨hK,hK2⟩:=hs.perOf hp
 have hF:lC l loops ⟨kind,arc,sign,up,c,q,tc,tp⟩=if perOf l (c,q)=3 then
  (if¬c=(nx l (c,q)).1/\ ¬c=(nx l (nx l (c,q))).1/\ ¬(nx l (c,q)).1=(nx l (nx l (c,q))).1 then
   if([(c,q),nx l (c,q),nx l (nx l (c,q))].any fun p=>dV l p&&decide (p.2%2=1))=true/\([(c,q),nx l (c,q),nx l (nx l (c,q))].any fun p=>dV l p&&decide (p.2%2=0))=true then some (fE l (c,q) (nx l (c,q)) (nx l (nx l (c,q))),loops)else none
  else none)else none:=by
  unfold lC;rw[hb,if_pos rfl];rfl
 rw[hF]
 clear hF
 generalize perOf l (c,q)=K at hK hK2
 obtain⟨r,⟨v,G,rfl,hsl,hj0,hbv⟩,hac2⟩:=kP (S++[.cells [.pointer (some ⟨n,0,none⟩)] 70,.cells [O U kind,O U arc,O U sign,.bool up,O U c,O U q,O U tc,O U tp] 79]) (.pointer (some ⟨n,0,none⟩)) l loops hd.is.app (by omega) hs (c,q) hp K hK hK2
 refine X.seq (X.region (Xl.s ?_))
 refine Xl.o (Sc b67 hac2) ?_
 clear hac hac2 hbv
 refine Xl.s (Xl.nil ?_)
 have hB2:S++[AO.cells [.pointer (some ⟨n,0,none⟩)] 70,.cells [O U kind,O U arc,O U sign,.bool up,O U c,O U q,O U tc,O U tp] 79]++G=S++AO.cells [.pointer (some ⟨n,0,none⟩)] 70::AO.cells [O U kind,O U arc,O U sign,.bool up,O U c,O U q,O U tc,O U tp] 79::G:=by simp
 rw[hB2]at hsl
 generalize hB:S++AO.cells [.pointer (some ⟨n,0,none⟩)] 70::AO.cells [O U kind,O U arc,O U sign,.bool up,O U c,O U q,O U tc,O U tp] 79::G=B at hsl⊢
 clear hB2
 have hSB:S.length+(G.length+2)=B.length:=by rw[<-hB];simp
 have b0:aj B S.length 0=some (.pointer (some ⟨n,0,none⟩)):=by rw[<-hB,dH];rfl
 have hdB:DrO B n na l loops:=by rw[<-hB];exact hd.more _
 obtain⟨n',C',hv,hrd⟩:=hsl
 rw[gi]at hv hrd
 subst hv
 by_cases h1:K=3
 ·subst h1
  rw[if_pos rfl]
  have hp1:=hs.nx_pl _ hp
  have hp2:=hs.nx_pl _ hp1
  have hring:fh l (c,q) 3=[(c,q),nx l (c,q),nx l (nx l (c,q))]:=rfl
  have hback:nx l (nx l (nx l (c,q)))=(c,q):=hK.2.1
  have hslp:oR B (.slice (some ⟨n',0,none⟩) 3 C') [(c,q),nx l (c,q),nx l (nx l (c,q))]:=⟨n',C',rfl,by rw[<-hring];exact hrd⟩
  generalize hE1:nx l (c,q)=w1 at*
  generalize hE2:nx l w1=w2 at*
  obtain⟨c1,q1⟩:=w1
  obtain⟨c2,q2⟩:=w2
  have hrd':ak B n' 0 6=some [O U c,O U q,O U c1,O U q1,O U c2,O U q2]:=by rw[hring]at hrd;exact hrd
  have k0:aj B n' 0=some (O U c):=by simpa using cG hrd' (j:=0) (by omega)
  have k2:aj B n' 2=some (O U c1):=by simpa using cG hrd' (j:=2) (by omega)
  have k4:aj B n' 4=some (O U c2):=by simpa using cG hrd' (j:=4) (by omega)
  have hne: ∀a b:Nat,((a:Int)!=(b:Int))= !decide (a=b):=fun a b=>by
   by_cases h:a=b
   ·subst h;simp
   ·have: ¬(a:Int)=(b:Int):=by omega
    simp[h,this]
  have fl: ∀G2 a,ij Try.prog Try.f46 S (cd S n na none) (.panic (bf 5)) a (B++G2):=fun G2 a=>⟨.pan (bf 5) S,rfl,by rw[<-hB,EH];exact Ends.DL rfl⟩
  have fl0: ∀a,ij Try.prog Try.f46 S (cd S n na none) (.panic (bf 5)) a B:=fun a=>by have:=fl [] a;rwa [Ft]at this
  by_cases h01:c=c1
  ·rw[if_neg (fun h=>h.1 h01)]
   have e01:((c:Int)!=(c1:Int))=false:=by rw[hne];simp[h01]
   refine X.seq (X.drawnBy (fun i=>i==36) follows (by decide+kernel) (Xd.s ?_ (by simp[go_sem,k0,k2,e01,du];rfl)))
   exact Xd.pan (by simp[go_sem]) (Sc b16 (aM _ _)) rfl (fl0 _)
  have e01:((c:Int)!=(c1:Int))=true:=by rw[hne];simp[h01]
  by_cases h02:c=c2
  ·rw[if_neg (fun h=>h.2.1 h02)]
   have e02:((c:Int)!=(c2:Int))=false:=by rw[hne];simp[h02]
   refine X.seq (X.drawnBy (fun i=>i==36) follows (by decide+kernel) (Xd.s ?_ (by simp[go_sem,k0,k2,k4,e01,e02,du];rfl)))
   exact Xd.pan (by simp[go_sem]) (Sc b16 (aM _ _)) rfl (fl0 _)
  have e02:((c:Int)!=(c2:Int))=true:=by rw[hne];simp[h02]
  by_cases h12:c1=c2
  ·rw[if_neg (fun h=>h.2.2 h12)]
   have e12:((c1:Int)!=(c2:Int))=false:=by rw[hne];simp[h12]
   refine X.seq (X.drawnBy (fun i=>i==36) follows (by decide+kernel) (Xd.s ?_ (by simp[go_sem,k0,k2,k4,e01,e02,e12,du];rfl)))
   exact Xd.pan (by simp[go_sem]) (Sc b16 (aM _ _)) rfl (fl0 _)
  have e12:((c1:Int)!=(c2:Int))=true:=by rw[hne];simp[h12]
  rw[if_pos ⟨h01,h02,h12⟩]
  refine X.seq (X.drawnBy (fun i=>i==36) follows (by decide+kernel) (Xd.s ?_ (by simp[go_sem,k0,k2,k4,e01,e02,e12,du];rfl)))
  refine Xd.t (Sc b16 (aZ _ _)) ?_
  refine Xd.nil ?_
  have hall: ∀x∈[(c,q),(c1,q1),(c2,q2)],bt l x:=by
   intro x hx
   simp only[EG,EK,or_false]at hx
   rcases hx with rfl|rfl|rfl<;>assumption
  have htop:=mc B _ _ hslp (by simp) 79 ⟨_,f79,rfl,rfl⟩ (.pointer (some ⟨S.length,0,none⟩)) _ fun x hx=>Cp B _ l loops hdB.is (by omega) S.length b0 x (hall x hx)
  have hbot:=mc B _ _ hslp (by simp) 80 ⟨_,f80,rfl,rfl⟩ (.pointer (some ⟨S.length,0,none⟩)) _ fun x hx=>Do B _ l loops hdB.is (by omega) S.length b0 x (hall x hx)
  refine X.seq (X.region (Xl.s ?_))
  refine Xl.o (Sc b78 htop) ?_
  generalize ([(c,q),(c1,q1),(c2,q2)].any fun p=>dV l p&&decide (p.2%2=1))=top
  refine Xl.s (Xl.nil ?_)
  refine X.seq (X.region (Xl.s ?_))
  refine Xl.o (Sc b78 hbot) ?_
  generalize ([(c,q),(c1,q1),(c2,q2)].any fun p=>dV l p&&decide (p.2%2=0))=bot
  refine Xl.s (Xl.nil ?_)
  cases top
  ·rw[if_neg (by simp)]
   refine X.seq (X.region (Xl.s ?_))
   exact Xl.p (Sc b16 (aM _ _)) (fl0 _)
  cases bot
  ·rw[if_neg (by simp)]
   refine X.seq (X.region (Xl.s ?_))
   exact Xl.p (Sc b16 (aM _ _)) (fl0 _)
  rw[if_pos ⟨rfl,rfl⟩]
  refine X.seq (X.region (Xl.s ?_))
  refine Xl.o (Sc b16 (aZ _ _)) ?_
  refine Xl.nil ?_
  obtain⟨s,b,C0,hsb,hat,hsl⟩:=hdB.sl
  have r0:aj B n 0=some s:=by rw[ah,hat];rfl
  have hlpos:0<l.length:=by have:=hp.1;simp only at this;omega
  obtain⟨v',G0,na',hcl,how,hnl,hjk⟩:=rv B s l hsl (by omega)
  obtain⟨jc,C,hv',hjc,hatc,hCC⟩: ∃jc C,v'= .slice (some ⟨B.length+jc,0,none⟩) l.length C/\jc<G0.length/\at_ G0 jc= .cells (aE l) 73/\((C=l.length/\C<unk)\/C=unk+5):=by
   rcases how with ⟨_,h,_⟩|⟨C,h1,h2,h3,_,h5⟩
   ·omega
   ·obtain⟨j,rfl⟩: ∃j,na'=B.length+j:=⟨na'-B.length,by omega⟩
    rw[aq]at h3
    refine⟨j,C,h1,by rw[Ez]at h2;omega,h3,?_⟩
    rcases h5 with ⟨h5,h6⟩|h5
    ·exact .inl ⟨h5,by omega⟩
    ·exact .inr h5
  subst hv'
  refine X.seq (X.region (Xl.s ?_ (by simp[go_sem,b0,r0];rfl)))
  refine Xl.o (Sc b24 hcl) ?_
  refine Xl.s (Xl.nil ?_)
  have t0:TS (G0++[.cells [.slice (some ⟨B.length+jc,0,none⟩) l.length C] 30]) B.length G0.length jc l.length C l:=by
   refine⟨by rw[ag hjc];exact hatc,bF _ _ _,by simp;omega,by simp,by omega,rfl,?_⟩
   intro k hk
   by_cases h:k<G0.length
   ·rw[ag h];exact hjk.at k
   ·obtain⟨j,rfl⟩: ∃j,k=G0.length+j:=⟨k-G0.length,by omega⟩
    rw[aq]
    match j,hk with
    | 0,hk=>exact absurd rfl hk
    |j+1,_=>rfl
  generalize hG:G0++[AO.cells [.slice (some ⟨B.length+jc,0,none⟩) l.length C] 30]=M0 at t0
  generalize hj7:G0.length=j7 at t0⊢
  clear hcl hatc hjc hjk htop hbot how hnl
  refine X.seq (X.g ?_)
  refine X.seq (X.seq (X.g ?_))
  refine X.block ?_
  have hnS: ∀j,(j=0->([(c,q),(c1,q1),(c2,q2)]:List (Nat×Nat))[j]? =some (c,q)):=fun j h=>by subst h;rfl
  refine X.loop (fun m E h=> ∃j M nxt,m=3-j/\j<=3/\ae E 2= .pointer (some ⟨S.length,0,none⟩)/\ae E 7= .pointer (some ⟨B.length+j7,0,none⟩)/\ae E 8= .func (.func 81) #[] #[.pointer (some ⟨B.length+j7,0,none⟩)]/\ae E 76= .slice (some ⟨n',0,none⟩) 3 C'/\ae E 77=O U 3/\ae E 78=O U j/\h=B++M/\TS M B.length j7 jc l.length C nxt/\nxt=(([(c,q),(c1,q1),(c2,q2)]:List (Nat×Nat)).take j).foldl (fY l) l) 3
   ⟨0,M0,l,rfl,by omega,by simp[ae],by simp[ae,hj7],by simp[ae,hj7],by simp[ae],by simp[ae],by simp[ae],by simp[<-hG],t0,rfl⟩ ?_
  rintro m E h ⟨j,M,nxt,rfl,hj,e2,e7,e8,e76,e77,e78,rfl,t,hnxt⟩
  by_cases hlt:j<3
  ·have hlt':(j:Int)<3:=by omega
   have hxg:([(c,q),(c1,q1),(c2,q2)]:List (Nat×Nat))[j]? =some (([(c,q),(c1,q1),(c2,q2)]:List (Nat×Nat))[j]'hlt):=Ex hlt
   have hzp:=hall _ (EE hxg)
   obtain⟨n2,C2,g1,g2⟩:=hslp.read hxg
   cases g1
   have hfold:(([(c,q),(c1,q1),(c2,q2)]:List (Nat×Nat)).take (j+1)).foldl (fY l) l=fY l nxt (([(c,q),(c1,q1),(c2,q2)]:List (Nat×Nat))[j]'hlt):=by
    rw[FP,hxg,Hs,<-hnxt];rfl
   generalize ([(c,q),(c1,q1),(c2,q2)]:List (Nat×Nat))[j]'hlt=z at hzp g2 hfold
   obtain⟨zx,hzx,_⟩:=ax.mem hzp
   obtain⟨han,hslt⟩:=hs.an hzp
   have harc:zx.arc z.2=((bW l z:Nat):Int):=by rw[han];simp only[ay,hzx]
   obtain⟨x1,x2,x3,x4⟩:=hs.pl false hslt
   obtain⟨y1,y2,y3,y4⟩:=hs.pl true hslt
   refine X.seq (X.g ?_ (by simp[go_sem,e77,e78,hlt'];rfl))
   refine X.seq (X.ct (X.skip ?_))
   refine X.seq (X.block ?_)
   refine X.seq (X.g ?_ (by simp[go_sem,e76,e78,hlt',aD g2];rfl))
   refine X.seq (X.region (Xl.s ?_ (by simp[go_sem,e2,aw b0];rfl)))
   refine Xl.o (Sc b73 (j8 _ _ l loops hdB.is.app z.1 z.2 zx hzx hzp.2)) ?_
   rw[harc]
   refine Xl.s (Xl.nil ?_)
   refine X.seq (X.drawnBy (fun i=>i==2||i==5) follows (by decide+kernel) (Xd.s ?_ (by simp[go_sem,e2,aw b0];rfl)))
   refine Xd.t (Sc b68 (dk _ _ l loops hdB.is.app ((bW l z:Nat):Int) false (by omega))) ?_
   rw[x4]
   refine Xd.s ?_ (by simp[go_sem,gZ,e2,aw b0];rfl)
   refine Xd.t (Sc b68 (dk _ _ l loops hdB.is.app ((bW l z:Nat):Int) true (by omega))) ?_
   rw[y4]
   refine Xd.s (Xd.nil ?_) (by simp[go_sem,gZ];rfl)
   have t1:=t.more (G:=[.cells [O U z.1,O U z.2] 77,.cells [O U (aW l (bW l z) false).1,O U (aW l (bW l z) false).2] 77,.cells [O U (aW l (bW l z) true).1,O U (aW l (bW l z) true).2] 77]) rfl
   have rX:ak (M++[.cells [O U z.1,O U z.2] 77,.cells [O U (aW l (bW l z) false).1,O U (aW l (bW l z) false).2] 77,.cells [O U (aW l (bW l z) true).1,O U (aW l (bW l z) true).2] 77]) (M.length+1) 0 2=some [O U (aW l (bW l z) false).1,O U (aW l (bW l z) false).2]:=by rw[aF];rfl
   have rY:ak (M++[.cells [O U z.1,O U z.2] 77,.cells [O U (aW l (bW l z) false).1,O U (aW l (bW l z) false).2] 77,.cells [O U (aW l (bW l z) true).1,O U (aW l (bW l z) true).2] 77]) (M.length+2) 0 2=some [O U (aW l (bW l z) true).1,O U (aW l (bW l z) true).2]:=by rw[aF];rfl
   have hMl:jc<M.length:=t.lc
   have hslS:fY l nxt z=bE (bE (bE (bE nxt (aW l (bW l z) true) (ay l (thr (aW l (bW l z) false)))) (thr (aW l (bW l z) true)) (bW l z)) (thr (aW l (bW l z) false)) (bW l z)) (aW l (bW l z) false) (ay l (thr (aW l (bW l z) true))):=rfl
   rw[hslS]at hfold
   generalize M++[AO.cells [O U z.1,O U z.2] 77,.cells [O U (aW l (bW l z) false).1,O U (aW l (bW l z) false).2] 77,.cells [O U (aW l (bW l z) true).1,O U (aW l (bW l z) true).2] 77]=K at t1 rX rY⊢
   generalize aW l (bW l z) false=PX at*
   generalize aW l (bW l z) true=PY at*
   generalize bW l z=sd at*
   obtain⟨wx,hwx,_⟩:=ax.mem x1
   obtain⟨wy,hwy,_⟩:=ax.mem y1
   have hax:wx.arc ((PX.2+2)%4)=ay l (thr PX):=by simp only[ay,thr,hwx]
   have hay:wy.arc ((PY.2+2)%4)=ay l (thr PY):=by simp only[ay,thr,hwy]
   have hX4:PX.2<4:=x1.2
   have hY4:PY.2<4:=y1.2
   have nX:M.length+1≠jc:=by omega
   have nY:M.length+2≠jc:=by omega
   have u1:=t1.put ((cz t1.hn).2 y1) (ay l (thr PX))
   have t2:=t1.setc (nxt':=bE nxt PY (ay l (thr PX))) (aU _ _ _)
   have rX2:=(iY nX (.cells (aE (bE nxt PY (ay l (thr PX)))) 73) 0 2).trans rX
   have rY2:=(iY nY (.cells (aE (bE nxt PY (ay l (thr PX)))) 73) 0 2).trans rY
   refine X.seq (X.drawnBy (fun i=>i==4||i==5) follows (by decide+kernel) (Xd.s ?_ (by simp[go_sem,e2,e8,aw b0,rX,rY];rfl)))
   refine Xd.t (Sc b82 (fK _ (PX.1:Int) (PX.2:Int))) ?_
   rw[lz hX4]
   refine Xd.s ?_
   refine Xd.t (Sc b73 (j8 _ _ l loops hdB.is.app PX.1 ((PX.2+2)%4) wx hwx (F7 _ (by omega)))) ?_
   rw[hax]
   refine Xd.s ?_
   refine Xd.eff rfl (by simp[go_sem]) (bO.call (first:= #[]) (cap:= #[.pointer (some ⟨B.length+j7,0,none⟩)]) rfl (by simp[go_sem]) ⟨_,f81,rfl,rfl⟩ u1) (by simp) ?_
   refine Xd.nil ?_
   clear u1 t1 rX rY
   generalize bE nxt PY (ay l (thr PX))=n1 at*
   generalize K.set jc (.cells (aE n1) 73)=K1 at t2 rX2 rY2⊢
   have u2:=t2.put ((cz t2.hn).2 (cX y1)) (sd:Int)
   have t3:=t2.setc (nxt':=bE n1 (thr PY) (sd:Int)) (aU _ _ _)
   have rX3:=(iY nX (.cells (aE (bE n1 (thr PY) (sd:Int))) 73) 0 2).trans rX2
   have rY3:=(iY nY (.cells (aE (bE n1 (thr PY) (sd:Int))) 73) 0 2).trans rY2
   refine X.seq (X.region (Xl.s ?_ (by simp[go_sem,e8,rY2];rfl)))
   refine Xl.o (Sc b82 (fK _ (PY.1:Int) (PY.2:Int))) ?_
   rw[lz hY4]
   refine Xl.s ?_
   refine Xl.o (bO.call (first:= #[]) (cap:= #[.pointer (some ⟨B.length+j7,0,none⟩)]) rfl (by simp[go_sem]) ⟨_,f81,rfl,rfl⟩ u2) ?_
   refine Xl.nil ?_
   clear u2 t2 rX2 rY2
   generalize bE n1 (thr PY) (sd:Int)=n2 at*
   generalize K1.set jc (.cells (aE n2) 73)=K2 at t3 rX3 rY3⊢
   have u3:=t3.put ((cz t3.hn).2 (cX x1)) (sd:Int)
   have t4:=t3.setc (nxt':=bE n2 (thr PX) (sd:Int)) (aU _ _ _)
   have rX4:=(iY nX (.cells (aE (bE n2 (thr PX) (sd:Int))) 73) 0 2).trans rX3
   have rY4:=(iY nY (.cells (aE (bE n2 (thr PX) (sd:Int))) 73) 0 2).trans rY3
   refine X.seq (X.region (Xl.s ?_ (by simp[go_sem,e8,rX3];rfl)))
   refine Xl.o (Sc b82 (fK _ (PX.1:Int) (PX.2:Int))) ?_
   rw[lz hX4]
   refine Xl.s ?_
   refine Xl.o (bO.call (first:= #[]) (cap:= #[.pointer (some ⟨B.length+j7,0,none⟩)]) rfl (by simp[go_sem]) ⟨_,f81,rfl,rfl⟩ u3) ?_
   refine Xl.nil ?_
   clear u3 t3 rX3 rY3
   generalize bE n2 (thr PX) (sd:Int)=n3 at*
   generalize K2.set jc (.cells (aE n3) 73)=K3 at t4 rX4 rY4⊢
   have u4:=t4.put ((cz t4.hn).2 x1) (ay l (thr PY))
   have t5:=t4.setc (nxt':=bE n3 PX (ay l (thr PY))) (aU _ _ _)
   refine X.drawnBy (fun i=>i==4||i==5) follows (by decide+kernel) (Xd.s ?_ (by simp[go_sem,e2,e8,aw b0,rX4,rY4];rfl))
   refine Xd.t (Sc b82 (fK _ (PY.1:Int) (PY.2:Int))) ?_
   rw[lz hY4]
   refine Xd.s ?_
   refine Xd.t (Sc b73 (j8 _ _ l loops hdB.is.app PY.1 ((PY.2+2)%4) wy hwy (F7 _ (by omega)))) ?_
   rw[hay]
   refine Xd.s ?_
   refine Xd.eff rfl (by simp[go_sem]) (bO.call (first:= #[]) (cap:= #[.pointer (some ⟨B.length+j7,0,none⟩)]) rfl (by simp[go_sem]) ⟨_,f81,rfl,rfl⟩ u4) (by simp) ?_
   refine Xd.nil ?_
   refine X.g ?_ (by simp[go_sem,e78];rfl)
   refine⟨3-(j+1),by omega,j+1,_,_,rfl,by omega,by simp[ae,e2],by simp[ae,e7],by simp[ae,e8],by simp[ae,e76],by simp[ae,e77],?_,rfl,t5,hfold.symm⟩
   simp only[ae,if_true];rw[aA (by omega)]
  ·have hjl:j=3:=by omega
   subst hjl
   refine X.seq (X.g ?_ (by simp[go_sem,e77,e78];rfl))
   refine X.seq (X.cf (X.exit ?_))
   simp only[AX.then,AX.inBlock,if_true]
   have hnB:=hdB.1
   have hnS0:=hd.1
   have hatG: ∀G,at_ (B++G) n= .cells [s,O U loops] 75:=fun G=>by rw[ag hnB];exact hat
   have hsetG: ∀G o,(B++G).set n o=B.set n o++G:=fun G o=>dO hnB G o
   have r7:aj M j7 0=some (.slice (some ⟨B.length+jc,0,none⟩) l.length C):=by rw[ah,t.h7];rfl
   have hlen3:nxt.length=l.length:=t.hn
   have hsl3:nxt=fE l (c,q) (c1,q1) (c2,q2):=hnxt
   refine X.g ?_ (by simp[go_sem,e2,e7,aw b0,r7,hatG,hsetG];rfl)
   rw[<-hsl3]
   have hTl:(B.set n (.cells [.slice (some ⟨B.length+jc,0,none⟩) l.length C,O U loops] 75)++M).length=B.length+M.length:=by simp
   have hlow: ∀k,k<B.length->k≠n->at_ (B.set n (.cells [.slice (some ⟨B.length+jc,0,none⟩) l.length C,O U loops] 75)++M) k=at_ B k:=fun k h1 h2=>by
    rw[ag (by rw[EA];exact h1),af (Fg h2)]
   have hTn:at_ (B.set n (.cells [.slice (some ⟨B.length+jc,0,none⟩) l.length C,O U loops] 75)++M) n= .cells [.slice (some ⟨B.length+jc,0,none⟩) l.length C,O U loops] 75:=by
    rw[ag (by rw[EA];exact hnB),au hnB]
   have hhigh: ∀k,at_ (B.set n (.cells [.slice (some ⟨B.length+jc,0,none⟩) l.length C,O U loops] 75)++M) (B.length+k)=at_ M k:=fun k=>by
    have:=aq (B.set n (.cells [.slice (some ⟨B.length+jc,0,none⟩) l.length C,O U loops] 75)) M k
    rw[EA]at this;exact this
   have hBS: ∀k,k<S.length->at_ B k=at_ S k:=fun k hk=>by rw[<-hB,ag hk]
   have hBG: ∀k,k≠0->at_ B (S.length+k)=at_ (AO.cells [.pointer (some ⟨n,0,none⟩)] 70::AO.cells [O U kind,O U arc,O U sign,.bool up,O U c,O U q,O U tc,O U tp] 79::G) k:=fun k _=>by rw[<-hB,aq]
   have hkk: ∀k,k<(B.set n (.cells [.slice (some ⟨B.length+jc,0,none⟩) l.length C,O U loops] 75)++M).length->(k<S.length/\at_ (B.set n (.cells [.slice (some ⟨B.length+jc,0,none⟩) l.length C,O U loops] 75)++M) k=at_ S k)\/bC (B.set n (.cells [.slice (some ⟨B.length+jc,0,none⟩) l.length C,O U loops] 75)++M).length (at_ (B.set n (.cells [.slice (some ⟨B.length+jc,0,none⟩) l.length C,O U loops] 75)++M) k):=by
    intro k hk
    rw[hTl]at hk⊢
    have hlc:=t.lc
    by_cases h1:k=n
    ·subst h1;rw[hTn];exact .inr (bC.dr (Bel.sl (by omega)))
    ·by_cases h2:k<S.length
     ·exact .inl ⟨h2,by rw[hlow k (by omega) h1,hBS k h2]⟩
     ·refine .inr ?_
      by_cases h3:k<B.length
      ·rw[hlow k h3 h1]
       obtain⟨i,rfl⟩: ∃i,k=S.length+i:=⟨k-S.length,by omega⟩
       match i with
       | 0=>
         have:at_ B (S.length+0)=AO.cells [.pointer (some ⟨n,0,none⟩)] 70:=by rw[<-hB,aq];rfl
         rw[this]
         refine bC.cellsOf fun v hv=> ?_
         rw[FS]at hv;subst hv;exact Bel.ptr (by omega)
       | 1=>rw[hBG 1 (by omega)];exact bC.plain rfl
       |i+2=>rw[hBG (i+2) (by omega)];exact cQ (hj0.at i) _
      ·obtain⟨i,rfl⟩: ∃i,k=B.length+i:=⟨k-B.length,by omega⟩
       rw[hhigh]
       by_cases h4:i=j7
       ·rw[h4,t.h7]
        refine bC.cellsOf fun v hv=> ?_
        rw[FS]at hv;subst hv;exact Bel.sl (by omega)
       ·exact cQ (t.junk i h4) _
   have hcap:(C=nxt.length/\C<unk)\/C=unk+5:=by rw[hlen3];exact hCC
   have hlc:=t.lc
   refine⟨.val (.tuple #[]) (B.set n (.cells [.slice (some ⟨B.length+jc,0,none⟩) l.length C,O U loops] 75)++M),⟨_,B.length+jc,rfl,⟨by rw[hTl];omega,.inr ⟨C,by omega,by rw[hTl];omega,by rw[hTn,hlen3],by rw[hhigh];exact t.hc,hcap⟩⟩,by rw[hTl];omega,.inr (.inr (by omega)),(fun k h1 h2 _=>by rw[hlow k (by omega) h2,hBS k h1]),hkk⟩,Ends.own (by simp only[fg];rfl) (by rw[hTl];omega) (Bel.junk _) hkk⟩
 ·rw[if_neg h1]
  have h1':((K:Int)==3)=false:=by simp;omega
  refine X.seq (X.drawnBy (fun i=>i==36) follows (by decide+kernel) (Xd.s ?_ (by simp[go_sem,h1',du];rfl)))
  exact Xd.pan (by simp[go_sem]) (Sc b16 (aM _ _)) rfl ⟨.pan (bf 5) S,rfl,by rw[<-hB];exact Ends.DL rfl⟩
def dP(p:aI):Value:= .agg #[O U p.b,O U p.m,O U p.a,.bool p.al]
theorem inP_lt{al:Bool}{p:Nat}(h:p<4):inP al p<4:=by
 unfold inP;split
 ·exact h
 ·exact F7 _ (by omega)
theorem zf(H:AH)(p:aI)(k:Nat)(hk:k<4):AC Try.prog 98 [dP p,O U k] H (.val (O U (inP p.al k:Nat)) H):=by
 obtain⟨b,m,a,al⟩:=p
 have hw:(IntKind.i64.wrap ((k:Int)+2)).tmod 4=(((k+2)%4:Nat):Int):=lz hk
 refine AC.o 11 f98 fun σ w hr=> ?_
 refine W.seq (W.g ?_ (by simp[go_sem,dP];rfl))
 refine W.seq (W.seq (W.g ?_))
 cases al
 ·refine W.cf (W.skip ?_)
  refine W.seq (W.g ?_ (by simp[go_sem,hw];rfl))
  exact W.ret (Ends.quiet (by simp[go_sem,inP]) rfl)
 ·refine W.ct ?_
  refine W.seq (W.g ?_)
  exact W.ret (Ends.quiet (by simp[go_sem,inP]) rfl)
def pD(e0 e1 e2 e3:Int)(lo:Nat)(s:Int)(q:Nat):Cr:=⟨if 0<q then nf e0 e1 e2 e3 (lo%4)else 0,if 1<q then nf e0 e1 e2 e3 ((lo+1)%4)else 0,if 2<q then nf e0 e1 e2 e3 ((lo+2)%4)else 0,if 3<q then nf e0 e1 e2 e3 ((lo+3)%4)else 0,s⟩
theorem vH(e0 e1 e2 e3:Int)(lo:Nat)(s:Int){q:Nat}(hq:q<4):(pD e0 e1 e2 e3 lo s q).cells.set q (O U (nf e0 e1 e2 e3 ((lo+q)%4)))=(pD e0 e1 e2 e3 lo s (q+1)).cells:=by
 match q,hq with
 | 0,_=>rfl
 | 1,_=>rfl
 | 2,_=>rfl
 | 3,_=>rfl
theorem y9(e0 e1 e2 e3:Int){k:Nat}(hk:k<4):([O U e0,O U e1,O U e2,O U e3]:List Value)[k]? =some (O U (nf e0 e1 e2 e3 k)):=by
 match k,hk with
 | 0,_=>rfl
 | 1,_=>rfl
 | 2,_=>rfl
 | 3,_=>rfl
theorem Cz{lo hi:Nat}(h1:lo<4)(h2:hi<4):((IntKind.i64.wrap (IntKind.i64.wrap ((hi:Int) -(lo:Int))+4)).tmod 4==3)=decide ((hi+4-lo)%4=3):=by
 have e1:IntKind.i64.wrap ((hi:Int) -(lo:Int))=(hi:Int) -(lo:Int):=by rw[EP];omega
 have e2:IntKind.i64.wrap ((hi:Int) -(lo:Int)+4)=((hi+4-lo:Nat):Int):=by rw[EP];omega
 rw[e1,e2]
 have e3:(((hi+4-lo:Nat):Int)).tmod 4=(((hi+4-lo)%4:Nat):Int):=rfl
 rw[e3,FU];simp;omega
theorem gQ(S:AH)(n na:Nat)(l:List Cr)(loops:Int)(hd:DrO S n na l loops)(hl:l.length<100000)(e0 e1 e2 e3:Int)(a b:aI)(at':Nat)(hat':at'<4)(up:Bool):
 ACE Try.prog 76 [.pointer (some ⟨n,0,none⟩),.agg #[O U e0,O U e1,O U e2,O U e3],dP a,dP b,O U at',.bool up] S (cd S n na (some (l++[fR e0 e1 e2 e3 a.al b.al at' up],loops))):=by
 obtain⟨s,bb,C0,hsb,hat,hsl⟩:=hd.sl
 have r0:aj S n 0=some s:=by rw[ah,hat];rfl
 have hl1:=inP_lt (al:=a.al) hat'
 have hl2:=inP_lt (al:=b.al) (show 0<4 by omega)
 have hc1:inP a.al at'<4:=hl1
 have hX: ∀lo hi:Nat,lo=(if up=true then inP b.al 0 else inP a.al at')->hi=(if up=true then inP a.al at' else inP b.al 0)->fR e0 e1 e2 e3 a.al b.al at' up=pD e0 e1 e2 e3 lo (if(hi+4-lo)%4=3 then 1 else-1) 4:=by
  rintro lo hi rfl rfl;rfl
 have c1:=fun H=>zf H a at' hat'
 have c2:=fun H=>zf H b 0 (by omega)
 obtain⟨ab,am,aa,al⟩:=a
 obtain⟨bb',bm,ba,bl⟩:=b
 simp only at hX hl1 hl2 c1 c2
 refine ACE.o 60 f76 ?_
 refine X.seq (X.g ?_ (by simp[go_sem,dP];rfl))
 refine X.seq (X.g ?_)
 refine X.seq (X.drawnBy (fun i=>i==3||i==6) follows (by decide+kernel) (Xd.s ?_))
 refine Xd.t (bO.call (first:= #[]) (cap:= #[]) rfl (by simp[go_sem]<;>repeat constructor) ⟨_,f98,rfl,rfl⟩ (c1 _)) ?_
 refine Xd.s ?_
 refine Xd.t (bO.call (first:= #[]) (cap:= #[]) rfl (by simp[go_sem]<;>repeat constructor) ⟨_,f98,rfl,rfl⟩ (c2 _)) ?_
 refine Xd.s (Xd.nil ?_)
 refine X.seq (X.seq (X.g ?_))
 cases up
 focus
  refine X.cf (X.skip ?_)
  generalize hLO:inP al at'=lo at*
  generalize hHI:inP bl 0=hi at*
 rotate_left
 focus
  refine X.ct (?_)
  refine X.g ?_
  generalize hLO:inP bl 0=lo at*
  generalize hHI:inP al at'=hi at*
 all_goals
  have hX':=hX lo hi rfl rfl
  have hsg:=Cz (lo:=lo) (hi:=hi) (by omega) (by omega)
  refine X.seq (X.g ?_)
  rw[hX']
  cases g:decide ((hi+4-lo)%4=3)
  ·have hs1:(if(hi+4-lo)%4=3 then(1:Int)else-1)=(-1):=if_neg (by simpa using g)
   rw[hs1]
   rw[g]at hsg
   refine X.seq (X.seq (X.g ?_ (by simp[go_sem,hsg];rfl)))
   refine X.cf (X.skip ?_)
   refine X.seq (X.seq (X.g ?_))
   refine X.block ?_
   refine X.loop (fun m E h=> ∃q,m=4-q/\q<=4/\ae E 0= .pointer (some ⟨n,0,none⟩)/\ae E 7= .pointer (some ⟨S.length,0,none⟩)/\ae E 13=O U lo/\ae E 15= .pointer (some ⟨S.length+3,0,none⟩)/\ae E 35=O U q/\h=S++[.cells [O U e0,O U e1,O U e2,O U e3] 38,.cells [O U ab,O U am,O U aa,.bool al] 159,.cells [O U bb',O U bm,O U ba,.bool bl] 159,.cells (pD e0 e1 e2 e3 lo (-1) q).cells 73]) 4
    ⟨0,rfl,by omega,by simp[ae],by simp[ae],by simp[ae],by simp[ae],by simp[ae],rfl⟩ ?_
   rintro m E h ⟨q,rfl,hq,d0,d7,d13,d15,d35,rfl⟩
   by_cases hq4:q<4
   ·have hq':(q:Int)<4:=by omega
    have hidx:(IntKind.i64.wrap ((lo:Int)+(q:Int))).tmod 4=(((lo+q)%4:Nat):Int):=by
     have:IntKind.i64.wrap ((lo:Int)+(q:Int))=((lo+q:Nat):Int):=by rw[EP];omega
     rw[this];rfl
    have hk4:(lo+q)%4<4:=F7 _ (by omega)
    have hget:=y9 e0 e1 e2 e3 hk4
    have hset:=vH e0 e1 e2 e3 lo (-1) hq4
    have hcl:(pD e0 e1 e2 e3 lo (-1) q).cells.length=5:=rfl
    have hq5:q+1<=5:=by omega
    generalize (lo+q)%4=kk at hidx hk4 hget hset
    have hk4':(kk:Int)<4:=by omega
    have hget': ∀hl,([O U e0,O U e1,O U e2,O U e3]:List Value)[kk]'hl=O U (nf e0 e1 e2 e3 kk):=fun hl=>by
     have:=hget;rw[Ex hl]at this;exact Fj this
    refine X.seq (X.g ?_ (by simp[go_sem,d35,hq'];rfl))
    refine X.seq (X.ct (X.skip ?_))
    refine X.seq (X.block ?_)
    refine X.seq (X.g ?_ (by simp[go_sem,d35];rfl))
    refine X.g ?_ (by simp[go_sem,d7,d13,d15,hidx,hk4,hk4',hget,hget',hq',hset,hcl,hq5];rfl)
    refine X.g ?_ (by simp[go_sem,d35];rfl)
    refine⟨4-(q+1),by omega,q+1,rfl,by omega,by simp[ae,d0],by simp[ae,d7],by simp[ae,d13],by simp[ae,d15],?_,rfl⟩
    simp only[ae,if_true];rw[aA (by omega)]
   ·have hqq:q=4:=by omega
    subst hqq
    refine X.seq (X.g ?_ (by simp[go_sem,d35];rfl))
    refine X.seq (X.cf (X.exit ?_))
    simp only[AX.then,AX.inBlock,if_true]
    generalize hY:pD e0 e1 e2 e3 lo (-1) 4=y
    obtain⟨S2,ha,hl2',hk2,hn2⟩:=hd.app (by omega) [.cells [O U e0,O U e1,O U e2,O U e3] 38,.cells [O U ab,O U am,O U aa,.bool al] 159,.cells [O U bb',O U bm,O U ba,.bool bl] 159,.cells y.cells 73] y hat
    obtain⟨z0,z1,z2,z3,z4⟩:=y
    simp only[Cr.cells,List.cons_append,List.nil_append,List.length_cons,List.length_nil,EU,Nat.reduceAdd]at ha
    have hn2':n<S2.length:=by rw[hl2'];exact hd.1
    have hatG2: ∀G,at_ (S2++G) n= .cells [s,O U loops] 75:=fun G=>by rw[ag hn2'];exact hn2
    have hsetG2: ∀G o,(S2++G).set n o=S2.set n o++G:=fun G o=>dO hn2' G o
    refine X.drawnBy (fun i=>false) follows (by decide+kernel) (Xd.s (Xd.nil ?_) (by simp[go_sem,d0,d15,aw r0,Cr.cells,pf,ha,hl2',hatG2,hsetG2,du];rfl))
    refine sK (S2:=S2) (G:=[.cells [O U e0,O U e1,O U e2,O U e3] 38,.cells [O U ab,O U am,O U aa,.bool al] 159,.cells [O U bb',O U bm,O U ba,.bool bl] 159,.cells [O U z0,O U z1,O U z2,O U z3,O U z4] 73,
     .cells [O U z0,O U z1,O U z2,O U z3,O U z4] 73]) rfl hd.1 hl2' (fun k h1=> ?_) (fun o ho=> ?_) (by simp)
    ·rcases hk2 k with h|⟨h,h'⟩
     ·exact .inl h
     ·exact .inr ⟨h,by rw[h'];rfl⟩
    ·simp only[EG,EK,or_false]at ho
     rcases ho with rfl|rfl|rfl|rfl|rfl<;>exact bC.plain rfl
  ·have hs1:(if(hi+4-lo)%4=3 then(1:Int)else-1)=1:=if_pos (by simpa using g)
   rw[hs1]
   rw[g]at hsg
   refine X.seq (X.seq (X.g ?_ (by simp[go_sem,hsg];rfl)))
   refine X.ct (?_)
   refine X.g ?_
   refine X.seq (X.seq (X.g ?_))
   refine X.block ?_
   refine X.loop (fun m E h=> ∃q,m=4-q/\q<=4/\ae E 0= .pointer (some ⟨n,0,none⟩)/\ae E 7= .pointer (some ⟨S.length,0,none⟩)/\ae E 13=O U lo/\ae E 15= .pointer (some ⟨S.length+3,0,none⟩)/\ae E 35=O U q/\h=S++[.cells [O U e0,O U e1,O U e2,O U e3] 38,.cells [O U ab,O U am,O U aa,.bool al] 159,.cells [O U bb',O U bm,O U ba,.bool bl] 159,.cells (pD e0 e1 e2 e3 lo 1 q).cells 73]) 4
    ⟨0,rfl,by omega,by simp[ae],by simp[ae],by simp[ae],by simp[ae],by simp[ae],rfl⟩ ?_
   rintro m E h ⟨q,rfl,hq,d0,d7,d13,d15,d35,rfl⟩
   by_cases hq4:q<4
   ·have hq':(q:Int)<4:=by omega
    have hidx:(IntKind.i64.wrap ((lo:Int)+(q:Int))).tmod 4=(((lo+q)%4:Nat):Int):=by
     have:IntKind.i64.wrap ((lo:Int)+(q:Int))=((lo+q:Nat):Int):=by rw[EP];omega
     rw[this];rfl
    have hk4:(lo+q)%4<4:=F7 _ (by omega)
    have hget:=y9 e0 e1 e2 e3 hk4
    have hset:=vH e0 e1 e2 e3 lo 1 hq4
    have hcl:(pD e0 e1 e2 e3 lo 1 q).cells.length=5:=rfl
    have hq5:q+1<=5:=by omega
    generalize (lo+q)%4=kk at hidx hk4 hget hset
    have hk4':(kk:Int)<4:=by omega
    have hget': ∀hl,([O U e0,O U e1,O U e2,O U e3]:List Value)[kk]'hl=O U (nf e0 e1 e2 e3 kk):=fun hl=>by
     have:=hget;rw[Ex hl]at this;exact Fj this
    refine X.seq (X.g ?_ (by simp[go_sem,d35,hq'];rfl))
    refine X.seq (X.ct (X.skip ?_))
    refine X.seq (X.block ?_)
    refine X.seq (X.g ?_ (by simp[go_sem,d35];rfl))
    refine X.g ?_ (by simp[go_sem,d7,d13,d15,hidx,hk4,hk4',hget,hget',hq',hset,hcl,hq5];rfl)
    refine X.g ?_ (by simp[go_sem,d35];rfl)
    refine⟨4-(q+1),by omega,q+1,rfl,by omega,by simp[ae,d0],by simp[ae,d7],by simp[ae,d13],by simp[ae,d15],?_,rfl⟩
    simp only[ae,if_true];rw[aA (by omega)]
   ·have hqq:q=4:=by omega
    subst hqq
    refine X.seq (X.g ?_ (by simp[go_sem,d35];rfl))
    refine X.seq (X.cf (X.exit ?_))
    simp only[AX.then,AX.inBlock,if_true]
    generalize hY:pD e0 e1 e2 e3 lo 1 4=y
    obtain⟨S2,ha,hl2',hk2,hn2⟩:=hd.app (by omega) [.cells [O U e0,O U e1,O U e2,O U e3] 38,.cells [O U ab,O U am,O U aa,.bool al] 159,.cells [O U bb',O U bm,O U ba,.bool bl] 159,.cells y.cells 73] y hat
    obtain⟨z0,z1,z2,z3,z4⟩:=y
    simp only[Cr.cells,List.cons_append,List.nil_append,List.length_cons,List.length_nil,EU,Nat.reduceAdd]at ha
    have hn2':n<S2.length:=by rw[hl2'];exact hd.1
    have hatG2: ∀G,at_ (S2++G) n= .cells [s,O U loops] 75:=fun G=>by rw[ag hn2'];exact hn2
    have hsetG2: ∀G o,(S2++G).set n o=S2.set n o++G:=fun G o=>dO hn2' G o
    refine X.drawnBy (fun i=>false) follows (by decide+kernel) (Xd.s (Xd.nil ?_) (by simp[go_sem,d0,d15,aw r0,Cr.cells,pf,ha,hl2',hatG2,hsetG2,du];rfl))
    refine sK (S2:=S2) (G:=[.cells [O U e0,O U e1,O U e2,O U e3] 38,.cells [O U ab,O U am,O U aa,.bool al] 159,.cells [O U bb',O U bm,O U ba,.bool bl] 159,.cells [O U z0,O U z1,O U z2,O U z3,O U z4] 73,
     .cells [O U z0,O U z1,O U z2,O U z3,O U z4] 73]) rfl hd.1 hl2' (fun k h1=> ?_) (fun o ho=> ?_) (by simp)
    ·rcases hk2 k with h|⟨h,h'⟩
     ·exact .inl h
     ·exact .inr ⟨h,by rw[h'];rfl⟩
    ·simp only[EG,EK,or_false]at ho
     rcases ho with rfl|rfl|rfl|rfl|rfl<;>exact bC.plain rfl
theorem DrO.bel{S:AH}{n na:Nat}{l:List Cr}{loops:Int}(h:DrO S n na l loops){s:Value}{lp:Int}(hs:at_ S n= .cells [s,O U lp] 75):Bel S.length s:=by
 obtain⟨h0,⟨h1,h2,h3⟩|⟨C,h1,h2,h3,h4,h5⟩⟩:=h
 ·rw[h3]at hs;cases hs;exact Bel.plain rfl
 ·rw[h3]at hs;cases hs;exact Bel.sl h2
theorem Ends.El{fn:Func}{S S1 G:AH}{a:Env}{v:Value}{m:Nat}{o:AO}(hS:S.set m o=S1)(h:fg Try.prog fn a (S1++G)=some v)(hv:Ev.plain v=true)(ho:bC S.length o):Ev.Ends Try.prog fn S (.val v S1) .ret a (S1++G):=by
 subst hS
 refine⟨v,S.set m o,G,h,rfl,rfl,by simp,Bel.plain hv,fun k hk=> ?_⟩
 rw[EA]at hk⊢
 by_cases e:m=k
 ·subst e;rw[au hk];exact .inr ho
 ·exact .inl ⟨hk,af e _⟩
theorem Ends.set{fn:Func}{S G:AH}{a:Env}{v:Value}{m:Nat}{o:AO}(h:fg Try.prog fn a (S.set m o++G)=some v)(hv:Ev.plain v=true)(ho:bC S.length o):Ev.Ends Try.prog fn S (.val v (S.set m o)) .ret a (S.set m o++G):=by
 refine⟨v,S.set m o,G,h,rfl,rfl,by simp,Bel.plain hv,fun k hk=> ?_⟩
 rw[EA]at hk⊢
 by_cases e:m=k
 ·subst e;rw[au hk];exact .inr ho
 ·exact .inl ⟨hk,af e _⟩
theorem zF(S:AH)(n na:Nat)(l:List Cr)(loops:Int)(hd:DrO S n na l loops)(hlo:0<loops/\loops<=200){s:Value}(hat:at_ S n= .cells [s,O U loops] 75)(c q:Int)(hc:c<0)(first:Nat)(hf:first<1000000):
 AC Try.prog 75 [.pointer (some ⟨n,0,none⟩),.agg #[O U c,O U q],O U first] S (.val (dP ⟨first,(first+1:Nat),first,q==0⟩) (S.set n (.cells [s,O U (loops-1)] 75))):=by
 have hn:=hd.1
 have r1:aj S n 1=some (O U loops):=by rw[ah,hat];rfl
 have hatG: ∀G,at_ (S++G) n= .cells [s,O U loops] 75:=fun G=>by rw[ag hn];exact hat
 have hsetG: ∀G o,(S++G).set n o=S.set n o++G:=fun G o=>dO hn G o
 have hwl:IntKind.i64.wrap (loops-1)=loops-1:=by rw[EP];omega
 have hwf:IntKind.i64.wrap ((first:Int)+1)=((first+1:Nat):Int):=aA (by omega)
 have hbo:bC S.length (.cells [s,O U (loops-1)] 75):=bC.dr (hd.bel hat)
 have hsl:(S.set n (.cells [s,O U (loops-1)] 75)).length=S.length:=by simp
 refine AC.o 66 f75 fun σ w hr=> ?_
 refine W.seq (W.g ?_)
 refine W.seq (W.seq (W.g ?_))
 refine W.ct ?_ (by simp[go_sem,hc])
 refine W.seq (W.g ?_ (by simp[go_sem,aw r1,hatG,hsetG,hwl];rfl))
 generalize hS1:S.set n (.cells [s,O U (loops-1)] 75)=S1 at*
 have e:S.length=S1.length:=hsl.symm
 rw[e]
 refine W.seq (W.g ?_ (by simp[go_sem,hwf];rfl))
 refine W.ret (Ends.El hS1 (by simp[go_sem,dP]<;>repeat constructor) rfl hbo)
theorem Bb(S:AH)(n na:Nat)(l:List Cr)(loops:Int)(hd:DrO S n na l loops)(hl:l.length<100000)(p pb pe:Nat×Nat)(hp:bt l p)(a:Int)(ha:ay l p=a)(hb:bi a false 0 l=((pb.1:Int),(pb.2:Int)))(he:bi a true 0 l=((pe.1:Int),(pe.2:Int)))(hpe:bt l pe)(first:Nat)(hf:first<1000000):
 AC Try.prog 75 [.pointer (some ⟨n,0,none⟩),plV p,O U first] S
  (.val (dP (if pb=p then⟨a,first,(first+1:Nat),true⟩else⟨(first+1:Nat),first,a,false⟩)) (S.set na (.cells (aE (bE l pe (first+1:Nat))) 73))):=by
 obtain⟨s,b,C0,hsb,hat,hsl⟩:=hd.sl
 have hn:=hd.1
 have r0:aj S n 0=some s:=by rw[ah,hat];rfl
 obtain⟨x,hx,_⟩:=ax.mem hp
 have hax:x.arc p.2=a:=by rw[<-ha];simp only[ay,hx]
 have hpp:=hd.put hpe ((first+1:Nat):Int)
 have hsetl:=gD l pe.1 pe.2 ((first+1:Nat):Int) hpe
 have hfl:=dy l
 obtain⟨z1,z2,z3,_⟩:=hpp
 have hss:s= .slice (some ⟨na,0,none⟩) l.length C0:=by
  obtain⟨_,⟨h1,h2,h3⟩|⟨C',h1,h2,h3,h4,h5⟩⟩:=hd
  ·exact absurd h1 z1
  ·rw[hat]at h3;simp only[AO.cells.injEq,Gc]at h3
   rw[hsb]at h3⊢
   have:=h3.1.1
   simp only[Fw]at this
   rw[this.1]
 obtain⟨pe1,pe2⟩:=pe
 have q1:pe1<l.length:=hpe.1
 have q2:pe2<4:=hpe.2
 have q1':(pe1:Int)<l.length:=by omega
 have q2':(pe2:Int)<4:=by omega
 have hfo:pe1*5+pe2+1<=(aE l).length:=by omega
 have hatA: ∀G,at_ (S++G) na= .cells (aE l) 73:=fun G=>by rw[ag z2];exact z3
 have hsetA: ∀G o,(S++G).set na o=S.set na o++G:=fun G o=>dO z2 G o
 have hwf:IntKind.i64.wrap ((first:Int)+1)=((first+1:Nat):Int):=aA (by omega)
 have hwf':((first+1:Nat):Int)=(first:Int)+1:=by omega
 have hbo:bC S.length (.cells (aE (bE l (pe1,pe2) ((first+1:Nat):Int))) 73):=bC.plain (cq _)
 have hpos: ¬((p.1:Int)<0):=by omega
 have heq:((pb.1:Int)==(p.1:Int)&&(pb.2:Int)==(p.2:Int))=decide (pb=p):=by
  rw[FU]
  simp only[EC,beq_iff_eq,decide_eq_true_eq]
  constructor
  ·rintro⟨a,b⟩;exact Gh (by omega) (by omega)
  ·rintro rfl;exact⟨rfl,rfl⟩
 simp only at hsetl
 rw[hwf']at hsetl
 refine AC.o 66 f75 fun σ w hr=> ?_
 refine W.seq (W.g ?_ (by simp[go_sem,plV];rfl))
 refine W.seq (W.seq (W.g ?_))
 refine W.cf (W.skip ?_) (by simp[go_sem,hpos])
 refine W.seq (W.region (Wl.s ?_))
 refine Wl.o (Sc b73 (j8 _ _ l loops hd.is.app p.1 p.2 x hx hp.2)) ?_
 rw[hax]
 refine Wl.s (Wl.nil ?_)
 refine W.seq (W.drawnBy (fun i=>i==2) follows (by decide+kernel) (Dl.s ?_))
 refine Dl.t (Sc b68 (dk _ _ l loops hd.is.app a false (by omega))) ?_
 rw[hb]
 cases g:decide (pb=p)
 ·rw[g]at heq
  have hne: ¬pb=p:=by simpa using g
  rw[if_neg hne]
  refine Dl.s (Dl.nil ?_) (by simp[go_sem,gZ,heq];rfl)
  refine W.seq (W.region (Wl.s ?_))
  refine Wl.o (Sc b68 (dk _ _ l loops hd.is.app a true (by omega))) ?_
  rw[he]
  refine Wl.s (Wl.nil ?_) (by simp[go_sem,gZ];rfl)
  refine W.seq (W.drawnBy (fun i=>false) follows (by decide+kernel) (Dl.s (Dl.nil ?_) (by simp[go_sem,aw r0,hss,q1',q2',hatA,hsetA,hfo,hwf,hsetl,du];rfl)))
  refine W.seq (W.seq (W.g ?_))
  refine W.cf (W.skip ?_) (by simp[go_sem,heq])
  have hsl2:(S.set na (.cells (aE (bE l (pe1,pe2) ((first+1:Nat):Int))) 73)).length=S.length:=by simp
  rw[hwf']at hsl2 hbo⊢
  generalize hS1:S.set na (.cells (aE (bE l (pe1,pe2) ((first:Int)+1))) 73)=S1 at*
  have e:S.length=S1.length:=hsl2.symm
  rw[e]
  refine W.seq (W.g ?_ (by simp[go_sem,hwf];rfl))
  refine W.ret (Ends.El hS1 (by simp[go_sem,dP]<;>repeat constructor) rfl hbo)
 ·rw[g]at heq
  have hne:pb=p:=by simpa using g
  rw[if_pos hne]
  refine Dl.s (Dl.nil ?_) (by simp[go_sem,gZ,heq];rfl)
  refine W.seq (W.region (Wl.s ?_))
  refine Wl.o (Sc b68 (dk _ _ l loops hd.is.app a true (by omega))) ?_
  rw[he]
  refine Wl.s (Wl.nil ?_) (by simp[go_sem,gZ];rfl)
  refine W.seq (W.drawnBy (fun i=>false) follows (by decide+kernel) (Dl.s (Dl.nil ?_) (by simp[go_sem,aw r0,hss,q1',q2',hatA,hsetA,hfo,hwf,hsetl,du];rfl)))
  refine W.seq (W.seq (W.g ?_))
  refine W.ct ?_ (by simp[go_sem,heq])
  have hsl2:(S.set na (.cells (aE (bE l (pe1,pe2) ((first+1:Nat):Int))) 73)).length=S.length:=by simp
  rw[hwf']at hsl2 hbo⊢
  generalize hS1:S.set na (.cells (aE (bE l (pe1,pe2) ((first:Int)+1))) 73)=S1 at*
  have e:S.length=S1.length:=hsl2.symm
  rw[e]
  refine W.seq (W.g ?_ (by simp[go_sem,hwf];rfl))
  refine W.ret (Ends.El hS1 (by simp[go_sem,dP]<;>repeat constructor) rfl hbo)
end Go.Proofs.Ytjcomcgpjjianaa
