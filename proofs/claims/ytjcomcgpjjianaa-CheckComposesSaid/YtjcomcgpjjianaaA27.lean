import Derived.Test.YtjcomcgpjjianaaA19
import Derived.Test.YtjcomcgpjjianaaA26
set_option linter.all false
set_option maxHeartbeats 16000000
set_option maxRecDepth 8000
open Go.Value renaming int→O
open Go.IntKind renaming i64→U
namespace Go.Proofs.Ytjcomcgpjjianaa
open Go.Ev
open Classical in
noncomputable def perOf(l:List Cr)(p:Nat×Nat):Nat:=if h: ∃K,oL (nx l) p K then Classical.choose h else 0
theorem ax.perOf{l:List Cr}(hs:ax l){p:Nat×Nat}(hp:bt l p):oL (nx l) p (perOf l p)/\perOf l p<=4*l.length:=by
 obtain⟨k,h1,h2⟩:=hs.per hp
 have hx: ∃K,oL (nx l) p K:=⟨k,h2⟩
 have h3:oL (nx l) p (Proofs.Ytjcomcgpjjianaa.perOf l p):=by
  unfold Proofs.Ytjcomcgpjjianaa.perOf
  rw[dif_pos hx]
  exact Fm hx
 exact⟨h3,by rw[h3.same h2];exact h1⟩
def dV(l:List Cr)(p:Nat×Nat):Bool:=match l[p.1]? with|some x=>sW l x p.2|none=>false
noncomputable def iX(l:List Cr)(loops:Int)(m:Rd):Option (List Cr×Int):=if kY l m=true then(if perOf l (m.ac.toNat,m.ap.toNat)=1 then rL l loops [m.ac.toNat]else none)else none
noncomputable def iM(l:List Cr)(loops:Int)(m:Rd):Option (List Cr×Int):=if kY l m=true then
 if perOf l (m.ac.toNat,m.ap.toNat)=2 then
  if¬m.ac.toNat=(nx l (m.ac.toNat,m.ap.toNat)).1 then
   if dV l (m.ac.toNat,m.ap.toNat)=true then rL l loops [m.ac.toNat,(nx l (m.ac.toNat,m.ap.toNat)).1]else none
  else none
 else none
 else none
theorem cd.lift{S G T':AH}{n na:Nat}{l':List Cr}{lp':Int}(hG:cP G)(h:cd (S++G) n na (some (l',lp')) (.val (.tuple #[]) T')):cd S n na (some (l',lp')) (.val (.tuple #[]) T'):=by
 obtain⟨S',na',h1,h2,h3,h4,h5,h6⟩:=h
 cases h1
 rw[Ez]at h3
 refine⟨T',na',rfl,h2,by omega,?_,fun k k1 k2 k3=> ?_,fun k k1=> ?_⟩
 ·rcases h4 with h|h|h
  ·exact .inl h
  ·exact .inr (.inl h)
  ·rw[Ez]at h;exact .inr (.inr (by omega))
 ·rw[h5 k (by rw[Ez];omega) k2 k3,ag k1]
 ·rcases h6 k k1 with ⟨a,b⟩|h
  ·by_cases hk:k<S.length
   ·exact .inl ⟨hk,by rw[b,ag hk]⟩
   ·refine .inr ?_
    obtain⟨j,rfl⟩: ∃j,k=S.length+j:=⟨k-S.length,by omega⟩
    rw[b,aq];exact cQ (hG.at j) _
  ·exact .inr h
theorem cd.ends{fn:Func}{S T':AH}{n na:Nat}{l':List Cr}{lp':Int}{a:Env}(hres:fn.results= #[])(h:cd S n na (some (l',lp')) (.val (.tuple #[]) T')):ij Try.prog fn S (cd S n na (some (l',lp'))) .ret a T':=by
 have h':=h
 obtain⟨S',na',h1,h2,h3,h4,h5,h6⟩:=h
 cases h1
 exact⟨_,h',Ends.own (by simp only[fg,hres]) h3 (Bel.junk _) h6⟩
theorem cd.tail{fn:Func}{S G:AH}{n na:Nat}{res:Option (List Cr×Int)}{r:OpR}(hres:fn.results= #[])(hG:cP G)(h:cd (S++G) n na res r):
 (∃T',r= .val (.tuple #[]) T'/\(S++G).length<=T'.length/\ ∀a,ij Try.prog fn S (cd S n na res) .ret a T')\/(r= .pan (bf 5) (S++G)/\ ∀a,ij Try.prog fn S (cd S n na res) (.panic (bf 5)) a (S++G)):=by
 cases res with
 |none=>exact .inr ⟨h,fun a=>⟨.pan (bf 5) S,rfl,Ends.DL rfl⟩⟩
 |some x=>
  obtain⟨l',lp'⟩:=x
  have h':=h
  obtain⟨S',na',h1,_,h3,_⟩:=h
  subst h1
  exact .inl ⟨S',rfl,h3,fun a=>cd.ends hres (cd.lift hG h')⟩
theorem bs26_1(H:AH)(a:Int):aQ Try.prog H 26 1 [(0,O U a)]=some (.slice (some ⟨H.length,0,none⟩) 1 1,H++[.cells [O U a] 3]):=by kernel_rfl
theorem bs26_2(H:AH)(a b:Int):aQ Try.prog H 26 2 [(0,O U a),(1,O U b)]=some (.slice (some ⟨H.length,0,none⟩) 2 2,H++[.cells [O U a,O U b] 3]):=by kernel_rfl
theorem pU{l:List Cr}{m:Rd}(h:kY l m=true): ∃c q:Nat,m.ac=c/\m.ap=q/\bt l (c,q):=by
 unfold kY atB at h
 simp only[EC,decide_eq_true_eq]at h
 obtain⟨_,⟨⟨h1,h2⟩,h3⟩,h4⟩:=h
 exact⟨m.ac.toNat,m.ap.toNat,by omega,by omega,by simp only;omega,by simp only;omega⟩
theorem CU(S:AH)(n na:Nat)(l:List Cr)(loops:Int)(hd:DrO S n na l loops)(hs:ax l)(hl:l.length<=200)(hlo:0<=loops/\loops<=200)(m:Rd):
 ACE Try.prog 43 [.pointer (some ⟨n,0,none⟩),m.val] S (cd S n na (iX l loops m)):=by
 obtain⟨kind,arc,sign,up,ac,ap,tc,tp⟩:=m
 refine ACE.o 20 f43 ?_
 refine X.seq (X.g ?_ (by simp[go_sem,Rd.val];rfl))
 have hbox:cP [AO.cells [O U kind,O U arc,O U sign,.bool up,O U ac,O U ap,O U tc,O U tp] 79]:=rfl
 obtain⟨r,hr,hac⟩:=xx (S++[.cells [O U kind,O U arc,O U sign,.bool up,O U ac,O U ap,O U tc,O U tp] 79]) _ l loops hd.is.app ⟨kind,arc,sign,up,ac,ap,tc,tp⟩
 cases hb:kY l ⟨kind,arc,sign,up,ac,ap,tc,tp⟩
 ·rw[hb]at hr
  simp only[oB,EO,if_false]at hr
  subst hr
  have hF:iX l loops ⟨kind,arc,sign,up,ac,ap,tc,tp⟩=none:=by unfold iX;rw[hb];rfl
  rw[hF]
  refine X.seq (X.region (Xl.s ?_))
  exact Xl.p (Sc b69 hac) ⟨.pan (bf 5) S,rfl,Ends.DL rfl⟩
 ·rw[hb]at hr
  simp only[oB,if_true]at hr
  subst hr
  obtain⟨c,q,e1,e2,hp⟩:=pU hb
  simp only at e1 e2
  subst e1;subst e2
  refine X.seq (X.region (Xl.s ?_))
  refine Xl.o (Sc b69 hac) ?_
  refine Xl.nil ?_
  obtain⟨hK,hK2⟩:=hs.perOf hp
  have hF:iX l loops ⟨kind,arc,sign,up,c,q,tc,tp⟩=if perOf l (c,q)=1 then rL l loops [c]else none:=by unfold iX;rw[hb,if_pos rfl];rfl
  rw[hF]
  generalize perOf l (c,q)=K at hK hK2
  obtain⟨r,⟨v,G,rfl,⟨n',C,hv,hrd⟩,hj,hbv⟩,hac2⟩:=kP (S++[.cells [O U kind,O U arc,O U sign,.bool up,O U c,O U q,O U tc,O U tp] 79]) (.pointer (some ⟨n,0,none⟩)) l loops hd.is.app (by omega) hs (c,q) hp K hK hK2
  subst hv
  rw[gi]at hac2
  refine X.seq (X.region (Xl.s ?_))
  refine Xl.o (Sc b67 hac2) ?_
  by_cases h1:K=1
  ·subst h1
   rw[if_pos rfl]
   refine Xl.s ?_
   refine Xl.o (Sc b16 (aZ _ _)) ?_
   refine Xl.nil ?_
   refine X.region (Xl.s ?_ (by simp[go_sem,bs26_1];rfl))
   have hG2:cP (.cells [O U kind,O U arc,O U sign,.bool up,O U c,O U q,O U tc,O U tp] 79::(G++[.cells [O U c] 3])):=hbox.app (hj.app rfl)
   have hsl2:cy (S++ .cells [O U kind,O U arc,O U sign,.bool up,O U c,O U q,O U tc,O U tp] 79::(G++[.cells [O U c] 3])) (.slice (some ⟨S.length+(G.length+1),0,none⟩) 1 1) ([c].map fun c:Nat=>(c:Int)):=by
    refine .inr ⟨_,0,1,rfl,?_⟩
    rw[aF,gF,ed];rfl
   obtain⟨r,hr,hac3⟩:=ur _ n na l loops (hd.more _) hs hl (by have:=hp.1;simp only at this;omega) hlo _ [c] hsl2 (by simp)
   rcases cd.tail (fn:=Try.f43) rfl hG2 hr with ⟨T',rfl,_,he⟩|⟨rfl,he⟩
   ·refine Xl.o (Sc b70 hac3) ?_
    exact Xl.nil (he _)
   ·exact Xl.p (Sc b70 hac3) (he _)
  ·rw[if_neg h1]
   have h1':((K:Int)==1)=false:=by simp;omega
   refine Xl.s ?_ (by simp[go_sem,h1'];rfl)
   exact Xl.p (Sc b16 (aM _ _)) ⟨.pan (bf 5) S,rfl,Ends.DL rfl⟩
theorem tI{H:AH}{d:Value}{l:List Cr}{loops:Int}(hd:ig H d l loops)(hl:l.length<4611686018427387904){p:Nat×Nat}(hp:bt l p):
 AC Try.prog 77 [d,.agg #[O U p.1,O U p.2]] H (.val (.bool (dV l p)) H):=by
 obtain⟨x,hx,_⟩:=ax.mem hp
 have:=level_ok H d l loops hd hl p.1 p.2 x hx hp.2
 have e:dV l p=sW l x p.2:=by unfold dV;rw[hx]
 rw[e];exact this
theorem DA(S:AH)(n na:Nat)(l:List Cr)(loops:Int)(hd:DrO S n na l loops)(hs:ax l)(hl:l.length<=200)(hlo:0<=loops/\loops<=200)(m:Rd):
 ACE Try.prog 45 [.pointer (some ⟨n,0,none⟩),m.val] S (cd S n na (iM l loops m)):=by
 obtain⟨kind,arc,sign,up,ac,ap,tc,tp⟩:=m
 refine ACE.o 44 f45 ?_
 refine X.seq (X.g ?_ (by simp[go_sem,Rd.val];rfl))
 have hbox:cP [AO.cells [O U kind,O U arc,O U sign,.bool up,O U ac,O U ap,O U tc,O U tp] 79]:=rfl
 obtain⟨r,hr,hac⟩:=xx (S++[.cells [O U kind,O U arc,O U sign,.bool up,O U ac,O U ap,O U tc,O U tp] 79]) _ l loops hd.is.app ⟨kind,arc,sign,up,ac,ap,tc,tp⟩
 cases hb:kY l ⟨kind,arc,sign,up,ac,ap,tc,tp⟩
 ·rw[hb]at hr
  simp only[oB,EO,if_false]at hr
  subst hr
  have hF:iM l loops ⟨kind,arc,sign,up,ac,ap,tc,tp⟩=none:=by unfold iM;rw[hb];rfl
  rw[hF]
  refine X.seq (X.region (Xl.s ?_))
  exact Xl.p (Sc b69 hac) ⟨.pan (bf 5) S,rfl,Ends.DL rfl⟩
 ·rw[hb]at hr
  simp only[oB,if_true]at hr
  subst hr
  obtain⟨c,q,e1,e2,hp⟩:=pU hb
  simp only at e1 e2
  subst e1;subst e2
  refine X.seq (X.region (Xl.s ?_))
  refine Xl.o (Sc b69 hac) ?_
  refine Xl.nil ?_
  obtain⟨hK,hK2⟩:=hs.perOf hp
  have hF:iM l loops ⟨kind,arc,sign,up,c,q,tc,tp⟩=if perOf l (c,q)=2 then if¬c=(nx l (c,q)).1 then if dV l (c,q)=true then rL l loops [c,(nx l (c,q)).1]else none else none else none:=by
   unfold iM;rw[hb,if_pos rfl];rfl
  rw[hF]
  generalize perOf l (c,q)=K at hK hK2
  obtain⟨r,⟨v,G,rfl,⟨n',C,hv,hrd⟩,hj,hbv⟩,hac2⟩:=kP (S++[.cells [O U kind,O U arc,O U sign,.bool up,O U c,O U q,O U tc,O U tp] 79]) (.pointer (some ⟨n,0,none⟩)) l loops hd.is.app (by omega) hs (c,q) hp K hK hK2
  subst hv
  rw[gi]at hac2 hrd
  refine X.seq (X.region (Xl.s ?_))
  refine Xl.o (Sc b67 hac2) ?_
  refine Xl.s (Xl.nil ?_)
  by_cases h1:K=2
  ·subst h1
   rw[if_pos rfl]
   have hpn:=hs.nx_pl _ hp
   have hrd':ak (S++ .cells [O U kind,O U arc,O U sign,.bool up,O U c,O U q,O U tc,O U tp] 79::G) n' 0 4=some [O U c,O U q,O U (nx l (c,q)).1,O U (nx l (c,q)).2]:=by
    rw[EH]at hrd;exact hrd
   generalize nx l (c,q)=p1 at hrd' hpn
   obtain⟨c1,q1⟩:=p1
   have k0:aj (S++ .cells [O U kind,O U arc,O U sign,.bool up,O U c,O U q,O U tc,O U tp] 79::G) n' 0=some (O U c):=by simpa using cG hrd' (j:=0) (by omega)
   have k2:aj (S++ .cells [O U kind,O U arc,O U sign,.bool up,O U c,O U q,O U tc,O U tp] 79::G) n' 2=some (O U c1):=by simpa using cG hrd' (j:=2) (by omega)
   have hne:((c:Int)!=(c1:Int))= !decide (c=c1):=by
    by_cases h:c=c1
    ·subst h;simp
    ·have: ¬(c:Int)=(c1:Int):=by omega
     simp[h,this]
   by_cases h2:c=c1
   ·rw[if_neg (by simp;exact h2)]
    have hne':((c:Int)!=(c1:Int))=false:=by rw[hne];simp[h2]
    refine X.seq (X.drawnBy (fun i=>i==18||i==20) follows (by decide+kernel) (Xd.s ?_ (by simp[go_sem,k0,k2,hne',du];rfl)))
    exact Xd.pan (by simp[go_sem]) (Sc b16 (aM _ _)) rfl ⟨.pan (bf 5) S,rfl,Ends.DL rfl⟩
   ·rw[if_pos (by simp;exact h2)]
    have hne':((c:Int)!=(c1:Int))=true:=by rw[hne];simp[h2]
    refine X.seq (X.drawnBy (fun i=>i==18||i==20) follows (by decide+kernel) (Xd.s ?_ (by simp[go_sem,k0,k2,hne',du];rfl)))
    refine Xd.t (Sc b77 (tI hd.is.app (by omega) hp)) ?_
    cases h3:dV l (c,q)
    ·refine Xd.s ?_
     exact Xd.pan (by simp[go_sem]) (Sc b16 (aM _ _)) rfl ⟨.pan (bf 5) S,rfl,Ends.DL rfl⟩
    ·refine Xd.s ?_
     refine Xd.t (Sc b16 (aZ _ _)) ?_
     refine Xd.nil ?_
     rw[if_pos rfl]
     refine X.drawnBy (fun i=>false) follows (by decide+kernel) (Xd.s ?_ (by simp[go_sem,k0,k2,bs26_2,du];rfl))
     have hG2:cP (.cells [O U kind,O U arc,O U sign,.bool up,O U c,O U q,O U tc,O U tp] 79::(G++[.cells [O U c,O U c1] 3])):=hbox.app (hj.app rfl)
     have hsl2:cy (S++ .cells [O U kind,O U arc,O U sign,.bool up,O U c,O U q,O U tc,O U tp] 79::(G++[.cells [O U c,O U c1] 3])) (.slice (some ⟨S.length+(G.length+1),0,none⟩) 2 2) ([c,c1].map fun c:Nat=>(c:Int)):=by
      refine .inr ⟨_,0,2,rfl,?_⟩
      rw[aF,gF,ed];rfl
     obtain⟨r,hr,hac3⟩:=ur _ n na l loops (hd.more _) hs hl (by have:=hp.1;simp only at this;omega) hlo _ [c,c1] hsl2 (by simp)
     rcases cd.tail (fn:=Try.f45) rfl hG2 hr with ⟨T',rfl,hle,he⟩|⟨rfl,he⟩
     ·refine Xd.eff rfl (by simp[go_sem]) (Sc b70 hac3) ?_ ?_
      ·exact hle
      ·exact Xd.nil (he _)
     ·exact Xd.pan (by simp[go_sem]) (Sc b70 hac3) rfl (he _)
  ·rw[if_neg h1]
   have h1':((K:Int)==2)=false:=by simp;omega
   refine X.seq (X.drawnBy (fun i=>i==18||i==20) follows (by decide+kernel) (Xd.s ?_ (by simp[go_sem,h1',du];rfl)))
   exact Xd.pan (by simp[go_sem]) (Sc b16 (aM _ _)) rfl ⟨.pan (bf 5) S,rfl,Ends.DL rfl⟩
theorem oR.app{H G:AH}{v:Value}{L:List (Nat×Nat)}(h:oR H v L):oR (H++G) v L:=by
 obtain⟨n,C,h1,h2⟩:=h
 exact⟨n,C,h1,aD h2⟩
def plV(p:Nat×Nat):Value:= .agg #[O U p.1,O U p.2]
def rf(f:Nat×Nat->Bool):Nat->List (Nat×Nat)->Int
 |_,[]=> -1
 |j,x::r=>if f x=true then(j:Int)else rf f (j+1) r
theorem ub(f:Nat×Nat->Bool): ∀(L:List (Nat×Nat)) (j:Nat),decide (0<=rf f j L)=L.any f
 | [],_=>rfl
 |x::L,j=>by
  rw[rf,List.any_cons]
  cases h:f x
  ·rw[Gm,<-ub f L (j+1)];rfl
  ·simp
theorem yh(H:AH)(v:Value)(L:List (Nat×Nat))(hs:oR H v L)(hl:L.length<1000000000)(g:FuncId)(hg:aO Try.prog g)(cp:Value)(f:Nat×Nat->Bool)(hf: ∀x∈L,AC Try.prog g [plV x,cp] H (.val (.bool (f x)) H)):AC Try.prog 99 [v,.func (.func g) #[] #[cp]] H (.val (O U (rf f 0 L)) H):=by
 obtain⟨n',C,rfl,hrd⟩:=hs
 refine AC.o 19 f99 fun σ w hr=> ?_
 refine W.seq (W.g ?_)
 refine W.seq (W.seq (W.g ?_))
 refine W.block ?_
 refine W.loop (fun m E h=> ∃j,m=L.length-j/\j<=L.length/\ae E 0= .slice (some ⟨n',0,none⟩) L.length C/\ae E 1= .func (.func g) #[] #[cp]/\ae E 7=O U L.length/\ae E 8=O U j/\h=H/\rf f 0 L=rf f j (L.drop j)) L.length
  ⟨0,by omega,by omega,by simp[ae],by simp[ae],by simp[ae],by simp[ae],rfl,rfl⟩ ?_
 rintro m E h ⟨j,rfl,hj,e0,e1,e7,e8,rfl,hpl⟩
 by_cases hlt:j<L.length
 ·have hlt':(j:Int)<(L.length:Int):=by omega
  have hx:L[j]? =some L[j]:=Ex hlt
  have hm:L[j]∈L:=FE hlt
  rw[E7 hlt]at hpl
  generalize L[j]=x at hx hpl hm
  obtain⟨n2,C2,h1,h2⟩:=oR.read ⟨n',C,rfl,hrd⟩ hx
  cases h1
  refine W.seq (W.g ?_ (by simp[go_sem,e7,e8,hlt'];rfl))
  refine W.seq (W.ct (W.skip ?_))
  refine W.seq (W.block ?_)
  refine W.seq (W.g ?_ (by simp[go_sem,e8];rfl))
  rw[rf]at hpl
  refine W.seq (W.region (Wl.s ?_ (by simp[go_sem,e0,e1,hlt',h2];rfl)))
  refine Wl.o (bO.call (first:= #[]) (cap:= #[cp]) rfl (by simp[go_sem]) hg (hf x hm)) ?_
  refine Wl.nil ?_
  cases g3:f x
  ·refine W.cf (W.skip ?_)
   refine W.g ?_ (by simp[go_sem,e8];rfl)
   refine⟨L.length-(j+1),by omega,j+1,rfl,by omega,by simp[ae,e0],by simp[ae,e1],by simp[ae,e7],?_,rfl,?_⟩
   ·simp only[ae,if_true];rw[aA (by omega)]
   ·rw[hpl,g3];rfl
  ·refine W.ct ?_
   refine W.seq (W.g ?_)
   rw[hpl,g3,if_pos rfl]
   exact W.ret (Ends.still (by simp[go_sem]) rfl)
 ·have hjl:j=L.length:=by omega
  subst hjl
  refine W.seq (W.g ?_ (by simp[go_sem,e7,e8];rfl))
  refine W.seq (W.cf (W.exit ?_))
  simp only[AX.then,AX.inBlock,if_true]
  refine W.seq (W.g ?_)
  rw[hpl,Fu,rf]
  exact W.ret (Ends.still (by simp[go_sem]) rfl)
theorem mc(H:AH)(v:Value)(L:List (Nat×Nat))(hs:oR H v L)(hl:L.length<1000000000)(g:FuncId)(hg:aO Try.prog g)(cp:Value)(f:Nat×Nat->Bool)(hf: ∀x∈L,AC Try.prog g [plV x,cp] H (.val (.bool (f x)) H)):AC Try.prog 78 [v,.func (.func g) #[] #[cp]] H (.val (.bool (L.any f)) H):=by
 refine AC.o 9 f78 fun σ w hr=> ?_
 refine W.seq (W.g ?_)
 refine W.seq (W.region (Wl.s ?_))
 refine Wl.o (Sc b99 (yh _ _ L hs hl g hg cp f hf)) ?_
 refine Wl.s (Wl.nil ?_)
 rw[<-ub f L 0]
 exact W.ret (Ends.still (by simp[go_sem]) rfl)
theorem Cp(H:AH)(d:Value)(l:List Cr)(loops:Int)(hd:ig H d l loops)(hl:l.length<100000)(b:Nat)(hb:aj H b 0=some d)(p:Nat×Nat)(hp:bt l p):
 AC Try.prog 79 [plV p,.pointer (some ⟨b,0,none⟩)] H (.val (.bool (dV l p&&decide (p.2%2=1))) H):=by
 have hq:((p.2:Int).tmod 2==1)=decide (p.2%2=1):=by
  have:(p.2:Int).tmod 2=((p.2%2:Nat):Int):=rfl
  rw[this,FU];simp;omega
 refine AC.o 13 f79 fun σ w hr=> ?_
 refine W.seq (W.g ?_ (by simp[go_sem,plV];rfl))
 refine W.seq (W.region (Wl.s ?_ (by simp[go_sem,aw hb];rfl)))
 refine Wl.o (Sc b77 (tI hd.app (by omega) hp)) ?_
 cases h:dV l p
 ·refine Wl.s (Wl.nil ?_)
  exact W.ret (Ends.quiet (by simp[go_sem]) rfl)
 ·refine Wl.s (Wl.nil ?_) (by simp[go_sem,hq];rfl)
  exact W.ret (Ends.quiet (by simp[go_sem]) rfl)
theorem Do(H:AH)(d:Value)(l:List Cr)(loops:Int)(hd:ig H d l loops)(hl:l.length<100000)(b:Nat)(hb:aj H b 0=some d)(p:Nat×Nat)(hp:bt l p):
 AC Try.prog 80 [plV p,.pointer (some ⟨b,0,none⟩)] H (.val (.bool (dV l p&&decide (p.2%2=0))) H):=by
 have hq:((p.2:Int).tmod 2==0)=decide (p.2%2=0):=by
  have:(p.2:Int).tmod 2=((p.2%2:Nat):Int):=rfl
  rw[this,FU];simp;omega
 refine AC.o 13 f80 fun σ w hr=> ?_
 refine W.seq (W.g ?_ (by simp[go_sem,plV];rfl))
 refine W.seq (W.region (Wl.s ?_ (by simp[go_sem,aw hb];rfl)))
 refine Wl.o (Sc b77 (tI hd.app (by omega) hp)) ?_
 cases h:dV l p
 ·refine Wl.s (Wl.nil ?_)
  exact W.ret (Ends.quiet (by simp[go_sem]) rfl)
 ·refine Wl.s (Wl.nil ?_) (by simp[go_sem,hq];rfl)
  exact W.ret (Ends.quiet (by simp[go_sem]) rfl)
theorem Dt(H:AH)(b nc C:Nat)(nxt:List Cr)(hb:aj H b 0=some (.slice (some ⟨nc,0,none⟩) nxt.length C))(hlt:nc<H.length)(hc:at_ H nc= .cells (aE nxt) 73)(p:Nat×Nat)(hp:bt nxt p)(v:Int):
 AC Try.prog 81 [plV p,O U v,.pointer (some ⟨b,0,none⟩)] H (.val (.tuple #[]) (H.set nc (.cells (aE (bE nxt p v)) 73))):=by
 obtain⟨c,q⟩:=p
 have hset:=gD nxt c q v hp
 have h1:(c:Int)<nxt.length:=by have:=hp.1;simp only at this;omega
 have h2:(q:Int)<4:=by have:=hp.2;simp only at this;omega
 have hfl:=dy nxt
 have hfo:c*5+q+1<=(aE nxt).length:=by have:=hp.1;have:=hp.2;simp only at*;omega
 have hatG: ∀G,at_ (H++G) nc= .cells (aE nxt) 73:=fun G=>by rw[ag hlt];exact hc
 have hsetG: ∀G o,(H++G).set nc o=H.set nc o++G:=fun G o=>dO hlt G o
 refine AC.o 14 f81 fun σ w hr=> ?_
 refine W.seq (W.g ?_ (by simp[go_sem,plV];rfl))
 refine W.drawnBy (fun i=>false) follows (by decide+kernel) (Dl.s (Dl.nil ?_) (by simp[go_sem,aw hb,h1,h2,hatG,hsetG,hfo,hset,du];rfl))
 refine⟨.tuple #[],H.set nc (.cells (aE (bE nxt (c,q) v)) 73),_,rfl,rfl,rfl,by simp,Bel.junk _,fun k hk=> ?_⟩
 rw[EA]at hk
 by_cases e:nc=k
 ·subst e;rw[au hk];exact .inr (bC.plain (cq _))
 ·exact .inl ⟨hk,af e _⟩
theorem C5(H:AH)(v:Value)(L:List (Nat×Nat))(hs:oR H v L)(hl:L.length<1000000000)(y:Nat×Nat):AC Try.prog 97 [v,plV y] H (.val (O U (rf (fun x=>decide (y=x)) 0 L)) H):=by
 obtain⟨n',C,rfl,hrd⟩:=hs
 refine AC.o 19 f97 fun σ w hr=> ?_
 refine W.seq (W.g ?_ (by simp[go_sem,plV];rfl))
 refine W.seq (W.seq (W.g ?_))
 refine W.block ?_
 refine W.loop (fun m E h=> ∃j,m=L.length-j/\j<=L.length/\ae E 0= .slice (some ⟨n',0,none⟩) L.length C/\ae E 3= .pointer (some ⟨H.length,0,none⟩)/\ae E 7=O U L.length/\ae E 8=O U j/\h=H++[.cells [O U y.1,O U y.2] 77]/\rf (fun x=>decide (y=x)) 0 L=rf (fun x=>decide (y=x)) j (L.drop j)) L.length
  ⟨0,by omega,by omega,by simp[ae],by simp[ae],by simp[ae],by simp[ae],rfl,rfl⟩ ?_
 rintro m E h ⟨j,rfl,hj,e0,e3,e7,e8,rfl,hpl⟩
 by_cases hlt:j<L.length
 ·have hlt':(j:Int)<(L.length:Int):=by omega
  have hx:L[j]? =some L[j]:=Ex hlt
  rw[E7 hlt]at hpl
  generalize L[j]=x at hx hpl
  obtain⟨n2,C2,h1,h2⟩:=oR.read ⟨n',C,rfl,hrd⟩ hx
  cases h1
  have hde:((y.1:Int)==(x.1:Int)&&(y.2:Int)==(x.2:Int))=decide (y=x):=by
   rw[FU]
   simp only[EC,beq_iff_eq,decide_eq_true_eq]
   constructor
   ·rintro⟨a,b⟩;exact Gh (by omega) (by omega)
   ·rintro rfl;exact⟨rfl,rfl⟩
  refine W.seq (W.g ?_ (by simp[go_sem,e7,e8,hlt'];rfl))
  refine W.seq (W.ct (W.skip ?_))
  refine W.seq (W.block ?_)
  refine W.seq (W.g ?_ (by simp[go_sem,e8];rfl))
  rw[rf]at hpl
  cases g:decide (y=x)
  ·rw[g]at hde hpl
   refine W.seq (W.drawnBy (fun i=>false) follows (by decide+kernel) (Dl.s (Dl.nil ?_) (by simp[go_sem,e0,e3,hlt',aD h2,hde,du];rfl)))
   refine W.cf (W.skip ?_) (by simp[go_sem,hde])
   refine W.g ?_ (by simp[go_sem,e8];rfl)
   refine⟨L.length-(j+1),by omega,j+1,rfl,by omega,by simp[ae,e0],by simp[ae,e3],by simp[ae,e7],?_,rfl,?_⟩
   ·simp only[ae,if_true];rw[aA (by omega)]
   ·rw[hpl];rfl
  ·rw[g]at hde hpl
   refine W.seq (W.drawnBy (fun i=>false) follows (by decide+kernel) (Dl.s (Dl.nil ?_) (by simp[go_sem,e0,e3,hlt',aD h2,hde,du];rfl)))
   refine W.ct ?_ (by simp[go_sem,hde])
   refine W.seq (W.g ?_)
   rw[hpl,if_pos rfl]
   exact W.ret (Ends.quiet (by simp[go_sem]) rfl)
 ·have hjl:j=L.length:=by omega
  subst hjl
  refine W.seq (W.g ?_ (by simp[go_sem,e7,e8];rfl))
  refine W.seq (W.cf (W.exit ?_))
  simp only[AX.then,AX.inBlock,if_true]
  refine W.seq (W.g ?_)
  rw[hpl,Fu,rf]
  exact W.ret (Ends.quiet (by simp[go_sem]) rfl)
theorem isInP_ok(H:AH)(v:Value)(L:List (Nat×Nat))(hs:oR H v L)(hl:L.length<1000000000)(y:Nat×Nat):AC Try.prog 74 [v,plV y] H (.val (.bool (L.any fun x=>decide (y=x))) H):=by
 refine AC.o 9 f74 fun σ w hr=> ?_
 refine W.seq (W.g ?_ (by simp[go_sem,plV];rfl))
 refine W.seq (W.region (Wl.s ?_))
 refine Wl.o (Sc b97 (C5 _ _ L hs.app hl y)) ?_
 refine Wl.s (Wl.nil ?_)
 rw[<-ub _ L 0]
 exact W.ret (Ends.quiet (by simp[go_sem]) rfl)
end Go.Proofs.Ytjcomcgpjjianaa
