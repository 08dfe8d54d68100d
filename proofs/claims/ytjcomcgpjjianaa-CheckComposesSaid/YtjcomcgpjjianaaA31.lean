import Derived.Test.YtjcomcgpjjianaaA19
import Derived.Test.YtjcomcgpjjianaaA30
set_option linter.all false
set_option maxHeartbeats 16000000
set_option maxRecDepth 8000
open Go.Value renaming int→O
open Go.IntKind renaming i64→U
namespace Go.Proofs.Ytjcomcgpjjianaa
open Go.Ev
theorem Bel.func0(k:Nat)(g:Fn):Bel k (.func g #[] #[]):=by
 intro σ v' hv
 cases hv with
 |func _ hf hf' hc hc'=>
  exact .func _ hf (fun i v v' h=>by simp at h) hc (fun i v v' h=>by simp at h)
theorem mu117(H:AH)(n:Nat)(a:Int)(v:Value):cR Try.prog H 117 (.map (some n)) (O U a) v=(match at_ H n with
 | .map es=>match bP Try.prog 3 (O U a) es 0 with
   |some (some (i,_))=>if Instr.sameBits 10000 ((es[i]?.map (·.1)).getD (O U a)) (O U a)=true then some (H.set n (.map (es.set i (O U a,v))))else none
   |some none=>some (H.set n (.map (es++[(O U a,v)])))
   |none=>none
 |_=>none):=by kernel_rfl
theorem vu(H:AH)(n:Nat)(a:Int):cU Try.prog H 117 (.map (some n)) (O U a) true=(match at_ H n with
 | .map es=>match bP Try.prog 3 (O U a) es 0 with
   |some (some (_,v))=>some (.tuple #[v,.bool true])
   |some none=>some (.tuple #[.nilFunc,.bool false])
   |none=>none
 |_=>none):=by kernel_rfl
noncomputable def fZ(l:List Cr)(loops:Int)(m:Rd):Option (List Cr×Int):=if m.kind=1 then m5 l loops m else if m.kind=2 then iX l loops m else if m.kind=3 then dU l loops m else if m.kind=4 then iM l loops m else if m.kind=5 then lC l loops m else none
theorem cd.D4{fn:Func}{S G:AH}{n na:Nat}{res:Option (List Cr×Int)}{r:OpR}(hres:fn.results= #[])(hn:n<S.length)(hO:Ow S n na (S++G) na)(h:cd (S++G) n na res r):
 (∃T',r= .val (.tuple #[]) T'/\ ∀a,ij Try.prog fn S (cd S n na res) .ret a T')\/(r= .pan (bf 5) (S++G)/\ ∀a,ij Try.prog fn S (cd S n na res) (.panic (bf 5)) a (S++G)):=by
 cases res with
 |none=>exact .inr ⟨h,fun a=>⟨.pan (bf 5) S,rfl,Ends.DL rfl⟩⟩
 |some x=>
  obtain⟨l',lp'⟩:=x
  obtain⟨T',na',h1,h2,h3⟩:=h.ow
  exact .inl ⟨T',h1,fun a=>cd.ends hres ((hO.trans h3 hn).moveR h2)⟩
theorem move_ok(S:AH)(n na:Nat)(l:List Cr)(loops:Int)(hd:DrO S n na l loops)(hs:ax l)(hl:l.length<=200)(hlo:0<=loops/\loops<=200)(m:Rd):
 ACE Try.prog 25 [.pointer (some ⟨n,0,none⟩),m.val] S (cd S n na (fZ l loops m)):=by
 obtain⟨kind,arc,sign,up,ac,ap,tc,tp⟩:=m
 have hn:=hd.1
 refine ACE.o 22 f25 ?_
 refine X.seq (X.g ?_ (by simp[go_sem,Rd.val];rfl))
 refine X.seq (X.g ?_ (by simp[go_sem,cK,mu117,bP,px];rfl))
 have hO:Ow S n na (S++[.cells [O U kind,O U arc,O U sign,.bool up,O U ac,O U ap,O U tc,O U tp] 79,
  .map [(O U 1,.func (.func 42) #[] #[]),(O U 2,.func (.func 43) #[] #[]),(O U 3,.func (.func 44) #[] #[]),(O U 4,.func (.func 45) #[] #[]),(O U 5,.func (.func 46) #[] #[])]]) na:=by
  refine Ow.app S n na fun m=> ?_
  match m with
  | 0=>exact bC.plain rfl
  | 1=>
    refine bC.Ek fun p hp=> ?_
    simp only[EG,EK,or_false]at hp
    rcases hp with rfl|rfl|rfl|rfl|rfl<;>exact Bel.func0 _ _
  |m+2=>exact cQ rfl _
 have hcase:kind=1\/kind=2\/kind=3\/kind=4\/kind=5\/(¬kind=1/\ ¬kind=2/\ ¬kind=3/\ ¬kind=4/\ ¬kind=5):=by omega
 rcases hcase with rfl|rfl|rfl|rfl|rfl|⟨h1,h2,h3,h4,h5⟩
 ·obtain⟨r,hr,hac⟩:=kink_ok _ n na l loops (hd.more _) hs hl hlo ⟨1,arc,sign,up,ac,ap,tc,tp⟩
  have hF:fZ l loops ⟨1,arc,sign,up,ac,ap,tc,tp⟩=m5 l loops ⟨1,arc,sign,up,ac,ap,tc,tp⟩:=by simp[fZ]
  rw[hF]
  refine X.seq (X.g ?_ (by simp[go_sem,vu,bP,px];rfl))
  refine X.seq (X.region (Xl.s ?_))
  refine Xl.o (Sc b16 (aZ _ _)) ?_
  refine Xl.nil ?_
  refine X.region (Xl.s ?_)
  rcases cd.D4 (fn:=Try.f25) rfl hn hO hr with ⟨T',rfl,he⟩|⟨rfl,he⟩
  ·refine Xl.o (bO.call (first:= #[]) (cap:= #[]) rfl (by simp[go_sem]) ⟨_,f42,rfl,rfl⟩ hac) ?_
   exact Xl.nil (he _)
  ·exact Xl.p (bO.call (first:= #[]) (cap:= #[]) rfl (by simp[go_sem]) ⟨_,f42,rfl,rfl⟩ hac) (he _)
 ·obtain⟨r,hr,hac⟩:=CU _ n na l loops (hd.more _) hs hl hlo ⟨2,arc,sign,up,ac,ap,tc,tp⟩
  have hF:fZ l loops ⟨2,arc,sign,up,ac,ap,tc,tp⟩=iX l loops ⟨2,arc,sign,up,ac,ap,tc,tp⟩:=by simp[fZ]
  rw[hF]
  refine X.seq (X.g ?_ (by simp[go_sem,vu,bP,px];rfl))
  refine X.seq (X.region (Xl.s ?_))
  refine Xl.o (Sc b16 (aZ _ _)) ?_
  refine Xl.nil ?_
  refine X.region (Xl.s ?_)
  rcases cd.D4 (fn:=Try.f25) rfl hn hO hr with ⟨T',rfl,he⟩|⟨rfl,he⟩
  ·refine Xl.o (bO.call (first:= #[]) (cap:= #[]) rfl (by simp[go_sem]) ⟨_,f43,rfl,rfl⟩ hac) ?_
   exact Xl.nil (he _)
  ·exact Xl.p (bO.call (first:= #[]) (cap:= #[]) rfl (by simp[go_sem]) ⟨_,f43,rfl,rfl⟩ hac) (he _)
 ·obtain⟨r,hr,hac⟩:=poke_ok _ n na l loops (hd.more _) hs hl hlo ⟨3,arc,sign,up,ac,ap,tc,tp⟩
  have hF:fZ l loops ⟨3,arc,sign,up,ac,ap,tc,tp⟩=dU l loops ⟨3,arc,sign,up,ac,ap,tc,tp⟩:=by simp[fZ]
  rw[hF]
  refine X.seq (X.g ?_ (by simp[go_sem,vu,bP,px];rfl))
  refine X.seq (X.region (Xl.s ?_))
  refine Xl.o (Sc b16 (aZ _ _)) ?_
  refine Xl.nil ?_
  refine X.region (Xl.s ?_)
  rcases cd.D4 (fn:=Try.f25) rfl hn hO hr with ⟨T',rfl,he⟩|⟨rfl,he⟩
  ·refine Xl.o (bO.call (first:= #[]) (cap:= #[]) rfl (by simp[go_sem]) ⟨_,f44,rfl,rfl⟩ hac) ?_
   exact Xl.nil (he _)
  ·exact Xl.p (bO.call (first:= #[]) (cap:= #[]) rfl (by simp[go_sem]) ⟨_,f44,rfl,rfl⟩ hac) (he _)
 ·obtain⟨r,hr,hac⟩:=DA _ n na l loops (hd.more _) hs hl hlo ⟨4,arc,sign,up,ac,ap,tc,tp⟩
  have hF:fZ l loops ⟨4,arc,sign,up,ac,ap,tc,tp⟩=iM l loops ⟨4,arc,sign,up,ac,ap,tc,tp⟩:=by simp[fZ]
  rw[hF]
  refine X.seq (X.g ?_ (by simp[go_sem,vu,bP,px];rfl))
  refine X.seq (X.region (Xl.s ?_))
  refine Xl.o (Sc b16 (aZ _ _)) ?_
  refine Xl.nil ?_
  refine X.region (Xl.s ?_)
  rcases cd.D4 (fn:=Try.f25) rfl hn hO hr with ⟨T',rfl,he⟩|⟨rfl,he⟩
  ·refine Xl.o (bO.call (first:= #[]) (cap:= #[]) rfl (by simp[go_sem]) ⟨_,f45,rfl,rfl⟩ hac) ?_
   exact Xl.nil (he _)
  ·exact Xl.p (bO.call (first:= #[]) (cap:= #[]) rfl (by simp[go_sem]) ⟨_,f45,rfl,rfl⟩ hac) (he _)
 ·obtain⟨r,hr,hac⟩:=slide_ok _ n na l loops (hd.more _) hs hl hlo ⟨5,arc,sign,up,ac,ap,tc,tp⟩
  have hF:fZ l loops ⟨5,arc,sign,up,ac,ap,tc,tp⟩=lC l loops ⟨5,arc,sign,up,ac,ap,tc,tp⟩:=by simp[fZ]
  rw[hF]
  refine X.seq (X.g ?_ (by simp[go_sem,vu,bP,px];rfl))
  refine X.seq (X.region (Xl.s ?_))
  refine Xl.o (Sc b16 (aZ _ _)) ?_
  refine Xl.nil ?_
  refine X.region (Xl.s ?_)
  rcases cd.D4 (fn:=Try.f25) rfl hn hO hr with ⟨T',rfl,he⟩|⟨rfl,he⟩
  ·refine Xl.o (bO.call (first:= #[]) (cap:= #[]) rfl (by simp[go_sem]) ⟨_,f46,rfl,rfl⟩ hac) ?_
   exact Xl.nil (he _)
  ·exact Xl.p (bO.call (first:= #[]) (cap:= #[]) rfl (by simp[go_sem]) ⟨_,f46,rfl,rfl⟩ hac) (he _)
 ·have hF:fZ l loops ⟨kind,arc,sign,up,ac,ap,tc,tp⟩=none:=by simp[fZ,h1,h2,h3,h4,h5]
  rw[hF]
  have b1:(kind==1)=false:=by simpa using h1
  have b2:(kind==2)=false:=by simpa using h2
  have b3:(kind==3)=false:=by simpa using h3
  have b4:(kind==4)=false:=by simpa using h4
  have b5:(kind==5)=false:=by simpa using h5
  refine X.seq (X.g ?_ (by simp[go_sem,vu,bP,px,b1,b2,b3,b4,b5];rfl))
  refine X.seq (X.region (Xl.s ?_))
  exact Xl.p (Sc b16 (aM _ _)) ⟨.pan (bf 5) S,rfl,Ends.DL rfl⟩
structure Good(l:List Cr)(loops:Int):Prop where
 s:ax l
 n:l.length<=200
 lo:0<=loops/\loops<=200
theorem Am{l:List Cr}{loops:Int}(h:Good l loops){m:Rd}{l':List Cr}{lp':Int}(e:m5 l loops m=some (l',lp')):Good l' lp':=by
 unfold m5 at e
 split at e
 ·rename_i hb
  unfold kQ at hb
  simp only[EC,E8,decide_eq_true_eq,beq_iff_eq]at hb
  obtain⟨_,h1,h2,h3,h4,h5⟩:=hb
  have hlo:=h.lo
  split at e
  ·cases e
   refine⟨h.s.kink0 m.up h3,by simp;omega,by omega,by omega⟩
  ·rename_i hneg
   cases e
   have ha:m.arc.toNat<2*l.length:=by omega
   have:=h.s.kink m.up h3 ha
   have ec:((m.arc.toNat:Nat):Int)=m.arc:=by omega
   rw[ec]at this
   exact⟨this,by rw[Ez,aU];simp;omega,by omega,by omega⟩
 ·cases e
theorem uZ{l:List Cr}{loops:Int}(h:Good l loops){out:List Nat}{l':List Cr}{lp':Int}(e:rL l loops out=some (l',lp')):Good l' lp':=by
 unfold rL at e
 split at e
 ·cases e
  rename_i hle
  have:=xA l out loops (2*l.length)
  have hlo:=h.lo
  refine⟨h.s.left out,?_,by omega,hle⟩
  have hn:=h.n
  rw[js,iB,Fl,jD]
  have:=Gk (fun c=> !(out.contains c)) (List.range l.length)
  rw[Gp]at this;omega
 ·cases e
theorem xT{l:List Cr}{loops:Int}(h:Good l loops){m:Rd}{l':List Cr}{lp':Int}(e:iX l loops m=some (l',lp')):Good l' lp':=by
 unfold iX at e
 split at e
 ·split at e
  ·exact uZ h e
  ·cases e
 ·cases e
theorem yc{l:List Cr}{loops:Int}(h:Good l loops){m:Rd}{l':List Cr}{lp':Int}(e:iM l loops m=some (l',lp')):Good l' lp':=by
 unfold iM at e
 split at e
 ·split at e
  ·split at e
   ·split at e
    ·exact uZ h e
    ·cases e
   ·cases e
  ·cases e
 ·cases e
theorem y8{l:List Cr}{loops:Int}(h:Good l loops){m:Rd}{l':List Cr}{lp':Int}(e:lC l loops m=some (l',lp')):Good l' lp':=by
 unfold lC at e
 split at e
 ·rename_i hb
  obtain⟨c,q,e1,e2,hp⟩:=pU hb
  split at e
  ·rename_i hK
   simp only at e
   split at e
   ·rename_i hd
    split at e
    ·cases e
     have ep:(m.ac.toNat,m.ap.toNat)=(c,q):=by rw[e1,e2];simp
     rw[ep]at hK hd⊢
     obtain⟨hper,_⟩:=h.s.perOf hp
     rw[hK]at hper
     have hp1:=h.s.nx_pl _ hp
     have hp2:=h.s.nx_pl _ hp1
     have hback:nx l (nx l (nx l (c,q)))=(c,q):=hper.2.1
     have back: ∀p,bt l p->oth l p=((nx l p).1,((nx l p).2+1)%4):=fun p hpp=>by
      have:=(h.s.oth_pl hpp).2
      refine Gh rfl ?_
      simp only[nx];omega
     have o0:=back _ hp
     have o1:=back _ hp1
     have o2:=back _ hp2
     rw[hback]at o2
     generalize nx l (c,q)=w1 at*
     generalize nx l w1=w2 at*
     obtain⟨c1,q1⟩:=w1
     obtain⟨c2,q2⟩:=w2
     have t:Tri l c q c1 q1 c2 q2:=⟨hp,hp1,hp2,o0,o1,o2,(fun e=>hd.1 (by rw[e1];simpa using e)),(fun e=>hd.2.1 (by rw[e1];simpa using e)),hd.2.2⟩
     refine⟨h.s.slide t,?_,h.lo⟩
     simp only[fE,jy];exact h.n
    ·cases e
   ·cases e
  ·cases e
 ·cases e
theorem Bx(l:List Cr)(loops c q:Int)(f:Nat):(aK l loops c q f).2.1=if c<0 then loops-1 else loops:=by unfold aK;split<;>rfl
theorem zU(l:List Cr)(loops c q:Int)(f:Nat):(bB l loops c q f).2.1=if c<0 then loops-1 else loops:=by unfold bB;split<;>rfl
def eZ(p:aI):List (Int×Bool):=[(p.s0,true),(p.m,false),(p.m,true),(p.s2,false)]
structure pT(l L:List Cr)(F:Int)(P:List (Int×Bool)):Prop where
 len:L.length=l.length
 sign: ∀x∈L,x.s=1\/x.s= -1
 range: ∀p,bt L p->0<=ay L p/\ay L p<F
 all: ∀v e,0<=v->v<F->(∃p,bt L p/\ay L p=v/\cn L p=e)\/(v,e)∈P
theorem ax.lack{l:List Cr}(hs:ax l):pT l l (2*l.length) []:=⟨rfl,hs.sign,fun _ hp=>hs.rng hp,fun _ e h1 h2=> .inl (hs.ex' e h1 h2)⟩
theorem wN{L:List Cr}{a:Int}{e:Bool}{p:Nat×Nat}(h:bi a e 0 L=((p.1:Int),(p.2:Int))):kT L a e p:=by
 rcases fC a e L 0 with ⟨h1,_⟩|⟨p',h1,h2⟩
 ·rw[h1]at h
  have:=congrArg Prod.fst h
  simp only at this;omega
 ·rw[h1]at h
  have e1:=congrArg Prod.fst h
  have e2:=congrArg Prod.snd h
  simp only at e1 e2
  have:p'=p:=Gh (by omega) (by omega)
  exact this▸h2
theorem pT.strand{l L:List Cr}{f:Nat}{P:List (Int×Bool)}(h:pT l L f P){loops c q:Int}(he:qy L loops c q):
 pT l (aK L loops c q f).1 ((f:Int)+2) (P++eZ (aK L loops c q f).2.2)/\ ∀v∈[(aK L loops c q f).2.2.b,(aK L loops c q f).2.2.m,(aK L loops c q f).2.2.a],0<=v/\v<(f:Int)+2:=by
 rcases he with ⟨hc,_⟩|⟨hc,hq,hp,⟨pb,hpb,hb⟩,pe,hpe,hee⟩
 ·have hF:aK L loops c q f=(L,loops-1,⟨f,(f+1:Nat),f,q==0⟩):=by unfold aK;rw[if_pos hc]
  rw[hF]
  refine⟨⟨h.len,h.sign,(fun p hp=>by have:=h.range p hp;exact⟨this.1,by simp only at this⊢;omega⟩),fun v e h1 h2=> ?_⟩,?_⟩
  ·by_cases hv:v<f
   ·rcases h.all v e h1 hv with h|h
    ·exact .inl h
    ·exact .inr (List.mem_append_left _ h)
   ·refine .inr (GK _ ?_)
    have:v=(f:Int)\/v=((f+1:Nat):Int):=by omega
    unfold eZ aI.s0 aI.s2
    rcases this with rfl|rfl<;>cases e<;>cases (q==0)<;>simp
  ·simp only[EG,EK,or_false]
   rintro v (rfl|rfl|rfl)<;>omega
 ·have h1:=mJ hee
  have h2:=mJ hb
  have hrng:=h.range _ hp
  obtain⟨k1,k2,k3⟩:=dn.1 (wN hee)
  have hF:aK L loops c q f=(bE L pe (f+1:Nat),loops,if pb=(c.toNat,q.toNat)then⟨ay L (c.toNat,q.toNat),f,(f+1:Nat),true⟩else⟨(f+1:Nat),f,ay L (c.toNat,q.toNat),false⟩):=by
   unfold aK;rw[if_neg (by omega),h1,h2]
  rw[hF]
  generalize ay L (c.toNat,q.toNat)=a at*
  have hp3: ∀u:aI,u=(if pb=(c.toNat,q.toNat)then⟨a,f,(f+1:Nat),true⟩else⟨(f+1:Nat),f,a,false⟩)->u.s0=a/\u.m=f/\u.s2=(f+1:Nat)/\(u.b=a\/u.b=(f+1:Nat))/\(u.a=a\/u.a=(f+1:Nat)):=by
   rintro u rfl
   split<;>simp[aI.s0,aI.s2]
  obtain⟨u1,u2,u3,u4,u5⟩:=hp3 _ rfl
  simp only
  generalize (if pb=(c.toNat,q.toNat)then(⟨a,f,(f+1:Nat),true⟩:aI)else⟨(f+1:Nat),f,a,false⟩)=u at*
  refine⟨⟨by rw[aU];exact h.len,eU h.sign _ _,fun p hp=> ?_,fun v e g1 g2=> ?_⟩,?_⟩
  ·rw[cz (aU _ _ _)]at hp
   rw[cC hpe _ hp.2]
   have:=h.range p hp
   split<;>omega
  ·by_cases hv:v<f
   ·rcases h.all v e g1 hv with ⟨p,a1,a2,a3⟩|h
    ·by_cases hpp:p=pe
     ·subst hpp
      refine .inr (GK _ ?_)
      rw[k2]at a2;rw[k3]at a3
      subst a2;subst a3
      unfold eZ;rw[u1];simp
     ·exact .inl ⟨p,(cz (aU _ _ _)).2 a1,by rw[cC hpe _ a1.2,if_neg hpp,a2],by rw[iI,a3]⟩
    ·exact .inr (List.mem_append_left _ h)
   ·have:v=(f:Int)\/v=((f+1:Nat):Int):=by omega
    rcases this with rfl|rfl
    ·refine .inr (GK _ ?_)
     unfold eZ;rw[u2];cases e<;>simp
    ·cases e
     ·refine .inr (GK _ ?_)
      unfold eZ;rw[u3];simp
     ·exact .inl ⟨pe,(cz (aU _ _ _)).2 hpe,by rw[cC hpe _ hpe.2,if_pos rfl],by rw[iI,k3]⟩
  ·simp only[EG,EK,or_false]
   rintro v (rfl|rfl|rfl)
   ·rcases u4 with h|h<;>rw[h]<;>omega
   ·rw[u2];omega
   ·rcases u5 with h|h<;>rw[h]<;>omega
theorem pT.Ew{l:List Cr}(hs:ax l){f:Nat}(hf:f=2*l.length){loops c q:Int}(he:qy l loops c q):
 pT l (bB l loops c q f).1 ((f:Int)+4) (eZ (bB l loops c q f).2.2.1++eZ (bB l loops c q f).2.2.2)/\ ∀v∈[(bB l loops c q f).2.2.1.b,(bB l loops c q f).2.2.1.m,(bB l loops c q f).2.2.1.a,(bB l loops c q f).2.2.2.b,(bB l loops c q f).2.2.2.m,(bB l loops c q f).2.2.2.a],0<=v/\v<(f:Int)+4:=by
 have hff:(f:Int)=2*(l.length:Int):=by omega
 rcases he with ⟨hc,_⟩|⟨hc,hq,hp,⟨pb,hpb,hb⟩,pe,hpe,hee⟩
 ·have hF:bB l loops c q f=(l,loops-1,⟨f,(f:Int)+1,(f:Int)+2,q==0⟩,⟨(f:Int)+2,(f:Int)+3,f,q==0⟩):=by unfold bB;rw[if_pos hc]
  rw[hF]
  refine⟨⟨rfl,hs.sign,(fun p hp=>by have:=hs.rng hp;exact⟨this.1,by simp only at this⊢;omega⟩),fun v e h1 h2=> ?_⟩,?_⟩
  ·by_cases hv:v<f
   ·exact .inl (hs.ex' e h1 (by omega))
   ·refine .inr ?_
    have:v=(f:Int)\/v=(f:Int)+1\/v=(f:Int)+2\/v=(f:Int)+3:=by omega
    unfold eZ aI.s0 aI.s2
    rcases this with rfl|rfl|rfl|rfl<;>cases e<;>cases (q==0)<;>simp
  ·simp only[EG,EK,or_false]
   rintro v (rfl|rfl|rfl|rfl|rfl|rfl)<;>omega
 ·have h1:=mJ hee
  have h2:=mJ hb
  have hrng:=hs.rng hp
  obtain⟨k1,k2,k3⟩:=dn.1 (wN hee)
  have hF:bB l loops c q f=(bE l pe ((f:Int)+3),loops,(if pb=(c.toNat,q.toNat)then⟨ay l (c.toNat,q.toNat),f,(f:Int)+1,true⟩else⟨(f:Int)+3,(f:Int)+2,(f:Int)+1,false⟩),(if pb=(c.toNat,q.toNat)then⟨(f:Int)+1,(f:Int)+2,(f:Int)+3,true⟩else⟨(f:Int)+1,f,ay l (c.toNat,q.toNat),false⟩)):=by
   unfold bB;rw[if_neg (by omega),h1,h2]
  rw[hF]
  generalize ay l (c.toNat,q.toNat)=a at*
  simp only
  have hall: ∀v e,0<=v->v<(f:Int)+4->(∃p,bt (bE l pe ((f:Int)+3)) p/\ay (bE l pe ((f:Int)+3)) p=v/\cn (bE l pe ((f:Int)+3)) p=e)\/(v,e)∈[(a,true),((f:Int),true),((f:Int),false),((f:Int)+1,true),((f:Int)+1,false),((f:Int)+2,true),((f:Int)+2,false),((f:Int)+3,false)]:=by
   intro v e g1 g2
   by_cases hv:v<f
   ·obtain⟨p,a1,a2,a3⟩:=hs.ex' e g1 (by omega)
    by_cases hpp:p=pe
    ·subst hpp
     rw[k2]at a2;rw[k3]at a3
     subst a2;subst a3
     exact .inr (by simp)
    ·exact .inl ⟨p,(cz (aU _ _ _)).2 a1,by rw[cC hpe _ a1.2,if_neg hpp,a2],by rw[iI,a3]⟩
   ·have:v=(f:Int)\/v=(f:Int)+1\/v=(f:Int)+2\/v=(f:Int)+3:=by omega
    rcases this with rfl|rfl|rfl|rfl
    ·exact .inr (by cases e<;>simp)
    ·exact .inr (by cases e<;>simp)
    ·exact .inr (by cases e<;>simp)
    ·cases e
     ·exact .inr (by simp)
     ·exact .inl ⟨pe,(cz (aU _ _ _)).2 hpe,by rw[cC hpe _ hpe.2,if_pos rfl],by rw[iI,k3]⟩
  have hrr: ∀p,bt (bE l pe ((f:Int)+3)) p->0<=ay (bE l pe ((f:Int)+3)) p/\ay (bE l pe ((f:Int)+3)) p<(f:Int)+4:=by
   intro p hp
   rw[cz (aU _ _ _)]at hp
   rw[cC hpe _ hp.2]
   have:=hs.rng hp
   split<;>omega
  by_cases hbb:pb=(c.toNat,q.toNat)
  ·rw[if_pos hbb,if_pos hbb]
   refine⟨⟨aU _ _ _,eU hs.sign _ _,hrr,fun v e g1 g2=> ?_⟩,?_⟩
   ·rcases hall v e g1 g2 with h|h
    ·exact .inl h
    ·refine .inr ?_
     simp only[EG,EK,or_false,Fe]at h
     simp only[eZ,aI.s0,aI.s2,if_true,List.cons_append,List.nil_append,EG,EK,or_false,Fe]
     rcases h with ⟨rfl,rfl⟩|⟨rfl,rfl⟩|⟨rfl,rfl⟩|⟨rfl,rfl⟩|⟨rfl,rfl⟩|⟨rfl,rfl⟩|⟨rfl,rfl⟩|⟨rfl,rfl⟩<;>simp
   ·simp only[EG,EK,or_false]
    rintro v (rfl|rfl|rfl|rfl|rfl|rfl)<;>omega
  ·rw[if_neg hbb,if_neg hbb]
   refine⟨⟨aU _ _ _,eU hs.sign _ _,hrr,fun v e g1 g2=> ?_⟩,?_⟩
   ·rcases hall v e g1 g2 with h|h
    ·exact .inl h
    ·refine .inr ?_
     simp only[EG,EK,or_false,Fe]at h
     simp only[eZ,aI.s0,aI.s2,EO,if_false,List.cons_append,List.nil_append,EG,EK,or_false,Fe]
     rcases h with ⟨rfl,rfl⟩|⟨rfl,rfl⟩|⟨rfl,rfl⟩|⟨rfl,rfl⟩|⟨rfl,rfl⟩|⟨rfl,rfl⟩|⟨rfl,rfl⟩|⟨rfl,rfl⟩<;>simp
   ·simp only[EG,EK,or_false]
    rintro v (rfl|rfl|rfl|rfl|rfl|rfl)<;>omega
theorem pT.sound{l L:List Cr}{a b:aI}(up:Bool)(h:pT l L (2*(l.length:Int)+4) (eZ a++eZ b))(hv: ∀v∈[a.b,a.m,a.a,b.b,b.m,b.a],0<=v/\v<2*(l.length:Int)+4):
 ax (L++[ng a b up]++[iE a b up]):=by
 have e:(L.length:Int)=l.length:=by rw[h.len]
 refine ax.poke a b up h.sign (fun p hp=> ?_) (fun v hv'=> ?_) fun v e' h1 h2=> ?_
 ·rw[e];exact h.range p hp
 ·rw[e];exact hv v hv'
 ·rw[e]at h2;exact h.all v e' h1 h2
theorem BA{l:List Cr}{loops:Int}(h:Good l loops){m:Rd}{l':List Cr}{lp':Int}(e:dU l loops m=some (l',lp')):Good l' lp':=by
 have hs:=h.s
 have hlo:=h.lo
 unfold dU at e
 split at e
 rotate_left
 ·cases e
 rename_i hk1
 split at e
 rotate_left
 ·cases e
 rename_i hk2
 split at e
 rotate_left
 ·cases e
 rename_i hg
 simp only[EC,decide_eq_true_eq,beq_iff_eq]at hg
 obtain⟨⟨⟨_,hn⟩,hsg1⟩,hsg2⟩:=hg
 have rng: ∀p,bt l p->0<=ay l p/\ay l p<2*l.length:=fun p hp=>hs.rng hp
 split at e
 ·
  split at e
  rotate_left
  ·cases e
  rename_i hle
  split at e
  rotate_left
  ·cases e
  rename_i hj
  have hj':bQ m.ac+bQ m.tc≠0\/ay l (m.ac.toNat,m.ap.toNat)≠ay l (m.tc.toNat,m.tp.toNat):=by
   rcases hj with hj|hj
   ·exact .inl hj
   ·refine .inr ?_
    unfold mN at hj
    rw[EC]at hj
    simpa using hj.1
  simp only[ER,Fe]at e
  obtain⟨e1,e2⟩:=e
  obtain⟨hE1,hE2,hb1,hb2,hb3⟩:=Aq hs hk1 hk2 hle hj'
  have L0:pT l l ((2*l.length:Nat):Int) []:=by have:=hs.lack;rwa [show((2*l.length:Nat):Int)=2*(l.length:Int)by omega]
  obtain⟨L1,V1⟩:=L0.strand hE1
  have hlenS1:=eu l loops m.ac m.ap (2*l.length)
  have L1':pT l (aK l loops m.ac m.ap (2*l.length)).1 ((2*l.length+2:Nat):Int) ([]++eZ (aK l loops m.ac m.ap (2*l.length)).2.2):=by
   rwa [show((2*l.length+2:Nat):Int)=((2*l.length:Nat):Int)+2 by omega]
  have hE2':=hE2
  obtain⟨L2,V2⟩:=L1'.strand hE2
  have hlenS2:=eu (aK l loops m.ac m.ap (2*l.length)).1 (aK l loops m.ac m.ap (2*l.length)).2.1 m.tc m.tp (2*l.length+2)
  have hlp2:0<=(aK (aK l loops m.ac m.ap (2*l.length)).1 (aK l loops m.ac m.ap (2*l.length)).2.1 m.tc m.tp (2*l.length+2)).2.1/\(aK (aK l loops m.ac m.ap (2*l.length)).1 (aK l loops m.ac m.ap (2*l.length)).2.1 m.tc m.tp (2*l.length+2)).2.1<=200:=by
   have h3:=hb3 hlo.1
   rw[Bx]
   rcases hE2' with ⟨hc,h0⟩|⟨hc,_⟩
   ·rw[if_pos hc];omega
   ·rw[if_neg (by omega)];omega
  generalize aK l loops m.ac m.ap (2*l.length)=r1 at*
  obtain⟨M1,LP1,x⟩:=r1
  simp only at*
  generalize aK M1 LP1 m.tc m.tp (2*l.length+2)=r2 at*
  obtain⟨M2,LP2,y⟩:=r2
  simp only at*
  subst e1;subst e2
  refine⟨pT.sound m.up (l:=l) (by rw[List.nil_append]at L2;rwa [show((2*l.length+2:Nat):Int)+2=2*(l.length:Int)+4 by omega]at L2) ?_,?_,hlp2⟩
  ·intro v hv
   simp only[EG,EK,or_false]at hv V1 V2
   rcases hv with h|h|h|h|h|h
   ·have:=V1 v (.inl h);omega
   ·have:=V1 v (.inr (.inl h));omega
   ·have:=V1 v (.inr (.inr h));omega
   ·have:=V2 v (.inl h);omega
   ·have:=V2 v (.inr (.inl h));omega
   ·have:=V2 v (.inr (.inr h));omega
  ·simp only[Ez,List.length_cons,List.length_nil];omega
 ·split at e
  rotate_left
  ·cases e
  rename_i hcd
  simp only[ER,Fe]at e
  obtain⟨e1,e2⟩:=e
  have hE:qy l loops m.ac m.ap:=by
   refine hs.endOk hk1 fun h=> ?_
   simp only[EC,E8,decide_eq_true_eq,beq_iff_eq]at hcd
   rcases hcd.2 with h'|h'
   ·omega
   ·exact h'.1
  obtain⟨L1,V1⟩:=pT.Ew hs rfl hE
  have hlen1:=rW l loops m.ac m.ap (2*l.length)
  have hlp:0<=(bB l loops m.ac m.ap (2*l.length)).2.1/\(bB l loops m.ac m.ap (2*l.length)).2.1<=200:=by
   rw[zU]
   rcases hE with ⟨hc,h0⟩|⟨hc,_⟩
   ·rw[if_pos hc];omega
   ·rw[if_neg (by omega)];omega
  generalize bB l loops m.ac m.ap (2*l.length)=r1 at*
  obtain⟨M1,LP1,x,y⟩:=r1
  simp only at*
  rw[show((2*l.length:Nat):Int)+4=2*(l.length:Int)+4 by omega]at L1 V1
  subst e1;subst e2
  refine⟨?_,by simp only[Ez,List.length_cons,List.length_nil];omega,hlp⟩
  split
  ·refine pT.sound m.up (l:=l) ⟨L1.len,L1.sign,L1.range,fun v e h1 h2=> ?_⟩ ?_
   ·rcases L1.all v e h1 h2 with h|h
    ·exact .inl h
    ·exact .inr (by rw[EY]at h⊢;exact h.symm)
   ·intro v hv
    refine V1 v ?_
    simp only[EG,EK,or_false]at hv⊢
    rcases hv with h|h|h|h|h|h<;>simp[h]
  ·exact pT.sound m.up L1 V1
theorem u9{l:List Cr}{loops:Int}(h:Good l loops){m:Rd}{l':List Cr}{lp':Int}(e:fZ l loops m=some (l',lp')):Good l' lp':=by
 unfold fZ at e
 split at e
 ·exact Am h e
 ·split at e
  ·exact xT h e
  ·split at e
   ·exact BA h e
   ·split at e
    ·exact yc h e
    ·split at e
     ·exact y8 h e
     ·cases e
end Go.Proofs.Ytjcomcgpjjianaa
