import Derived.Test.YtjcomcgpjjianaaA8
import Derived.Test.YtjcomcgpjjianaaA19
import Derived.Test.YtjcomcgpjjianaaA22
set_option linter.all false
set_option maxHeartbeats 16000000
set_option maxRecDepth 8000
open Go.Value renaming int→O
open Go.IntKind renaming i64→U
namespace Go.Proofs.Ytjcomcgpjjianaa
open Go.Ev
def fY(l n:List Cr)(e:Nat×Nat):List Cr:=bE (bE (bE (bE n (aW l (bW l e) true) (ay l (thr (aW l (bW l e) false)))) (thr (aW l (bW l e) true)) (bW l e)) (thr (aW l (bW l e) false)) (bW l e)) (aW l (bW l e) false) (ay l (thr (aW l (bW l e) true)))
theorem jy(l n:List Cr)(e:Nat×Nat):(fY l n e).length=n.length:=by simp only[fY,aU]
theorem Cf(l n:List Cr)(e p:Nat×Nat):cn (fY l n e) p=cn n p:=by simp only[fY,iI]
theorem nD{l n:List Cr}(h: ∀x∈n,x.s=1\/x.s= -1)(e:Nat×Nat): ∀x∈fY l n e,x.s=1\/x.s= -1:=eU (eU (eU (eU h _ _) _ _) _ _) _ _
theorem ax.ends{l:List Cr}(hs:ax l){z:Nat×Nat}(hz:bt l z):
 (cn l z=true/\aW l (bW l z) true=z/\aW l (bW l z) false=oth l z)\/(cn l z=false/\aW l (bW l z) false=z/\aW l (bW l z) true=oth l z):=by
 have h1:=hs.plOf_arcN hz
 obtain⟨x,hx,_⟩:=ax.mem hz
 obtain⟨h2,_⟩:=hs.oh hx hz.2
 obtain⟨h3,h4⟩:=hs.an hz
 have hi:cn l z=cS x.s z.2:=by simp only[cn,hx]
 have ha:ay l z=x.arc z.2:=by simp only[ay,hx]
 rw[<-hi,<-ha,<-h3]at h2
 have h5:aW l (bW l z) (!cn l z)=oth l z:=by
  have:=hs.place h2
  unfold aW;rw[this];simp
 cases h:cn l z with
 |true=>rw[h]at h1 h5;exact .inl ⟨rfl,h1,h5⟩
 |false=>rw[h]at h1 h5;exact .inr ⟨rfl,h1,h5⟩
theorem ax.oth_at{l:List Cr}(hs:ax l){z:Nat×Nat}(hz:bt l z):ay l (oth l z)=ay l z/\cn l (oth l z)= !cn l z:=by
 obtain⟨x,hx,_⟩:=ax.mem hz
 obtain⟨h2,_⟩:=hs.oh hx hz.2
 obtain⟨_,a,b⟩:=dn.1 h2
 rw[a,b]
 simp only[cn,ay,hx,and_self]
theorem ax.slide_at{l:List Cr}(hs:ax l){n:List Cr}(hn:n.length=l.length){z w:Nat×Nat}(hz:bt l z)(hw:oth l z=w)(hc:z.1≠w.1){p:Nat×Nat}(hp:p.2<4):
 ay (fY l n z) p=if p=z then ay l (thr w)else if p=w then ay l (thr z)else if p=thr z then ay l z else if p=thr w then ay l z else ay n p:=by
 have hwp:bt l w:=hw▸hs.oth_pl hz
 have hz4:=hz.2
 have hw4:=hwp.2
 have nzw:z≠w:=fun e=>hc (by rw[e])
 have nz:thr z≠z:=fun e=>by have:=congrArg Prod.snd e;simp only[thr]at this;omega
 have nw:thr w≠w:=fun e=>by have:=congrArg Prod.snd e;simp only[thr]at this;omega
 have n1:thr z≠w:=fun e=>hc (by have:=congrArg Prod.fst e;simpa only[thr]using this)
 have n2:thr w≠z:=fun e=>hc (by have:=congrArg Prod.fst e;simp only[thr]at this;exact this.symm)
 have n3:thr z≠thr w:=fun e=>hc (by have:=congrArg Prod.fst e;simpa only[thr]using this)
 have l1:=fun{m:List Cr} {q:Nat×Nat} (hm:m.length=l.length)=>(cz (p:=q) hm).2
 unfold fY
 rcases hs.ends hz with ⟨_,h1,h2⟩|⟨_,h1,h2⟩<;>rw[h1,h2,hw]
 ·have q1:bt n z:=l1 hn hz
  have e1:=aU n z (ay l (thr w))
  have q2:bt (bE n z (ay l (thr w))) (thr z):=l1 (by rw[aU,hn]) (cX hz)
  have q3:bt (bE (bE n z (ay l (thr w))) (thr z) (bW l z)) (thr w):=l1 (by rw[aU,aU,hn]) (cX hwp)
  have q4:bt (bE (bE (bE n z (ay l (thr w))) (thr z) (bW l z)) (thr w) (bW l z)) w:=l1 (by rw[aU,aU,aU,hn]) hwp
  rw[cC q4 _ hp,cC q3 _ hp,cC q2 _ hp,cC q1 _ hp,(hs.an hz).1]
  by_cases c1:p=z
  ·subst c1
   rw[if_neg nzw,if_neg (fun e=>n2 e.symm),if_neg (fun e=>nz e.symm),if_pos rfl,if_pos rfl]
  ·by_cases c2:p=w
   ·subst c2;simp[c1]
   ·by_cases c3:p=thr z
    ·subst c3;simp[nz,n1,n3]
    ·by_cases c4:p=thr w
     ·subst c4;simp[nw,n2,fun e=>n3 (Eq.symm e)]
     ·simp[c1,c2,c3,c4]
 ·have q1:bt n w:=l1 hn hwp
  have q2:bt (bE n w (ay l (thr z))) (thr w):=l1 (by rw[aU,hn]) (cX hwp)
  have q3:bt (bE (bE n w (ay l (thr z))) (thr w) (bW l z)) (thr z):=l1 (by rw[aU,aU,hn]) (cX hz)
  have q4:bt (bE (bE (bE n w (ay l (thr z))) (thr w) (bW l z)) (thr z) (bW l z)) z:=l1 (by rw[aU,aU,aU,hn]) hz
  rw[cC q4 _ hp,cC q3 _ hp,cC q2 _ hp,cC q1 _ hp,(hs.an hz).1]
  by_cases c1:p=z
  ·subst c1;simp
  ·by_cases c2:p=w
   ·subst c2
    rw[if_neg c1,if_neg (fun e=>n1 e.symm),if_neg (fun e=>nw e.symm),if_pos rfl,if_neg c1,if_pos rfl]
   ·by_cases c3:p=thr z
    ·subst c3;simp[nz,n1]
    ·by_cases c4:p=thr w
     ·subst c4;simp[nw,n2,fun e=>n3 (Eq.symm e)]
     ·simp[c1,c2,c3,c4]
structure Tri(l:List Cr)(c0 q0 c1 q1 c2 q2:Nat):Prop where
 p0:bt l (c0,q0)
 p1:bt l (c1,q1)
 p2:bt l (c2,q2)
 o0:oth l (c0,q0)=(c1,(q1+1)%4)
 o1:oth l (c1,q1)=(c2,(q2+1)%4)
 o2:oth l (c2,q2)=(c0,(q0+1)%4)
 d01:c0≠c1
 d02:c0≠c2
 d12:c1≠c2
def fE(l:List Cr)(e0 e1 e2:Nat×Nat):List Cr:=fY l (fY l (fY l l e0) e1) e2
theorem Tri.at{l:List Cr}(hs:ax l){c0 q0 c1 q1 c2 q2:Nat}(t:Tri l c0 q0 c1 q1 c2 q2){p:Nat×Nat}(hp:p.2<4):ay (fE l (c0,q0) (c1,q1) (c2,q2)) p=if p=(c2,q2)then ay l (thr (c0,(q0+1)%4))else if p=(c0,(q0+1)%4)then ay l (thr (c2,q2))else if p=thr (c2,q2)then ay l (c2,q2)else if p=thr (c0,(q0+1)%4)then ay l (c2,q2)else
 if p=(c1,q1)then ay l (thr (c2,(q2+1)%4))else if p=(c2,(q2+1)%4)then ay l (thr (c1,q1))else if p=thr (c1,q1)then ay l (c1,q1)else if p=thr (c2,(q2+1)%4)then ay l (c1,q1)else
 if p=(c0,q0)then ay l (thr (c1,(q1+1)%4))else if p=(c1,(q1+1)%4)then ay l (thr (c0,q0))else if p=thr (c0,q0)then ay l (c0,q0)else if p=thr (c1,(q1+1)%4)then ay l (c0,q0)else ay l p:=by
 unfold fE
 rw[hs.slide_at (by rw[jy,jy]) t.p2 t.o2 (Fg t.d02) hp,hs.slide_at (by rw[jy]) t.p1 t.o1 t.d12 hp,hs.slide_at rfl t.p0 t.o0 t.d01 hp]
theorem mm{c q c' q':Nat}(h:c≠c'\/q≠q'):((c,q):Nat×Nat)≠(c',q'):=fun e=>by
 have h1:=congrArg Prod.fst e
 have h2:=congrArg Prod.snd e
 simp only at h1 h2
 omega
theorem ax.slide{l:List Cr}(hs:ax l){c0 q0 c1 q1 c2 q2:Nat}(t:Tri l c0 q0 c1 q1 c2 q2):ax (fE l (c0,q0) (c1,q1) (c2,q2)):=by
 have hlen:(fE l (c0,q0) (c1,q1) (c2,q2)).length=l.length:=by simp only[fE,jy]
 have hin: ∀p,cn (fE l (c0,q0) (c1,q1) (c2,q2)) p=cn l p:=fun p=>by simp only[fE,Cf]
 obtain⟨a0,b0⟩:=hs.oth_at t.p0
 obtain⟨a1,b1⟩:=hs.oth_at t.p1
 obtain⟨a2,b2⟩:=hs.oth_at t.p2
 have w0:=hs.oth_pl t.p0
 have w1:=hs.oth_pl t.p1
 have w2:=hs.oth_pl t.p2
 rw[t.o0]at a0 b0 w0
 rw[t.o1]at a1 b1 w1
 rw[t.o2]at a2 b2 w2
 have d01:=t.d01
 have d02:=t.d02
 have d12:=t.d12
 have h0:=t.p0.2
 have h1:=t.p1.2
 have h2:=t.p2.2
 simp only at h0 h1 h2
 have i0:=hs.in_thr t.p0
 have i1:=hs.in_thr t.p1
 have i2:=hs.in_thr t.p2
 have j0:=hs.in_thr w0
 have j1:=hs.in_thr w1
 have j2:=hs.in_thr w2
 have fin: ∀(p p':Nat×Nat),bt l p'->ay (fE l (c0,q0) (c1,q1) (c2,q2)) p'=ay l p->cn l p'=cn l p-> ∃p',bt (fE l (c0,q0) (c1,q1) (c2,q2)) p'/\ay (fE l (c0,q0) (c1,q1) (c2,q2)) p'=ay l p/\cn (fE l (c0,q0) (c1,q1) (c2,q2)) p'=cn l p:=fun p p' x y z=>⟨p',(cz hlen).2 x,y,by rw[hin,z]⟩
 refine ax.D9 (nD (nD (nD hs.sign _) _) _) ?_ ?_
 ·intro p hp
  have hp':=(cz hlen).1 hp
  rw[hlen]
  have hat:=t.at hs (p:=p) hp.2
  rw[hat]
  have ip: ∀(c:Prop) [Decidable c] (a b:Int),(0<=a/\a<2*(l.length:Int))->(0<=b/\b<2*(l.length:Int))->0<=(if c then a else b)/\(if c then a else b)<2*(l.length:Int):=fun c _ a b h1 h2=>by split<;>assumption
  have r: ∀p,bt l p->0<=ay l p/\ay l p<2*l.length:=fun p h=>hs.rng h
  exact ip _ _ _ (r _ (cX w2)) (ip _ _ _ (r _ (cX t.p2)) (ip _ _ _ (r _ t.p2) (ip _ _ _ (r _ t.p2) (ip _ _ _ (r _ (cX w1)) (ip _ _ _ (r _ (cX t.p1)) (ip _ _ _ (r _ t.p1) (ip _ _ _ (r _ t.p1)
   (ip _ _ _ (r _ (cX w0)) (ip _ _ _ (r _ (cX t.p0)) (ip _ _ _ (r _ t.p0) (ip _ _ _ (r _ t.p0) (r _ hp'))))))))))))
 ·intro v e hv hv2
  rw[hlen]at hv2
  obtain⟨p,k1,rfl,rfl⟩:=hs.ex' e hv hv2
  have hd: ∀q c,c<4->p.2<4->q<4->(p.2=q%4\/p.2=(q+1)%4\/p.2=(q+2)%4\/p.2=(q+3)%4):=fun q c _ _ _=>by omega
  have k2:=k1.2
  obtain⟨pc,pq⟩:=p
  simp only at k2
  by_cases e0:pc=c0
  ·subst e0
   rcases hd q0 0 (by omega) k2 h0 with e|e|e|e
   ·have:pq=q0:=by simp only at e;omega
    subst this
    refine fin _ (thr (c1,(q1+1)%4)) (cX w0) ?_ (by rw[j0,b0,GJ])
    rw[t.at hs (cX w0).2];simp only[thr]
    repeat refine(if_neg (mm (by omega))).trans ?_
    first|rw[if_pos rfl]|rw[if_pos trivial]
   ·simp only at e;subst e
    refine fin _ (thr (c2,q2)) (cX t.p2) ?_ (by rw[i2,b2])
    rw[t.at hs (cX t.p2).2];simp only[thr]
    repeat refine(if_neg (mm (by omega))).trans ?_
    first|rw[if_pos rfl,a2]|rw[if_pos trivial,a2]
   ·simp only at e;subst e
    refine fin _ (c1,(q1+1)%4) w0 ?_ (by rw[b0,<-i0];rfl)
    rw[t.at hs w0.2];simp only[thr]
    repeat refine(if_neg (mm (by omega))).trans ?_
    first|rw[if_pos rfl]|rw[if_pos trivial]
   ·simp only at e;subst e
    refine fin _ (c2,q2) t.p2 ?_ ?_
    ·rw[t.at hs t.p2.2,if_pos rfl];simp only[thr];rw[show((q0+1)%4+2)%4=(q0+3)%4 by omega]
    ·have:cn l (pc,(q0+3)%4)=cn l (thr (pc,(q0+1)%4)):=by simp only[thr];rw[show((q0+1)%4+2)%4=(q0+3)%4 by omega]
     rw[this,j2,b2,GJ]
  ·by_cases e1:pc=c1
   ·subst e1
    rcases hd q1 0 (by omega) k2 h1 with e|e|e|e
    ·have:pq=q1:=by simp only at e;omega
     subst this
     refine fin _ (thr (c2,(q2+1)%4)) (cX w1) ?_ (by rw[j1,b1,GJ])
     rw[t.at hs (cX w1).2];simp only[thr]
     repeat refine(if_neg (mm (by omega))).trans ?_
     first|rw[if_pos rfl]|rw[if_pos trivial]
    ·simp only at e;subst e
     refine fin _ (thr (c0,q0)) (cX t.p0) ?_ (by rw[i0,b0])
     rw[t.at hs (cX t.p0).2];simp only[thr]
     repeat refine(if_neg (mm (by omega))).trans ?_
     first|rw[if_pos rfl,a0]|rw[if_pos trivial,a0]
    ·simp only at e;subst e
     refine fin _ (c2,(q2+1)%4) w1 ?_ (by rw[b1,<-i1];rfl)
     rw[t.at hs w1.2];simp only[thr]
     repeat refine(if_neg (mm (by omega))).trans ?_
     first|rw[if_pos rfl]|rw[if_pos trivial]
    ·simp only at e;subst e
     refine fin _ (c0,q0) t.p0 ?_ ?_
     ·rw[t.at hs t.p0.2];simp only[thr]
      repeat refine(if_neg (mm (by omega))).trans ?_
      first|rw[if_pos rfl,show((q1+1)%4+2)%4=(q1+3)%4 by omega]|rw[if_pos trivial,show((q1+1)%4+2)%4=(q1+3)%4 by omega]
     ·have:cn l (pc,(q1+3)%4)=cn l (thr (pc,(q1+1)%4)):=by simp only[thr];rw[show((q1+1)%4+2)%4=(q1+3)%4 by omega]
      rw[this,j0,b0,GJ]
   ·by_cases e2:pc=c2
    ·subst e2
     rcases hd q2 0 (by omega) k2 h2 with e|e|e|e
     ·have:pq=q2:=by simp only at e;omega
      subst this
      refine fin _ (thr (c0,(q0+1)%4)) (cX w2) ?_ (by rw[j2,b2,GJ])
      rw[t.at hs (cX w2).2];simp only[thr]
      repeat refine(if_neg (mm (by omega))).trans ?_
      first|rw[if_pos rfl]|rw[if_pos trivial]
     ·simp only at e;subst e
      refine fin _ (thr (c1,q1)) (cX t.p1) ?_ (by rw[i1,b1])
      rw[t.at hs (cX t.p1).2];simp only[thr]
      repeat refine(if_neg (mm (by omega))).trans ?_
      first|rw[if_pos rfl,a1]|rw[if_pos trivial,a1]
     ·simp only at e;subst e
      refine fin _ (c0,(q0+1)%4) w2 ?_ (by rw[b2,<-i2];rfl)
      rw[t.at hs w2.2];simp only[thr]
      repeat refine(if_neg (mm (by omega))).trans ?_
      first|rw[if_pos rfl]|rw[if_pos trivial]
     ·simp only at e;subst e
      refine fin _ (c1,q1) t.p1 ?_ ?_
      ·rw[t.at hs t.p1.2];simp only[thr]
       repeat refine(if_neg (mm (by omega))).trans ?_
       first|rw[if_pos rfl,show((q2+1)%4+2)%4=(q2+3)%4 by omega]|rw[if_pos trivial,show((q2+1)%4+2)%4=(q2+3)%4 by omega]
      ·have:cn l (pc,(q2+3)%4)=cn l (thr (pc,(q2+1)%4)):=by simp only[thr];rw[show((q2+1)%4+2)%4=(q2+3)%4 by omega]
       rw[this,j1,b1,GJ]
    ·refine fin _ (pc,pq) k1 ?_ rfl
     rw[t.at hs k2];simp only[thr]
     repeat refine(if_neg (mm (by omega))).trans ?_
     rfl
inductive Lk(l:List Cr)(k:Nat):Nat->Nat->Prop
 |refl (c:Nat):Lk l k c c
 |arc (a:Nat):a<k->Lk l k (aW l a false).1 (aW l a true).1
 |symm {c d:Nat}:Lk l k c d->Lk l k d c
 |trans {c d e:Nat}:Lk l k c d->Lk l k d e->Lk l k c e
theorem Lk.mono{l:List Cr}{k k':Nat}(h:k<=k'){c d:Nat}(hc:Lk l k c d):Lk l k' c d:=by
 induction hc with
 |refl c=>exact .refl c
 |arc a ha=>exact .arc a (by omega)
 |symm _ ih=>exact .symm ih
 |trans _ _ ih1 ih2=>exact .trans ih1 ih2
theorem BH{ms:List (Int×Int)}(hm:tN ms){f:Nat}{x r:Int}(h:follow ms f x=some r):fj ms x=r:=by
 obtain⟨f',h'⟩:=ef hm x
 exact yG h' h
theorem wa{ms:List (Int×Int)}(hm:tN ms)(a b x:Int):fj (mj ms (fj ms a) (fj ms b)) x=if fj ms x=fj ms b then fj ms a else fj ms x:=by
 obtain⟨f,ha⟩:=ef hm a
 obtain⟨f',hb⟩:=ef hm b
 obtain⟨k,hx⟩:=ef hm x
 by_cases hab:fj ms a=fj ms b
 ·rw[mj,if_pos hab]
  split
  ·rename_i e;rw[e,hab]
  ·rfl
 ·have hj:mj ms (fj ms a) (fj ms b)=kj ms (fj ms b) (fj ms a):=by rw[mj,if_neg hab]
  have:=pr (iu _ _ _ ha) (iu _ _ _ hb) hab k x _ hx
  rw[hj]
  exact BH (by rw[<-hj];exact vV hm ha hb) this
theorem rZ{l:List Cr}(hs:ax l): ∀k,k<=2*l.length-> ∀c d:Nat,fj (bz l k) c=fj (bz l k) d↔Lk l k c d
 | 0,_,c,d=>by
   have: ∀x:Int,fj [] x=x:=fun x=>BH yO (f:=1) rfl
   simp only[bz,this]
   constructor
   ·intro h
    have:c=d:=by omega
    subst this;exact .refl _
   ·intro h
    induction h with
    |refl c=>rfl
    |arc a ha=>omega
    |symm _ ih=>exact ih.symm
    |trans _ _ ih1 ih2=>exact ih1.trans ih2
 |k+1,hk,c,d=>by
  have ih:=rZ hs k (by omega)
  obtain⟨_,_,_,a4⟩:=hs.pl false (show k<2*l.length by omega)
  obtain⟨_,_,_,b4⟩:=hs.pl true (show k<2*l.length by omega)
  simp only[bz]
  rw[a4,b4]
  simp only
  rw[wa (dd l k),wa (dd l k)]
  constructor
  ·intro h
   split at h
   ·rename_i h1
    have h1':=Lk.mono (G9 k) ((ih _ _).1 h1)
    split at h
    ·rename_i h2
     exact .trans h1' (.symm (Lk.mono (G9 k) ((ih _ _).1 h2)))
    ·exact .trans h1' (.trans (.symm (.arc k (GL k))) (Lk.mono (G9 k) ((ih _ _).1 h)))
   ·split at h
    ·rename_i h2
     exact .trans (Lk.mono (G9 k) ((ih _ _).1 h)) (.trans (.arc k (GL k)) (.symm (Lk.mono (G9 k) ((ih _ _).1 h2))))
    ·exact Lk.mono (G9 k) ((ih _ _).1 h)
  ·intro h
   induction h with
   |refl c=>rfl
   |symm _ ih=>exact ih.symm
   |trans _ _ ih1 ih2=>exact ih1.trans ih2
   |arc a ha=>
    by_cases e:a=k
    ·subst e
     rw[if_pos rfl]
     split<;>rfl
    ·rw[(ih _ _).2 (.arc a (by omega))]
open Classical in
noncomputable def kq{α:Type}(R:α->α->Prop):List α->List α->List α
 |_,[]=>[]
 |seen,x::r=>if∃y∈seen,R y x then kq R (seen++[x]) r else x::kq R (seen++[x]) r
open Classical in
theorem sj{α:Type}(R:α->α->Prop)(x:α): ∀(L seen:List α),kq R seen (L++[x])=kq R seen L++(if∃y∈seen++L,R y x then []else [x])
 | [],seen=>by simp only[List.nil_append,kq,Ft]
 |z::L,seen=>by
  simp only[List.cons_append,kq]
  have:=sj R x L (seen++[z])
  simp only[EH,List.cons_append,List.nil_append]at this
  split<;>simp[this]
theorem jG{α:Type}{R:α->α->Prop}: ∀{L seen:List α} {x:α},x∈kq R seen L->x∈L
 | [],_,_,h=>by cases h
 |z::L,seen,x,h=>by
  simp only[kq]at h
  split at h
  ·exact Gb _ (jG h)
  ·rcases EG.1 h with h|h
   ·rw[h];exact GY
   ·exact Gb _ (jG h)
theorem oU{α:Type}{R:α->α->Prop}: ∀{L seen:List α} {x:α},x∈kq R seen L-> ∀y∈seen,¬R y x
 | [],_,_,h=>by cases h
 |z::L,seen,x,h=>by
  simp only[kq]at h
  split at h
  ·intro y hy;exact oU h y (by simp[hy])
  ·rename_i hz
   rcases EG.1 h with h|h
   ·rw[h];intro y hy hr;exact hz ⟨y,hy,hr⟩
   ·intro y hy;exact oU h y (by simp[hy])
theorem qF{α:Type}{R:α->α->Prop}: ∀{L seen:List α},(kq R seen L).Pairwise fun x y=> ¬R x y
 | [],_=>List.Pairwise.nil
 |z::L,seen=>by
  simp only[kq]
  split
  ·exact qF
  ·refine List.pairwise_cons.2 ⟨fun y hy=> ?_,qF⟩
   exact oU hy z (by simp)
theorem pA{α:Type}{R:α->α->Prop}(hr: ∀x,R x x)(ht: ∀x y z,R x y->R y z->R x z): ∀{L seen:List α} {x:α},x∈L->(∃y∈seen,R y x)\/ ∃y∈kq R seen L,R y x
 | [],_,_,h=>by cases h
 |z::L,seen,x,h=>by
  simp only[kq]
  split
  ·rename_i hz
   obtain⟨w,hw,hwz⟩:=hz
   rcases EG.1 h with e|h
   ·subst e;exact .inl ⟨w,hw,hwz⟩
   ·rcases pA hr ht (seen:=seen++[z]) h with ⟨y,hy,hyx⟩|h
    ·rcases EY.1 hy with hy|hy
     ·exact .inl ⟨y,hy,hyx⟩
     ·have e:y=z:=by simpa using hy
      rw[e]at hyx
      exact .inl ⟨w,hw,ht _ _ _ hwz hyx⟩
    ·exact .inr h
  ·rcases EG.1 h with e|h
   ·subst e;exact .inr ⟨x,by simp,hr x⟩
   ·rcases pA hr ht (seen:=seen++[z]) h with ⟨y,hy,hyx⟩|⟨y,hy,hyx⟩
    ·rcases EY.1 hy with hy|hy
     ·exact .inl ⟨y,hy,hyx⟩
     ·have e:y=z:=by simpa using hy
      rw[e]at hyx
      exact .inr ⟨z,GY,hyx⟩
    ·exact .inr ⟨y,Gb _ hy,hyx⟩
def fP(L:List (Nat×Nat)):List Value:=L.flatMap fun p=>[O U p.1,O U p.2]
theorem An(L M:List (Nat×Nat)):fP (L++M)=fP L++fP M:=by simp[fP]
theorem xC(L:List (Nat×Nat)):(fP L).all Ev.plain=true:=by
 rw[EI]
 intro v hv
 simp only[fP,Fi,EG,EK,or_false]at hv
 obtain⟨x,_,rfl|rfl⟩:=hv<;>rfl
theorem m8: ∀(l:List (Nat×Nat)) (j:Nat) (x:Nat×Nat),l[j]? =some x->(fP l).drop (j*2)=[O U x.1,O U x.2]++fP (l.drop (j+1))
 | [],j,x,h=>by simp at h
 |y::l,0,x,h=>by simp at h;subst h;rfl
 |y::l,j+1,x,h=>by
  have:=m8 l j x (by simpa using h)
  rw[Hh,<-this,show(j+1)*2=([O U y.1,O U y.2]:List Value).length+j*2 by simp;omega]
  exact List.drop_length_add_append _
def oR(H:AH)(v:Value)(L:List (Nat×Nat)):Prop:= ∃n C,v= .slice (some ⟨n,0,none⟩) L.length C/\ak H n 0 (L.length*2)=some (fP L)
theorem oR.read{H:AH}{v:Value}{L:List (Nat×Nat)}(h:oR H v L){j:Nat}{x:Nat×Nat}(hx:L[j]? =some x):
 ∃n C,v= .slice (some ⟨n,0,none⟩) L.length C/\ak H n (j*2) 2=some [O U x.1,O U x.2]:=by
 obtain⟨n,C,h1,h2⟩:=h
 refine⟨n,C,h1,?_⟩
 have hj:=(Ey.1 hx).1
 have:=bL h2 (j:=j*2) (m:=2) (by omega)
 rw[m8 L j x hx,EU]at this
 rw[this];rfl
theorem bs151(H:AH)(c p:Int):aQ Try.prog H 151 1 [(0,.agg #[O U c,O U p])]=some (.slice (some ⟨H.length,0,none⟩) 1 1,H++[.cells [O U c,O U p] 77]):=by kernel_rfl
theorem und151:Try.prog.underlying 151=some (.slice 77):=by kernel_rfl
theorem info77:Try.prog.info? 77=some Try.t77:=by kernel_rfl
theorem t77bytes:Try.t77.bytes=16:=rfl
theorem app151{H G:AH}{v:Value}{len:Nat}{cont:List Value}{a b:Int}(hl:len<1000000)(hg:bA G H.length 77 2 v len cont):
 ∃v' G',bD Try.prog (H++(G++[.cells [O U a,O U b] 77])) #[151,151] v (.slice (some ⟨H.length+G.length,0,none⟩) 1 1)=some (v',H++G')/\bA G' H.length 77 2 v' (len+1) (cont++[O U a,O U b])/\G'.length=G.length+2/\(∀j,j<G.length->bA.DJ H.length v j->at_ G' j=at_ G j)/\(∀j,j<G.length->bA.DJ H.length v' j)/\(cP G->([O U a,O U b]:List Value).all Ev.plain=true->cont.all Ev.plain=true->cP G')/\v'= .slice (some ⟨H.length+(G.length+1),0,none⟩) (len+1) (unk+2)/\(([O U a,O U b]:List Value).all Ev.plain=true->cont.all Ev.plain=true-> ∀k,(k<G.length/\at_ G' k=at_ G k)\/dS (at_ G' k)=true):=bA.append (ts:= #[151,151]) (t:=151) (el:=[O U a,O U b]) (it:=Try.t77) (z:= .agg #[O U 0,O U 0]) (by simp[und151]) info77 rfl rfl (by decide) rfl und151 (fun _ h=>nomatch h) rfl rfl (by rw[t77bytes];omega) (by omega) hg
theorem it_ring(l:List Cr)(p:Nat×Nat)(k:Nat):fh l p (k+1)=fh l p k++[it (nx l) k p]:=by
 unfold fh;rw[Fq,Gd];rfl
theorem gi(l:List Cr)(p:Nat×Nat)(k:Nat):(fh l p k).length=k:=by simp[fh]
theorem kP(H:AH)(d:Value)(l:List Cr)(loops:Int)(hd:ig H d l loops)(hl:l.length<100000)(hs:ax l)(p:Nat×Nat)(hp:bt l p)(K:Nat)(hK:oL (nx l) p K)(hKl:K<=4*l.length):
 ACE Try.prog 67 [d,.agg #[O U p.1,O U p.2]] H (fun r=> ∃v G,r= .val v (H++G)/\oR (H++G) v (fh l p K)/\cP G/\Bel (H++G).length v):=by
 refine ACE.o 30 f67 ?_
 refine X.seq (X.g ?_)
 refine X.seq (X.g ?_ (by simp[go_sem,bs151];rfl))
 refine X.block ?_
 refine X.loop (fun m E h=> ∃t G v,m=K-t/\t<K/\ae E 0=d/\ae E 3= .pointer (some ⟨H.length,0,none⟩)/\ae E 5=v/\h=H++G/\bA G H.length 77 2 v (t+1) (fP (fh l p (t+1)))/\0<G.length/\at_ G 0= .cells [O U p.1,O U p.2] 77/\bA.DJ H.length v 0/\cP G) K
  ⟨0,[.cells [O U p.1,O U p.2] 77,.cells [O U p.1,O U p.2] 77],.slice (some ⟨H.length+1,0,none⟩) 1 1,by omega,by have:=hK.1;omega,by simp[ae],by simp[ae],by simp[ae],rfl,?_,by simp,rfl,?_,rfl⟩ ?_
 ·exact .inr ⟨1,1,rfl,by simp,rfl,rfl,.inl ⟨rfl,by rw[mK];omega⟩⟩
 ·intro len C he
  simp only[Fw,ER,F3]at he
  omega
 rintro m E h ⟨t,G,v,rfl,ht,e0,e3,e5,rfl,hg,hG0,hat0,hoth,hj⟩
 have hx:=jt (S:=bt l) hs.nx_pl hp t
 obtain⟨cr,hcr,_⟩:=ax.mem hx
 have hoo:=(hs.oh hcr hx.2).2
 have hopl:=hs.oth_pl hx
 have hnx:it (nx l) (t+1) p=((oth l (it (nx l) t p)).1,((oth l (it (nx l) t p)).2+3)%4):=rfl
 have hring:=it_ring l p (t+1)
 rw[hnx]at hring
 have hrx:(fh l p (t+1))[t]? =some (it (nx l) t p):=by simp[fh]
 generalize it (nx l) t p=x at*
 generalize hy:oth l x=y at*
 obtain⟨x1,x2⟩:=x
 obtain⟨y1,y2⟩:=y
 simp only at hoo hopl hnx hring hcr hx
 have hx2:x2<4:=hx.2
 have hy2:y2<4:=hopl.2
 have hz:(IntKind.i64.wrap ((y2:Int)+3)).tmod 4=(((y2+3)%4:Nat):Int):=by
  have:IntKind.i64.wrap ((y2:Int)+3)=((y2+3:Nat):Int):=by rw[EP];omega
  rw[this];rfl
 generalize hzz:(y2+3)%4=z at*
 obtain⟨i,C,hv,hi,hati,hlen,hC⟩: ∃i C,v= .slice (some ⟨H.length+i,0,none⟩) (t+1) C/\i<G.length/\at_ G i= .cells (fP (fh l p (t+1))) 77/\(fP (fh l p (t+1))).length=(t+1)*2/\((C=t+1/\t+1<unk)\/C=unk+2):=by
  rcases hg with ⟨_,h,_⟩|h
  ·omega
  ·exact h
 subst hv
 have r1:ak (H++G) (H.length+i) (t*2) 2=some [O U x1,O U x2]:=by
  have h0:ak (H++G) (H.length+i) 0 ((t+1)*2)=some (fP (fh l p (t+1))):=by
   rw[aF];unfold ak aP;rw[hati];simp only[Option.bind_some]
   rw[if_pos (by omega),<-hlen,F4,Fp]
  have:=bL h0 (j:=t*2) (m:=2) (by omega)
  rw[m8 _ t _ hrx,EU]at this
  rw[this];rfl
 have hsub:IntKind.i64.wrap ((((t+1:Nat):Int)) -1)=(t:Int):=by rw[EP];omega
 have hlt:(t:Int)<((t+1:Nat):Int):=by omega
 generalize hT:t+1=T at*
 refine X.block ?_
 refine X.seq (X.region (Xl.s ?_ (by simp[go_sem,e0,e5,hsub,hlt,r1];rfl)))
 refine Xl.o (Sc b94 (zb _ d l loops hd.app (by omega) x1 x2 cr hcr hx2)) ?_
 rw[hoo]
 refine Xl.s (Xl.nil ?_) (by simp[go_sem,gZ];rfl)
 refine X.seq (X.g ?_ (by simp[go_sem,hz];rfl))
 have r0: ∀G',ak (G++G') 0 0 2=some [O U p.1,O U p.2]:=by
  intro G'
  unfold ak aP;rw[ag hG0,hat0];rfl
 have e5': ∀G',Bel (H++(G++G')).length (.slice (some ⟨H.length+i,0,none⟩) T C):=fun G'=>Bel.sl (by simp;omega)
 cases g:((y1:Int)==(p.1:Int)&&(z:Int)==(p.2:Int))
 ·refine X.seq (X.seq (X.g ?_ (by simp[go_sem,e3,r0];rfl)))
  refine X.cf (X.skip ?_) (by simp[go_sem,g])
  have hgn:=hg.more [.cells [O U y1,O U z] 77]
  have hjn:cP (G++[.cells [O U y1,O U z] 77]):=hj.app rfl
  obtain⟨v',G',ha,hg',hl',hk,hno,hj', -⟩:=app151 (H:=H) (a:=y1) (b:=z) (by omega) hgn
  simp only[EH,List.cons_append,List.nil_append,Ez,List.length_cons,List.length_nil,EU]at ha hl'
  refine X.g ?_ (by simp[go_sem,e5,bs151,ha];rfl)
  refine⟨K-T,by omega,T,G',v',rfl,?_,by simp[ae,e0],by simp[ae,e3],by simp[ae],rfl,?_,by omega,?_,?_,?_⟩
  ·rcases FZ T K with h|h
   ·exact h
   ·have hpe:it (nx l) T p=p:=by have:T=K:=by omega
                                 rw[this];exact hK.2.1
    rw[hnx]at hpe
    have h1:=congrArg Prod.fst hpe
    have h2:=congrArg Prod.snd hpe
    simp only at h1 h2
    rw[h1,h2]at g
    simp at g
  ·rw[hring,An];exact hg'
  ·rw[hk 0 (by simp) hoth,ag hG0,hat0]
  ·exact hno 0 (by simp)
  ·exact hj' hjn rfl (xC _)
 ·refine X.seq (X.seq (X.g ?_ (by simp[go_sem,e3,r0];rfl)))
  refine X.ct ?_ (by simp[go_sem,g])
  refine X.seq (X.g ?_ (by simp[go_sem,e5];rfl))
  have hk:T=K:=by
   simp only[EC,beq_iff_eq]at g
   have hpe:it (nx l) T p=p:=by rw[hnx];exact Gh (by simp only;omega) (by simp only;omega)
   rcases FZ T K with h|h
   ·exact absurd hpe (hK.2.2 T (by omega) h)
   ·omega
  subst hk
  have hjn:cP (G++[.cells [O U y1,O U z] 77]):=hj.app rfl
  have hsl:oR (H++(G++[.cells [O U y1,O U z] 77])) (.slice (some ⟨H.length+i,0,none⟩) T C) (fh l p T):=by
   refine⟨H.length+i,C,by rw[gi],?_⟩
   rw[aF];unfold ak aP;rw[ag hi,hati];simp only[Option.bind_some]
   rw[gi,if_pos (by omega),<-hlen,F4,Fp]
  exact X.ret ⟨_,⟨_,_,rfl,hsl,hjn,e5' _⟩,Ends.junk (by simp[go_sem]) (e5' _) hjn⟩
def iK(ms:List (Int×Int))(a:Int):List (Int×Int):=kj ms a (IntKind.i64.wrap ((look ms a).getD 0+1))
def gA(n:Nat)(a:Int):Bool:=decide (a<0)||decide (2*(n:Int)<=a)
def qGo(n:Nat)(x:Cr):List Nat->List (Int×Int)×List (Int×Int)->Option (List (Int×Int)×List (Int×Int))
 | [],s=>some s
 |q::r,s=>if gA n (x.arc q)=true then none else if cS x.s q=true then qGo n x r (s.1,iK s.2 (x.arc q))else qGo n x r (iK s.1 (x.arc q),s.2)
def pK(n:Nat):List Cr->List (Int×Int)×List (Int×Int)->Option (List (Int×Int)×List (Int×Int))
 | [],s=>some s
 |x::r,s=>if(x.s !=1&&x.s != -1)=true then none else(qGo n x (List.range' 0 4) s).bind (pK n r)
def rD(s:List (Int×Int)×List (Int×Int))(a:Nat):Bool:= !((look s.1 a).getD 0!=1||(look s.2 a).getD 0!=1)
def eN(l:List Cr)(loops:Int):Bool:=if(decide (200<(l.length:Int))||decide (loops<0)||decide (200<loops))=true then false
 else match pK l.length l ([],[])with
  |none=>false
  |some s=>(List.range' 0 (2*l.length)).all (rD s)
def dgV(s:Value)(loops:Int):Value:= .agg #[s,O U loops]
theorem AW(H:AH)(s:Value)(l:List Cr)(loops:Int)(hs:jK H s l):AC Try.prog 40 [dgV s loops] H (.val (.bool (eN l loops)) H):=by
 obtain⟨b,k,rfl⟩:=hs.len
 refine AC.o 88 f40 fun σ w hr=> ?_
 refine W.seq (W.g ?_ (by simp[go_sem,dgV];rfl))
 cases g:(decide (200<(l.length:Int))||decide (loops<0)||decide (200<loops))
 ·have hb:(decide (200<(l.length:Int))||decide (loops<0)||decide (200<loops))=false:=g
  simp only[Ga]at g
  obtain⟨⟨g1,g2⟩,g3⟩:=g
  refine W.seq (W.seq (W.g ?_ (by simp[go_sem,g1,g2,g3];rfl)))
  refine W.cf (W.skip ?_)
  refine W.seq (W.g ?_ (by simp[go_sem,cK];rfl))
  refine W.seq (W.seq (W.g ?_))
  refine W.block ?_
  have hn200:l.length<=200:=by have:=g1;simp at this;omega
  have hsd: ∀r,pK l.length l ([],[])=r->eN l loops=match r with|none=>false|some s=>(List.range' 0 (2*l.length)).all (rD s):=by
   intro r hr;unfold eN;rw[hb,if_neg (by simp),hr]
  refine W.loop (fun m E h=> ∃j G bg en,m=l.length-j/\j<=l.length/\ae E 1= .pointer (some ⟨H.length,0,none⟩)/\ae E 3= .map (some (H.length+1))/\ae E 4= .map (some (H.length+2))/\ae E 27= .slice b l.length k/\ae E 28=O U l.length/\ae E 29=O U j/\h=H++G/\2<G.length/\at_ G 0= .cells [.slice b l.length k,O U loops] 32/\at_ G 1= .map (cx bg)/\at_ G 2= .map (cx en)/\pK l.length l ([],[])=pK l.length (l.drop j) (bg,en)) l.length ⟨0,[.cells [.slice b l.length k,O U loops] 32,.map [],.map []],[],[],by omega,by omega,by simp[ae],by simp[ae],by simp[ae],by simp[ae],by simp[ae],by simp[ae],rfl,by simp,rfl,rfl,rfl,rfl⟩ ?_
  rintro m E h ⟨j,G,bg,en,rfl,hj,e1,e3,e4,e27,e28,e29,rfl,hG,a0,a1,a2,hgo⟩
  by_cases hlt:j<l.length
  ·have hx:l[j]? =some l[j]:=Ex hlt
   have hdr:=E7 hlt
   rw[hdr]at hgo
   generalize l[j]=x at hx hgo
   clear hdr
   obtain⟨n',i',c',hb',h3⟩:=hs.read hx
   cases hb'
   refine W.seq (W.g ?_ (by simp[go_sem,e28,e29,hlt];rfl))
   refine W.seq (W.ct (W.skip ?_))
   refine W.seq (W.block ?_)
   refine W.seq (W.g ?_ (by simp[go_sem,e27,e29,hlt,aD h3,Cr.cells];rfl))
   have hcase:((x.s !=1)=true/\(x.s != -1)=true)\/((x.s !=1)=false/\True)\/((x.s !=1)=true/\(x.s != -1)=false):=by
    cases x.s !=1<;>cases x.s != -1<;>simp
   rcases hcase with ⟨h1,h2⟩|⟨h1,h2⟩|⟨h1,h2⟩
   ·refine W.seq (W.seq (W.g ?_ (by simp[go_sem,h1,h2];rfl)))
    refine W.ct ?_
    refine W.seq (W.g ?_)
    have hf:eN l loops=false:=by
     rw[hsd _ hgo];simp only[pK,h1,h2];rfl
    rw[hf]
    exact W.ret (Ends.quiet (by simp[go_sem]) rfl)
   all_goals
    have hgo':pK l.length l ([],[])=(qGo l.length x (List.range' 0 4) (bg,en)).bind (pK l.length (l.drop (j+1))):=by
     rw[hgo];simp only[pK,h1,h2];rfl
    refine W.seq (W.seq (W.g ?_ (by simp[go_sem,h1,h2];rfl)))
    refine W.cf (W.skip ?_)
    refine W.seq (W.g ?_)
    refine W.block ?_
    refine W.loop (fun m' E' h'=> ∃q K bg en,m'=4-q/\q<=4/\ae E' 1= .pointer (some ⟨H.length,0,none⟩)/\ae E' 3= .map (some (H.length+1))/\ae E' 4= .map (some (H.length+2))/\ae E' 6= .pointer (some ⟨H.length+G.length,0,none⟩)/\ae E' 27= .slice (some ⟨n',i',none⟩) l.length k/\ae E' 28=O U l.length/\ae E' 29=O U j/\ae E' 42= .agg #[O U x.a0,O U x.a1,O U x.a2,O U x.a3]/\ae E' 43=O U q/\h'=H++K/\K.length=G.length+1/\at_ K 0= .cells [.slice (some ⟨n',i',none⟩) l.length k,O U loops] 32/\at_ K 1= .map (cx bg)/\at_ K 2= .map (cx en)/\at_ K G.length= .cells x.cells 73/\pK l.length l ([],[])=(qGo l.length x (List.range' q (4-q)) (bg,en)).bind (pK l.length (l.drop (j+1)))) 4
     ⟨0,G++[.cells x.cells 73],bg,en,rfl,by omega,by simp[ae,e1],by simp[ae,e3],by simp[ae,e4],by simp[ae],by simp[ae,e27],by simp[ae,e28],by simp[ae,e29],by simp[ae],by simp[ae],by simp[Cr.cells],by simp,by rw[ag (by omega),a0],by rw[ag (by omega),a1],by rw[ag (by omega),a2],bF _ _ _,hgo'⟩ ?_
    rintro m' E' h' ⟨q,K,bg,en,rfl,hq,d1,d3,d4,d6,d27,d28,d29,d42,d43,rfl,hK,a0,a1,a2,a3,hgo⟩
    have hm1:at_ (H++K) (H.length+1)= .map (cx bg):=by rw[aq,a1]
    have hm2:at_ (H++K) (H.length+2)= .map (cx en):=by rw[aq,a2]
    have hr0:aj (H++K) H.length 0=some (.slice (some ⟨n',i',none⟩) l.length k):=by rw[dH];unfold aj aP;rw[a0];rfl
    have hrx:ak (H++K) (H.length+G.length) 0 5=some x.cells:=by rw[aF];unfold ak aP;rw[a3];rfl
    by_cases hq4:q<4
    ·have hq':(q:Int)<4:=by omega
     have har:=x.arr hq4
     have hr4:List.range' q (4-q)=q::List.range' (q+1) (4-(q+1)):=by
      rw[show 4-q=(4-(q+1))+1 by omega,GM]
     rw[hr4]at hgo
     simp only[qGo]at hgo
     refine W.seq (W.g ?_ (by simp[go_sem,d43,hq'];rfl))
     refine W.seq (W.ct (W.skip ?_))
     refine W.seq (W.block ?_)
     refine W.seq (W.g ?_ (by simp[go_sem,d42,d43,hq',ix38,har];rfl))
     have hw2:=jz (n:=l.length) (by omega)
     have hcase:(decide (x.arc q<0)=true/\True)\/(decide (x.arc q<0)=false/\decide (2*(l.length:Int)<=x.arc q)=true)\/(decide (x.arc q<0)=false/\decide (2*(l.length:Int)<=x.arc q)=false):=by
      cases decide (x.arc q<0)<;>cases decide (2*(l.length:Int)<=x.arc q)<;>simp
     rcases hcase with ⟨k1,k2⟩|⟨k1,k2⟩|⟨k1,k2⟩
     ·refine W.seq (W.seq (W.g ?_ (by simp[go_sem,k1];rfl)))
      refine W.ct ?_
      refine W.seq (W.g ?_)
      have hf:eN l loops=false:=by rw[hsd _ hgo];simp only[gA,k1];rfl
      rw[hf]
      exact W.ret (Ends.quiet (by simp[go_sem]) rfl)
     ·refine W.seq (W.seq (W.g ?_ (by simp[go_sem,k1,k2,d1,hr0,hw2];rfl)))
      refine W.ct ?_ (by simp[go_sem,k2])
      refine W.seq (W.g ?_)
      have hf:eN l loops=false:=by rw[hsd _ hgo];simp only[gA,k1,k2];rfl
      rw[hf]
      exact W.ret (Ends.quiet (by simp[go_sem]) rfl)
     ·have hba:gA l.length (x.arc q)=false:=by simp only[gA,k1,k2];rfl
      rw[hba]at hgo
      refine W.seq (W.seq (W.g ?_ (by simp[go_sem,k1,k2,d1,hr0,hw2];rfl)))
      refine W.cf (W.skip ?_) (by simp[go_sem,k2])
      refine W.seq (W.region (Wl.s ?_ (by simp[go_sem,d6,hrx,Cr.cells];rfl)))
      refine Wl.o (Sc b64 (pB _ x q)) ?_
      refine Wl.nil ?_
      have k3:=lD hm1 (x.arc q)
      have k4:=lD hm2 (x.arc q)
      have k5:=rT hm1 (x.arc q)
      have k6:=rT hm2 (x.arc q)
      cases g:cS x.s q
      ·refine W.cf ?_ (by simp[go_sem,g])
       refine W.g ?_ (by simp[go_sem,d3,k3,k5];rfl)
       refine W.g ?_ (by simp[go_sem,d43];rfl)
       refine⟨4-(q+1),by omega,q+1,K.set 1 (.map (cx (iK bg (x.arc q)))),_,en,rfl,by omega,by simp[ae,d1],by simp[ae,d3],by simp[ae,d4],by simp[ae,d6],by simp[ae,d27],by simp[ae,d28],by simp[ae,d29],by simp[ae,d42],?_,rfl,by rw[EA];exact hK,by rw[af (by omega),a0],au (by omega) _,by rw[af (by omega),a2],by rw[af (by omega),a3],?_⟩
       ·simp only[ae,if_true];rw[aA (by omega)]
       ·rw[hgo,g];rfl
      ·refine W.ct ?_ (by simp[go_sem,g])
       refine W.g ?_ (by simp[go_sem,d4,k4,k6];rfl)
       refine W.g ?_ (by simp[go_sem,d43];rfl)
       refine⟨4-(q+1),by omega,q+1,K.set 2 (.map (cx (iK en (x.arc q)))),bg,_,rfl,by omega,by simp[ae,d1],by simp[ae,d3],by simp[ae,d4],by simp[ae,d6],by simp[ae,d27],by simp[ae,d28],by simp[ae,d29],by simp[ae,d42],?_,rfl,by rw[EA];exact hK,by rw[af (by omega),a0],by rw[af (by omega),a1],au (by omega) _,by rw[af (by omega),a3],?_⟩
       ·simp only[ae,if_true];rw[aA (by omega)]
       ·rw[hgo,g];rfl
    ·have hq4':q=4:=by omega
     subst hq4'
     refine W.seq (W.g ?_ (by simp[go_sem,d43];rfl))
     refine W.seq (W.cf (W.exit ?_))
     simp only[AX.then,AX.inBlock,if_true]
     refine W.g ?_ (by simp[go_sem,d29];rfl)
     refine⟨l.length-(j+1),by omega,j+1,K,bg,en,rfl,by omega,by simp[ae,d1],by simp[ae,d3],by simp[ae,d4],by simp[ae,d27],by simp[ae,d28],?_,rfl,by omega,a0,a1,a2,hgo⟩
     simp only[ae,if_true];rw[aA (by omega)]
  ·have hjl:j=l.length:=by omega
   subst hjl
   refine W.seq (W.g ?_ (by simp[go_sem,e28,e29];rfl))
   refine W.seq (W.cf (W.exit ?_))
   simp only[AX.then,AX.inBlock,if_true]
   rw[Fu]at hgo
   have hsb:=hsd _ hgo
   simp only[pK]at hsb
   clear hgo
   have hm1:at_ (H++G) (H.length+1)= .map (cx bg):=by rw[aq,a1]
   have hm2:at_ (H++G) (H.length+2)= .map (cx en):=by rw[aq,a2]
   have hr0:aj (H++G) H.length 0=some (.slice b l.length k):=by rw[dH];unfold aj aP;rw[a0];rfl
   refine W.seq (W.seq (W.g ?_ (by simp[go_sem,e1,hr0,jz (n:=l.length) (by omega)];rfl)))
   refine W.block ?_
   refine W.loop (fun m E h=> ∃j,m=2*l.length-j/\j<=2*l.length/\ae E 3= .map (some (H.length+1))/\ae E 4= .map (some (H.length+2))/\ae E 73=O U (2*l.length)/\ae E 74=O U j/\h=H++G/\eN l loops=(List.range' j (2*l.length-j)).all (rD (bg,en))) (2*l.length) ⟨0,by omega,by omega,by simp[ae,e3],by simp[ae,e4],by simp[ae],by simp[ae],rfl,hsb⟩ ?_
   rintro m E h ⟨j,rfl,hj,e3,e4,e73,e74,rfl,hsb⟩
   by_cases hlt:j<2*l.length
   ·have hlt':(j:Int)<2*(l.length:Int):=by omega
    have hr4:List.range' j (2*l.length-j)=j::List.range' (j+1) (2*l.length-(j+1)):=by
     rw[show 2*l.length-j=(2*l.length-(j+1))+1 by omega,GM]
    rw[hr4,List.all_cons]at hsb
    refine W.seq (W.g ?_ (by simp[go_sem,e73,e74,hlt'];rfl))
    refine W.seq (W.ct (W.skip ?_))
    refine W.seq (W.block ?_)
    refine W.seq (W.g ?_ (by simp[go_sem,e74];rfl))
    have k1:=lD hm1 (j:Int)
    have k2:=lD hm2 (j:Int)
    cases g1:(look bg j).getD 0!=1
    rotate_left
    ·refine W.seq (W.g ?_ (by simp[go_sem,e3,k1,g1];rfl))
     refine W.ct ?_
     refine W.seq (W.g ?_)
     have hf:eN l loops=false:=by rw[hsb];simp only[rD,g1];rfl
     rw[hf]
     exact W.ret (Ends.quiet (by simp[go_sem]) rfl)
    ·cases g2:(look en j).getD 0!=1
     rotate_left
     ·refine W.seq (W.g ?_ (by simp[go_sem,e3,e4,k1,k2,g1,g2];rfl))
      refine W.ct ?_
      refine W.seq (W.g ?_)
      have hf:eN l loops=false:=by rw[hsb];simp only[rD,g1,g2];rfl
      rw[hf]
      exact W.ret (Ends.quiet (by simp[go_sem]) rfl)
     ·refine W.seq (W.g ?_ (by simp[go_sem,e3,e4,k1,k2,g1,g2];rfl))
      refine W.cf (W.skip ?_)
      refine W.g ?_ (by simp[go_sem,e74];rfl)
      refine⟨2*l.length-(j+1),by omega,j+1,rfl,by omega,by simp[ae,e3],by simp[ae,e4],by simp[ae,e73],?_,rfl,?_⟩
      ·simp only[ae,if_true];rw[aA (by omega)]
      ·rw[hsb];simp only[rD,g1,g2];rfl
   ·have hjl:j=2*l.length:=by omega
    subst hjl
    refine W.seq (W.g ?_ (by simp[go_sem,e73,e74];rfl))
    refine W.seq (W.cf (W.exit ?_))
    simp only[AX.then,AX.inBlock,if_true]
    refine W.seq (W.g ?_)
    rw[F8]at hsb
    rw[hsb]
    exact W.ret (Ends.quiet (by simp[go_sem]) rfl)
 ·have hb:eN l loops=false:=by unfold eN;rw[g,if_pos rfl]
  rw[hb]
  have hcase:decide (200<(l.length:Int))=true\/(decide (200<(l.length:Int))=false/\decide (loops<0)=true)\/(decide (200<(l.length:Int))=false/\decide (loops<0)=false/\decide (200<loops)=true):=by
   revert g
   cases decide (200<(l.length:Int))<;>cases decide (loops<0)<;>cases decide (200<loops)<;>simp
  rcases hcase with h1|⟨h1,h2⟩|⟨h1,h2,h3⟩
  ·refine W.seq (W.seq (W.g ?_ (by simp[go_sem,h1];rfl)))
   refine W.ct ?_
   refine W.seq (W.g ?_)
   exact W.ret (Ends.quiet (by simp[go_sem]) rfl)
  ·refine W.seq (W.seq (W.g ?_ (by simp[go_sem,h1,h2];rfl)))
   refine W.ct ?_
   refine W.seq (W.g ?_)
   exact W.ret (Ends.quiet (by simp[go_sem]) rfl)
  ·refine W.seq (W.seq (W.g ?_ (by simp[go_sem,h1,h2,h3];rfl)))
   refine W.ct ?_
   refine W.seq (W.g ?_)
   exact W.ret (Ends.quiet (by simp[go_sem]) rfl)
end Go.Proofs.Ytjcomcgpjjianaa
