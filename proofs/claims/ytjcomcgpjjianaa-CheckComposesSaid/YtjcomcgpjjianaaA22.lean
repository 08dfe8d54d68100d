import Derived.Test.YtjcomcgpjjianaaA21
set_option linter.all false
set_option maxHeartbeats 16000000
set_option maxRecDepth 8000
open Go.Value renaming int→O
open Go.IntKind renaming i64→U
namespace Go.Proofs.Ytjcomcgpjjianaa
open Go.Ev
def ay(l:List Cr)(p:Nat×Nat):Int:=match l[p.1]? with|some x=>x.arc p.2|none=>0
def cn(l:List Cr)(p:Nat×Nat):Bool:=match l[p.1]? with|some x=>cS x.s p.2|none=>false
theorem dn{l:List Cr}{a:Int}{e:Bool}{p:Nat×Nat}:kT l a e p↔bt l p/\ay l p=a/\cn l p=e:=by
 constructor
 ·intro h
  refine⟨h.pl,?_⟩
  obtain⟨x,h1,h2,h3,h4⟩:=h
  simp only[ay,cn,h1]
  exact⟨h3,h4⟩
 ·rintro⟨⟨h1,h2⟩,h3,h4⟩
  have hx:l[p.1]? =some (l[p.1]'h1):=Ex h1
  simp only[ay,cn,hx]at h3 h4
  exact⟨_,hx,h2,h3,h4⟩
theorem zw(l:List Cr):(fL l).Nodup:=by
 unfold fL
 generalize l.length=n
 induction n with
 |zero=>simp
 |succ n ih=>
  rw[Fq (n:=n),FV,Gf]
  refine⟨ih,?_,?_⟩
  ·simp[Fq]
  ·intro a ha b hb e
   subst e
   simp only[Fi,E9,ET,FS]at ha hb
   obtain⟨c,h1,q,h2,rfl⟩:=ha
   obtain⟨c',rfl,q',h2',e⟩:=hb
   have:=congrArg Prod.fst e
   simp only at this;omega
def sm(n:Nat):List (Nat×Bool):=(List.range (2*n)).flatMap fun a=>[(a,true),(a,false)]
theorem qV{n:Nat}{y:Nat×Bool}:y∈sm n↔y.1<2*n:=by
 obtain⟨a,e⟩:=y
 simp only[sm,Fi,ET,EG,EK,or_false,Fe]
 constructor
 ·rintro⟨b,h1,⟨rfl,_⟩|⟨rfl,_⟩⟩<;>exact h1
 ·intro h
  refine⟨a,h,?_⟩
  cases e<;>simp
theorem wQ(n:Nat):(sm n).length=4*n:=by
 unfold sm
 rw[show 4*n=2*(2*n)by omega]
 generalize 2*n=m
 induction m with
 |zero=>rfl
 |succ m ih=>rw[Fq (n:=m),FV,Ez,ih];simp;omega
theorem zm(n:Nat):(sm n).Nodup:=by
 unfold sm
 generalize 2*n=m
 induction m with
 |zero=>simp
 |succ m ih=>
  rw[Fq (n:=m),FV,Gf]
  refine⟨ih,by simp,?_⟩
  intro a ha b hb e
  subst e
  simp only[Fi,ET,EG,EK,or_false]at ha hb
  obtain⟨c,h1,h2⟩:=ha
  obtain⟨c',rfl,h2'⟩:=hb
  rcases h2 with h2|h2<;>rcases h2' with h2'|h2'<;>(have:=(congrArg Prod.fst h2).symm.trans (congrArg Prod.fst h2');simp only at this;omega)
theorem ax.Eb{l:List Cr}(h1: ∀x∈l,x.s=1\/x.s= -1)(h2: ∀p,bt l p->0<=ay l p/\ay l p<2*l.length)(h3: ∀p p',bt l p->bt l p'->ay l p=ay l p'->cn l p=cn l p'->p=p'):ax l:=by
 have key:=rh (l:=(fL l).map fun p=>((ay l p).toNat,cn l p)) (m:=sm l.length) (jh (zw l) fun p hp p' hp' e=>by
  have q1:=h2 p (cW.1 hp)
  have q2:=h2 p' (cW.1 hp')
  have e1:=congrArg Prod.fst e
  have e2:=congrArg Prod.snd e
  simp only at e1 e2
  exact h3 p p' (cW.1 hp) (cW.1 hp') (by omega) e2)
  (fun y hy=>by
   obtain⟨p,hp,rfl⟩:=E9.1 hy
   have q1:=h2 p (cW.1 hp)
   exact qV.2 (by simp only;omega))
  (by rw[Fl,rA,wQ];omega)
 refine⟨h1,fun x hx q hq=> ?_,fun a e ha hb=> ?_,fun a e p p' hp hp'=> ?_⟩
 ·obtain⟨j,hj⟩:=Gs hx
  have:=h2 (j,q) ⟨(Ey.1 hj).1,hq⟩
  simp only[ay,hj]at this
  exact this
 ·obtain⟨p,hp,e'⟩:=E9.1 (key (a.toNat,e) (qV.2 (by simp only;omega)))
  have q1:=h2 p (cW.1 hp)
  have e1:=congrArg Prod.fst e'
  have e2:=congrArg Prod.snd e'
  simp only at e1 e2
  exact⟨p,dn.2 ⟨cW.1 hp,by omega,e2⟩⟩
 ·obtain⟨a1,a2,a3⟩:=dn.1 hp
  obtain⟨b1,b2,b3⟩:=dn.1 hp'
  exact h3 p p' a1 b1 (a2.trans b2.symm) (a3.trans b3.symm)
theorem surj_inj{α β:Type}[DecidableEq α][DecidableEq β]{f:α->β}{l:List α}{m:List β}(hm:m.Nodup)(hl:l.length<=m.length)(hs: ∀y∈m,∃x∈l,f x=y):
 ∀x∈l,∀x'∈l,f x=f x'->x=x':=by
 intro x hx x' hx' e
 refine Fs fun hne=> ?_
 have hs': ∀y∈m,∃z,z∈l.erase x'/\f z=y:=by
  intro y hy
  obtain⟨z,hz,rfl⟩:=hs y hy
  by_cases h:z=x'
  ·subst h;exact⟨x,(GP hne).2 hx,e⟩
  ·exact⟨z,(GP h).2 hz,rfl⟩
 have hp:0<l.length:=List.length_pos_of_mem hx'
 have hlen:(l.erase x').length=l.length-1:=GX hx'
 have:=mH m ((l.erase x').map f) hm fun y hy=>by obtain⟨z,hz,e⟩:=hs' y hy;exact E9.2 ⟨z,hz,e⟩
 rw[Fl]at this;omega
theorem ax.D9{l:List Cr}(h1: ∀x∈l,x.s=1\/x.s= -1)(h2: ∀p,bt l p->0<=ay l p/\ay l p<2*l.length)(h3: ∀(a:Int) e,0<=a->a<2*l.length-> ∃p,bt l p/\ay l p=a/\cn l p=e):ax l:=by
 have key:=surj_inj (f:=fun p=>((ay l p).toNat,cn l p)) (l:=fL l) (m:=sm l.length) (zm _) (by rw[rA,wQ];omega) (fun y hy=>by
  have hy':=qV.1 hy
  obtain⟨p,a,b,c⟩:=h3 y.1 y.2 (by omega) (by omega)
  exact⟨p,cW.2 a,by rw[b,c];simp⟩)
 refine ax.Eb h1 h2 fun p p' hp hp' e1 e2=>key p (cW.2 hp) p' (cW.2 hp') ?_
 simp only[e1,e2]
theorem ax.rng{l:List Cr}(hs:ax l){p:Nat×Nat}(hp:bt l p):0<=ay l p/\ay l p<2*l.length:=by
 obtain⟨x,hx,hm⟩:=ax.mem hp
 have:=hs.range x hm p.2 hp.2
 simpa only[ay,hx]using this
theorem ax.same{l:List Cr}(hs:ax l){p p':Nat×Nat}(hp:bt l p)(hp':bt l p')(h1:ay l p=ay l p')(h2:cn l p=cn l p'):p=p':=hs.uniq _ _ _ _ (dn.2 ⟨hp,rfl,rfl⟩) (dn.2 ⟨hp',h1.symm,h2.symm⟩)
theorem ax.ex'{l:List Cr}(hs:ax l){a:Int}(e:Bool)(h1:0<=a)(h2:a<2*l.length): ∃p,bt l p/\ay l p=a/\cn l p=e:=by
 obtain⟨p,hp⟩:=hs.ex a e h1 h2
 exact⟨p,dn.1 hp⟩
def Cr.put(x:Cr)(q:Nat)(v:Int):Cr:=match q with| 0=>{x with a0:=v}| 1=>{x with a1:=v}| 2=>{x with a2:=v}|_=>{x with a3:=v}
theorem Cr.Es{x:Cr}{q:Nat}{v:Int}(hq:q<4){q':Nat}(hq':q'<4):(x.put q v).arc q'=if q'=q then v else x.arc q':=by
 match q,hq with
 | 0,_=>match q',hq' with| 0,_=>rfl| 1,_=>rfl| 2,_=>rfl| 3,_=>rfl
 | 1,_=>match q',hq' with| 0,_=>rfl| 1,_=>rfl| 2,_=>rfl| 3,_=>rfl
 | 2,_=>match q',hq' with| 0,_=>rfl| 1,_=>rfl| 2,_=>rfl| 3,_=>rfl
 | 3,_=>match q',hq' with| 0,_=>rfl| 1,_=>rfl| 2,_=>rfl| 3,_=>rfl
theorem Cr.En(x:Cr)(q:Nat)(v:Int):(x.put q v).s=x.s:=by
 unfold Cr.put;split<;>rfl
def bE(l:List Cr)(p:Nat×Nat)(v:Int):List Cr:=match l[p.1]? with|some x=>l.set p.1 (x.put p.2 v)|none=>l
theorem aU(l:List Cr)(p:Nat×Nat)(v:Int):(bE l p v).length=l.length:=by
 unfold bE;split<;>simp
theorem cC{l:List Cr}{p:Nat×Nat}(hp:bt l p)(v:Int){p':Nat×Nat}(hp':p'.2<4):ay (bE l p v) p'=if p'=p then v else ay l p':=by
 obtain⟨x,hx,_⟩:=ax.mem hp
 unfold bE
 simp only[hx,ay,Ff]
 by_cases e:p.1=p'.1
 ·have hx':l[p'.1]? =some x:=e▸hx
  simp only[e,if_true,hx',Option.map_some]
  have hlt:p'.1<l.length:=e▸hp.1
  simp only[hlt,if_true]
  rw[Cr.Es hp.2 hp']
  by_cases e2:p'.2=p.2
  ·rw[if_pos e2,if_pos (Gh e.symm e2)]
  ·rw[if_neg e2,if_neg (fun h=>e2 (by rw[h]))]
 ·simp only[e,if_false]
  rw[if_neg (fun h=>e (by rw[h]))]
theorem iI(l:List Cr)(p:Nat×Nat)(v:Int)(p':Nat×Nat):cn (bE l p v) p'=cn l p':=by
 unfold bE
 cases hx:l[p.1]? with
 |none=>rfl
 |some x=>
  simp only[cn,Ff]
  by_cases e:p.1=p'.1
  ·have hx':l[p'.1]? =some x:=e▸hx
   have hlt:p'.1<l.length:=(Ey.1 hx').1
   simp only[e,if_true,hx',hlt,Cr.En]
  ·simp only[e,if_false]
theorem eU{l:List Cr}(h: ∀x∈l,x.s=1\/x.s= -1)(p:Nat×Nat)(v:Int): ∀x∈bE l p v,x.s=1\/x.s= -1:=by
 unfold bE
 cases hx:l[p.1]? with
 |none=>exact h
 |some y=>
  intro x hm
  rcases List.mem_or_eq_of_mem_set hm with hm|rfl
  ·exact h x hm
  ·rw[Cr.En];exact h y (EE hx)
theorem gP(l:List Cr)(x:Cr)(p:Nat×Nat):ay (l++[x]) p=if p.1<l.length then ay l p else if p.1=l.length then x.arc p.2 else 0:=by
 unfold ay
 by_cases h:p.1<l.length
 ·rw[Fo h,if_pos h]
 ·rw[if_neg h,FK (by omega)]
  by_cases e:p.1=l.length
  ·rw[if_pos e,e,F8];rfl
  ·rw[if_neg e]
   have:p.1-l.length=(p.1-l.length-1)+1:=by omega
   rw[this];rfl
theorem pj(l:List Cr)(x:Cr)(p:Nat×Nat):cn (l++[x]) p=if p.1<l.length then cn l p else if p.1=l.length then cS x.s p.2 else false:=by
 unfold cn
 by_cases h:p.1<l.length
 ·rw[Fo h,if_pos h]
 ·rw[if_neg h,FK (by omega)]
  by_cases e:p.1=l.length
  ·rw[if_pos e,e,F8];rfl
  ·rw[if_neg e]
   have:p.1-l.length=(p.1-l.length-1)+1:=by omega
   rw[this];rfl
def aW(l:List Cr)(a:Nat)(e:Bool):Nat×Nat:=((bi a e 0 l).1.toNat,(bi a e 0 l).2.toNat)
def thr(p:Nat×Nat):Nat×Nat:=(p.1,(p.2+2)%4)
def bW(l:List Cr)(p:Nat×Nat):Nat:=(ay l p).toNat
def stp(l:List Cr)(a:Nat):Nat:=bW l (thr (aW l a true))
theorem ax.pl{l:List Cr}(hs:ax l){a:Nat}(e:Bool)(h:a<2*l.length):
 bt l (aW l a e)/\ay l (aW l a e)=a/\cn l (aW l a e)=e/\bi a e 0 l=(((aW l a e).1:Int),((aW l a e).2:Int)):=by
 obtain⟨p,hp⟩:=hs.ex a e (by omega) (by omega)
 have h1:=hs.place hp
 have e':aW l a e=p:=by unfold aW;rw[h1];simp
 obtain⟨a1,a2,a3⟩:=dn.1 hp
 rw[e']
 exact⟨a1,a2,a3,h1⟩
theorem ax.an{l:List Cr}(hs:ax l){p:Nat×Nat}(hp:bt l p):((bW l p:Nat):Int)=ay l p/\bW l p<2*l.length:=by
 have:=hs.rng hp
 unfold bW
 omega
theorem ax.plOf_arcN{l:List Cr}(hs:ax l){p:Nat×Nat}(hp:bt l p):aW l (bW l p) (cn l p)=p:=by
 obtain⟨h1,h2⟩:=hs.an hp
 obtain⟨a1,a2,a3,_⟩:=hs.pl (cn l p) h2
 exact hs.same a1 hp (a2.trans h1) a3
theorem cX{l:List Cr}{p:Nat×Nat}(hp:bt l p):bt l (thr p):=⟨hp.1,F7 _ (by omega)⟩
theorem B9{p:Nat×Nat}(h:p.2<4):thr (thr p)=p:=Gh rfl (by simp only[thr];omega)
theorem yT{s:Int}(hs:s=1\/s= -1){q:Nat}(hq:q<4):cS s ((q+2)%4:Nat)= !cS s q:=by
 have:q=0\/q=1\/q=2\/q=3:=by omega
 rcases hs with rfl|rfl<;>rcases this with rfl|rfl|rfl|rfl<;>decide
theorem ax.in_thr{l:List Cr}(hs:ax l){p:Nat×Nat}(hp:bt l p):cn l (thr p)= !cn l p:=by
 obtain⟨x,hx,hm⟩:=ax.mem hp
 simp only[cn,thr,hx]
 exact yT (hs.sign x hm) hp.2
theorem ax.stp_lt{l:List Cr}(hs:ax l)(a:Nat)(h:a<2*l.length):stp l a<2*l.length:=(hs.an (cX (hs.pl true h).1)).2
theorem ax.stp_st{l:List Cr}(hs:ax l){a:Nat}(h:a<2*l.length):aW l (stp l a) false=thr (aW l a true):=by
 obtain⟨a1,a2,a3,_⟩:=hs.pl true h
 have:=hs.plOf_arcN (cX a1)
 rw[hs.in_thr a1,a3]at this
 exact this
theorem ax.stp_inj{l:List Cr}(hs:ax l)(a b:Nat)(ha:a<2*l.length)(hb:b<2*l.length)(h:stp l a=stp l b):a=b:=by
 have h1:=hs.stp_st ha
 have h2:=hs.stp_st hb
 rw[h]at h1
 obtain⟨a1,a2,a3,_⟩:=hs.pl true ha
 obtain⟨b1,b2,b3,_⟩:=hs.pl true hb
 have e:=congrArg thr (h1.symm.trans h2)
 rw[B9 a1.2,B9 b1.2]at e
 rw[e]at a2
 have:=a2.symm.trans b2
 omega
theorem ax.stp_back{l:List Cr}(hs:ax l){a:Nat}(h:a<2*l.length): ∃k,1<=k/\k<=2*l.length/\it (stp l) k a=a:=by
 have:=BX (S:=fun a=>a<2*l.length) (L:=List.range (2*l.length)) (fun x hx=>ET.2 hx) hs.stp_lt hs.stp_inj h
 rwa [Gp]at this
theorem ax.it_lt{l:List Cr}(hs:ax l){a:Nat}(h:a<2*l.length)(k:Nat):it (stp l) k a<2*l.length:=jt (S:=fun a=>a<2*l.length) hs.stp_lt h k
def fF(l:List Cr)(out:List Nat)(a:Nat):Prop:=a<2*l.length/\ ¬(aW l a false).1∈out
def lB(l:List Cr)(out:List Nat)(a:Nat)(k:Nat):Prop:= ¬(aW l (it (stp l) k a) true).1∈out/\ ∀j,j<k->(aW l (it (stp l) j a) true).1∈out
theorem lB.same{l:List Cr}{out:List Nat}{a k k':Nat}(h:lB l out a k)(h':lB l out a k'):k=k':=by
 rcases Ge k k' with e|e|e
 ·exact absurd (h'.2 k e) h.1
 ·exact e
 ·exact absurd (h.2 k' e) h'.1
theorem ax.last_ex{l:List Cr}(hs:ax l){out:List Nat}{a:Nat}(h:fF l out a): ∃k,k<2*l.length/\lB l out a k:=by
 obtain⟨k,h1,h2,h3⟩:=hs.stp_back h.1
 obtain⟨k,rfl⟩: ∃k',k=k'+1:=⟨k-1,by omega⟩
 have h4: ¬(aW l (it (stp l) k a) true).1∈out:=by
  have:=hs.stp_st (hs.it_lt h.1 k)
  have e:stp l (it (stp l) k a)=a:=h3
  rw[e]at this
  have e1:=congrArg Prod.fst this
  simp only[thr]at e1
  rw[<-e1];exact h.2
 obtain⟨k',a1,a2,a3⟩:=least (p:=fun k=> ¬(aW l (it (stp l) k a) true).1∈out) k h4
 exact⟨k',by omega,a2,fun j hj=>Fs (a3 j hj)⟩
open Classical in
noncomputable def su(l:List Cr)(out:List Nat)(a:Nat):Nat:=if h: ∃k,k<2*l.length/\lB l out a k then Classical.choose h else 0
theorem ax.lk{l:List Cr}(hs:ax l){out:List Nat}{a:Nat}(h:fF l out a):su l out a<2*l.length/\lB l out a (su l out a):=by
 have hx:=hs.last_ex h
 unfold su
 rw[dif_pos hx]
 exact Fm hx
noncomputable def oE(l:List Cr)(out:List Nat)(a:Nat):Nat:=it (stp l) (su l out a) a
theorem ax.last_lt{l:List Cr}(hs:ax l){out:List Nat}{a:Nat}(h:fF l out a):oE l out a<2*l.length:=hs.it_lt h.1 _
theorem ax.last_inj{l:List Cr}(hs:ax l){out:List Nat}: ∀{k k' a a':Nat},fF l out a->fF l out a'->lB l out a k->lB l out a' k'->it (stp l) k a=it (stp l) k' a'->k<=k'->a=a':=by
 intro k k' a a' ha ha' hk hk' e hle
 rw[show k'=k+(k'-k)by omega,mF]at e
 have e2:=qY (S:=fun a=>a<2*l.length) hs.stp_lt hs.stp_inj ha.1 (hs.it_lt ha'.1 _) k e
 by_cases h:k'-k=0
 ·rw[h]at e2;exact e2
 ·obtain⟨m,hm⟩: ∃m,k'-k=m+1:=⟨k'-k-1,by omega⟩
  rw[hm]at e2
  have h1:=hk'.2 m (by omega)
  have h2:=hs.stp_st (hs.it_lt ha'.1 m)
  have e3:stp l (it (stp l) m a')=a:=e2.symm
  rw[e3]at h2
  have e4:=congrArg Prod.fst h2
  simp only[thr]at e4
  exact absurd (e4▸h1) ha.2
theorem ax.lastA_inj{l:List Cr}(hs:ax l){out:List Nat}{a a':Nat}(ha:fF l out a)(ha':fF l out a')(e:oE l out a=oE l out a'):a=a':=by
 have h1:=(hs.lk ha).2
 have h2:=(hs.lk ha').2
 rcases Nat.le_total (su l out a) (su l out a')with h|h
 ·exact hs.last_inj ha ha' h1 h2 e h
 ·exact(hs.last_inj ha' ha h2 h1 e.symm h).symm
theorem ax.last_surj{l:List Cr}(hs:ax l){out:List Nat}{b:Nat}(hb:b<2*l.length)(h: ¬(aW l b true).1∈out): ∃a,fF l out a/\oE l out a=b:=by
 obtain⟨k,h1,h2,h3⟩:=hs.stp_back hb
 have h4: ¬(aW l (it (stp l) (k-(k-1)) b) false).1∈out:=by
  rw[show k-(k-1)=0+1 by omega]
  have:=congrArg Prod.fst (hs.stp_st hb)
  simp only[thr]at this
  show¬(aW l (stp l b) false).1∈out
  rw[this];exact h
 obtain⟨j,a1,a2,a3⟩:=least (p:=fun j=> ¬(aW l (it (stp l) (k-j) b) false).1∈out) (k-1) h4
 have hst:fF l out (it (stp l) (k-j) b):=⟨hs.it_lt hb _,a2⟩
 have hit: ∀i,it (stp l) i (it (stp l) (k-j) b)=it (stp l) (i+(k-j)) b:=fun i=>(mF _ i _ _).symm
 have hj:it (stp l) j (it (stp l) (k-j) b)=b:=by rw[hit,show j+(k-j)=k by omega,h3]
 have hl:lB l out (it (stp l) (k-j) b) j:=by
  refine⟨by rw[hj];exact h,fun i hi=> ?_⟩
  have q:=Fs (a3 (j-i-1) (by omega))
  have e:=congrArg Prod.fst (hs.stp_st (hs.it_lt hst.1 i))
  simp only[thr]at e
  rw[<-e]
  have e2:stp l (it (stp l) i (it (stp l) (k-j) b))=it (stp l) (k-(j-i-1)) b:=by
   show it (stp l) (i+1) (it (stp l) (k-j) b)=_
   rw[hit,show i+1+(k-j)=k-(j-i-1)by omega]
  rw[e2];exact q
 refine⟨_,hst,?_⟩
 have:=(hs.lk hst).2.same hl
 rw[oE,this,hj]
def fA(l:List Cr)(out:List Nat)(k:Nat):List Nat:=(List.range k).filter fun a=> !(out.contains (aW l a false).1)
def jD(out:List Nat)(k:Nat):List Nat:=(List.range k).filter fun c=> !(out.contains c)
noncomputable def dc(l:List Cr)(out:List Nat):Nat->List Cr
 | 0=>l
 |k+1=>if(aW l k false).1∈out then dc l out k else bE (dc l out k) (aW l (oE l out k) true) k
def va:List Nat->Nat->List (Int×Int)
 | [],_=>[]
 |a::r,i=>((a:Int),(i:Int))::va r (i+1)
def eG(l:List Cr)(out:List Nat)(k:Nat):List (Int×Int):=va (fA l out k) 0
def rkA(l:List Cr)(out:List Nat)(a:Int):Int:=(look (eG l out (2*l.length)) a).getD 0
def Cr.map(f:Int->Int)(x:Cr):Cr:=⟨f x.a0,f x.a1,f x.a2,f x.a3,x.s⟩
def fD(l:List Cr)(c:Nat):Cr:=(l[c]?).getD ⟨0,0,0,0,0⟩
noncomputable def iB(l:List Cr)(out:List Nat)(k:Nat):List Cr:=(jD out k).map fun c=>(fD (dc l out (2*l.length)) c).map (rkA l out)
noncomputable def js(l:List Cr)(out:List Nat):List Cr:=iB l out l.length
theorem zH(a:Nat): ∀(L:List Nat) (i:Nat),va (L++[a]) i=va L i++[((a:Int),((i+L.length:Nat):Int))]
 | [],i=>rfl
 |b::L,i=>by
  simp only[List.cons_append,va,zH a L (i+1),List.length_cons]
  rw[show i+1+L.length=i+(L.length+1)by omega]
theorem B5(a:Nat): ∀(L:List Nat) (i j:Nat),a∈L-> ∃m,m<L.length/\L[m]? =some a/\(cE (a:Int) (va L i) j).map (·.2)=some ((i+m:Nat):Int)
 | [],_,_,h=>by cases h
 |b::L,i,j,h=>by
  by_cases e:a=b
  ·subst e
   exact⟨0,by simp,rfl,by simp[va,cE]⟩
  ·have hm:a∈L:=by
    rcases EG.1 h with h|h
    ·exact absurd h e
    ·exact h
   obtain⟨m,h1,h2,h3⟩:=B5 a L (i+1) (j+1) hm
   refine⟨m+1,by simpa using h1,by simpa using h2,?_⟩
   have hb:((a:Int)==(b:Int))=false:=by simp;omega
   simp only[va,cE,hb,EO,if_false]
   rw[h3,show i+1+m=i+(m+1)by omega]
theorem il{l:List Cr}{out:List Nat}{k a:Nat}:a∈fA l out k↔a<k/\ ¬(aW l a false).1∈out:=by
 simp[fA]
theorem qT{out:List Nat}{k c:Nat}:c∈jD out k↔c<k/\ ¬c∈out:=by
 simp[jD]
theorem dG(l:List Cr)(out:List Nat): ∀k,(dc l out k).length=l.length
 | 0=>rfl
 |k+1=>by
  simp only[dc];split
  ·exact dG l out k
  ·rw[aU,dG l out k]
theorem u7(l:List Cr)(out:List Nat)(p:Nat×Nat): ∀k,cn (dc l out k) p=cn l p
 | 0=>rfl
 |k+1=>by
  simp only[dc];split
  ·exact u7 l out p k
  ·rw[iI,u7 l out p k]
theorem oS{l:List Cr}(h: ∀x∈l,x.s=1\/x.s= -1)(out:List Nat): ∀k,∀x∈dc l out k,x.s=1\/x.s= -1
 | 0=>h
 |k+1=>by
  simp only[dc];split
  ·exact oS h out k
  ·exact eU (oS h out k) _ _
theorem cz{l l':List Cr}(h:l'.length=l.length){p:Nat×Nat}:bt l' p↔bt l p:=by unfold bt;rw[h]
theorem ax.next_out{l:List Cr}(hs:ax l)(out:List Nat){p:Nat×Nat}(hp:bt l p)(hi:cn l p=false): ∀k,k<=2*l.length->ay (dc l out k) p=ay l p
 | 0,_=>rfl
 |k+1,hk=>by
  simp only[dc];split
  ·exact hs.next_out out hp hi k (by omega)
  ·rename_i h
   have hst:fF l out k:=⟨by omega,h⟩
   obtain⟨a1,_,a3,_⟩:=hs.pl true (hs.last_lt hst)
   rw[cC ((cz (dG l out k)).2 a1) _ hp.2,if_neg (fun e=>by rw[e,a3]at hi;cases hi)]
   exact hs.next_out out hp hi k (by omega)
theorem ax.next_in{l:List Cr}(hs:ax l)(out:List Nat){a:Nat}(ha:fF l out a): ∀k,k<=2*l.length->a<k->ay (dc l out k) (aW l (oE l out a) true)=a
 | 0,_,h=>by omega
 |k+1,hk,h=>by
  obtain⟨b1,b2,b3,_⟩:=hs.pl true (hs.last_lt ha)
  simp only[dc];split
  ·rename_i h'
   exact hs.next_in out ha k (by omega) (Nat.lt_of_le_of_ne (by omega) fun e=>ha.2 (e▸h'))
  ·rename_i h'
   have hst:fF l out k:=⟨by omega,h'⟩
   obtain⟨a1,a2,a3,_⟩:=hs.pl true (hs.last_lt hst)
   rw[cC ((cz (dG l out k)).2 a1) _ b1.2]
   by_cases e:a=k
   ·subst e;rw[if_pos rfl]
   ·rw[if_neg]
    ·exact hs.next_in out ha k (by omega) (by omega)
    ·intro e2
     rw[e2]at b2
     have:=b2.symm.trans a2
     exact e (hs.lastA_inj ha hst (by omega))
theorem ax.next_start{l:List Cr}(hs:ax l)(out:List Nat){p:Nat×Nat}(hp:bt l p)(ho: ¬p.1∈out):
 ∃a,fF l out a/\ay (dc l out (2*l.length)) p=a/\(cn l p=false->aW l a false=p)/\(cn l p=true->aW l (oE l out a) true=p):=by
 have hq:=hs.plOf_arcN hp
 obtain⟨h1,h2⟩:=hs.an hp
 cases hi:cn l p with
 |false=>
  rw[hi]at hq
  exact⟨bW l p,⟨h2,by rw[hq];exact ho⟩,by rw[hs.next_out out hp hi _ (EJ _),h1],fun _=>hq,(fun h=>by cases h)⟩
 |true=>
  rw[hi]at hq
  obtain⟨a,ha,e⟩:=hs.last_surj (out:=out) h2 (by rw[hq];exact ho)
  refine⟨a,ha,?_,(fun h=>by cases h),fun _=>by rw[e,hq]⟩
  have:=hs.next_in out ha _ (EJ _) ha.1
  rw[e,hq]at this;exact this
theorem ax.starts_le{l:List Cr}(hs:ax l)(out:List Nat):(fA l out (2*l.length)).length<=2*(jD out l.length).length:=by
 have hlen: ∀L:List Nat,(L.flatMap fun c=>[(c,true),(c,false)]).length=2*L.length:=by
  intro L;induction L with
  |nil=>rfl
  |cons c L ih=>rw[FG,Ez,ih];simp;omega
 have key:=xK (l:=fA l out (2*l.length)) (m:=(jD out l.length).flatMap fun c=>[(c,true),(c,false)])
  (f:=fun a=>((aW l a false).1,decide ((aW l a false).2=2))) ((Gg).filter _) (fun a ha b hb e=>by
   obtain⟨ha,_⟩:=il.1 ha
   obtain⟨hb,_⟩:=il.1 hb
   obtain⟨a1,a2,a3,_⟩:=hs.pl false ha
   obtain⟨b1,b2,b3,_⟩:=hs.pl false hb
   have e1:=congrArg Prod.fst e
   have e2:=congrArg Prod.snd e
   simp only[decide_eq_decide]at e1 e2
   generalize aW l a false=p at*
   generalize aW l b false=p' at*
   have hpp:p=p':=by
    obtain⟨x,hx,hm⟩:=ax.mem a1
    have hx':l[p'.1]? =some x:=e1▸hx
    simp only[cn,hx,hx']at a3 b3
    have c1:p.2=0\/p.2=1\/p.2=2\/p.2=3:=by have:=a1.2;omega
    have c2:p'.2=0\/p'.2=1\/p'.2=2\/p'.2=3:=by have:=b1.2;omega
    refine Gh e1 ?_
    rcases hs.sign x hm with h|h<;>rw[h]at a3 b3<;>rcases c1 with c|c|c|c<;>rw[c]at a3 e2<;>rcases c2 with d|d|d|d<;>rw[d]at b3 e2<;>
     first| (rw[c,d];done)| (exact absurd a3 (by decide))| (exact absurd b3 (by decide))| (simp at e2)
   rw[hpp]at a2
   have:=a2.symm.trans b2
   omega) (fun a ha=>by
   obtain⟨h1,h2⟩:=il.1 ha
   have h3:=(hs.pl false h1).1.1
   refine Fi.2 ⟨_,qT.2 ⟨h3,h2⟩,?_⟩
   cases decide ((aW l a false).2=2)<;>simp)
 rwa [hlen]at key
theorem Cr.Ed(f:Int->Int)(x:Cr){q:Nat}(hq:q<4):(x.map f).arc q=f (x.arc q):=by
 match q,hq with
 | 0,_=>rfl
 | 1,_=>rfl
 | 2,_=>rfl
 | 3,_=>rfl
theorem ax.left_at{l:List Cr}(_:ax l)(out:List Nat){p:Nat×Nat}(hp:bt (js l out) p):
 ∃c,(jD out l.length)[p.1]? =some c/\bt l (c,p.2)/\ ¬c∈out/\ay (js l out) p=rkA l out (ay (dc l out (2*l.length)) (c,p.2))/\cn (js l out) p=cn l (c,p.2):=by
 have hp1:p.1<(jD out l.length).length:=by have:=hp.1;simpa[js,iB]using this
 have hc:(jD out l.length)[p.1]? =some ((jD out l.length)[p.1]'hp1):=Ex hp1
 generalize (jD out l.length)[p.1]'hp1=c at hc
 obtain⟨h1,h2⟩:=qT.1 (EE hc)
 have hlt:c<(dc l out (2*l.length)).length:=by rw[dG];exact h1
 have hx:=Ex hlt
 generalize (dc l out (2*l.length))[c]=x at hx
 have hl:(js l out)[p.1]? =some (x.map (rkA l out)):=by
  simp only[js,iB,EM,hc,Option.map_some,fD,hx,Option.getD_some]
 refine⟨c,hc,⟨h1,hp.2⟩,h2,?_,?_⟩
 ·simp only[ay,hl,hx];exact Cr.Ed _ _ hp.2
 ·rw[<-u7 l out (c,p.2) (2*l.length)]
  simp only[cn,hl,hx];rfl
theorem ax.rk{l:List Cr}(_:ax l)(out:List Nat){a:Nat}(h:fF l out a): ∃m,m<(fA l out (2*l.length)).length/\(fA l out (2*l.length))[m]? =some a/\rkA l out a=m:=by
 obtain⟨m,h1,h2,h3⟩:=B5 a (fA l out (2*l.length)) 0 0 (il.2 h)
 refine⟨m,h1,h2,?_⟩
 unfold rkA look eG
 rw[h3,EU];rfl
theorem ax.left{l:List Cr}(hs:ax l)(out:List Nat):ax (js l out):=by
 have hlen:(js l out).length=(jD out l.length).length:=by simp[js,iB]
 refine ax.Eb ?_ ?_ ?_
 ·intro x hx
  simp only[js,iB,E9]at hx
  obtain⟨c,hc,rfl⟩:=hx
  obtain⟨h1,h2⟩:=qT.1 hc
  have hlt:c<(dc l out (2*l.length)).length:=by rw[dG];exact h1
  have hx:=Ex hlt
  have:=oS hs.sign out _ _ (EE hx)
  simp only[fD,hx,Option.getD_some]
  exact this
 ·intro p hp
  obtain⟨c,h1,h2,h3,h4,h5⟩:=hs.left_at out hp
  obtain⟨a,k1,k2,_,_⟩:=hs.next_start out h2 h3
  obtain⟨m,m1,_,m3⟩:=hs.rk out k1
  have:=hs.starts_le out
  rw[h4,k2,m3,hlen];omega
 ·intro p p' hp hp' e1 e2
  obtain⟨c,h1,h2,h3,h4,h5⟩:=hs.left_at out hp
  obtain⟨c',h1',h2',h3',h4',h5'⟩:=hs.left_at out hp'
  obtain⟨a,k1,k2,k3,k4⟩:=hs.next_start out h2 h3
  obtain⟨a',k1',k2',k3',k4'⟩:=hs.next_start out h2' h3'
  obtain⟨m,m1,m2,m3⟩:=hs.rk out k1
  obtain⟨m',m1',m2',m3'⟩:=hs.rk out k1'
  rw[h4,h4',k2,k2',m3,m3']at e1
  have em:m=m':=by omega
  subst em
  have ea:a=a':=by rw[m2]at m2';exact Fj m2'
  subst ea
  have ec:(c,p.2)=(c',p'.2):=by
   rw[h5,h5']at e2
   cases hi:cn l (c,p.2)with
   |false=>rw[<-k3 hi,<-k3' (e2▸hi)]
   |true=>rw[<-k4 hi,<-k4' (e2▸hi)]
  have e3:=congrArg Prod.fst ec
  have e4:=congrArg Prod.snd ec
  simp only at e3 e4
  subst e3
  refine Gh ?_ e4
  have hn:(jD out l.length).Nodup:=(Gg).filter _
  exact(Hq (Ey.1 h1).1 hn).1 (h1.trans h1'.symm)
def Cr.has(x:Cr)(a:Int)(e:Bool):Prop:= ∃q,q<4/\x.arc q=a/\cS x.s q=e
def kx(up:Bool)(s a x y:Int):Cr:=if up=true then(if s=1 then⟨x,x,y,a,1⟩else⟨x,a,y,x, -1⟩)else(if s=1 then⟨a,y,x,x,1⟩else⟨a,x,x,y, -1⟩)
theorem kx_has(up:Bool){s:Int}(hs:s=1\/s= -1)(a x y:Int):(kx up s a x y).has a true/\(kx up s a x y).has y false/\(kx up s a x y).has x true/\(kx up s a x y).has x false:=by
 cases up<;>rcases hs with rfl|rfl
 ·exact⟨⟨0,by omega,rfl,rfl⟩,⟨1,by omega,rfl,rfl⟩,⟨3,by omega,rfl,rfl⟩,⟨2,by omega,rfl,rfl⟩⟩
 ·exact⟨⟨0,by omega,rfl,rfl⟩,⟨3,by omega,rfl,rfl⟩,⟨1,by omega,rfl,rfl⟩,⟨2,by omega,rfl,rfl⟩⟩
 ·exact⟨⟨3,by omega,rfl,rfl⟩,⟨2,by omega,rfl,rfl⟩,⟨0,by omega,rfl,rfl⟩,⟨1,by omega,rfl,rfl⟩⟩
 ·exact⟨⟨1,by omega,rfl,rfl⟩,⟨2,by omega,rfl,rfl⟩,⟨0,by omega,rfl,rfl⟩,⟨3,by omega,rfl,rfl⟩⟩
theorem BG(up:Bool)(s a x y:Int):(kx up s a x y).s=1\/(kx up s a x y).s= -1:=by
 unfold kx;split<;>split<;>simp
theorem kx_arc(up:Bool)(s a x y:Int)(q:Nat):(kx up s a x y).arc q=a\/(kx up s a x y).arc q=x\/(kx up s a x y).arc q=y:=by
 unfold kx Cr.arc
 split<;>split<;>split<;>simp
theorem ax.app{l:List Cr}{x:Cr}(h1: ∀x∈l,x.s=1\/x.s= -1)(h2:x.s=1\/x.s= -1)(h3: ∀p,bt l p->0<=ay l p/\ay l p<2*l.length+2)(h4: ∀q,q<4->0<=x.arc q/\x.arc q<2*l.length+2)(h5: ∀a e,0<=a->a<2*(l.length:Int)+2->(∃p,bt l p/\ay l p=a/\cn l p=e)\/x.has a e):ax (l++[x]):=by
 refine ax.D9 ?_ ?_ ?_
 ·intro y hy
  rcases EY.1 hy with hy|hy
  ·exact h1 y hy
  ·rw[FS.1 hy];exact h2
 ·intro p hp
  have hlen:((l++[x]).length:Int)=l.length+1:=by simp
  rw[gP,hlen]
  have hp1:=hp.1
  rw[Ez]at hp1
  by_cases h:p.1<l.length
  ·rw[if_pos h]
   have:=h3 p ⟨h,hp.2⟩
   omega
  ·have:p.1=l.length:=by simp at hp1;omega
   rw[if_neg h,if_pos this]
   have:=h4 p.2 hp.2
   omega
 ·intro a e ha hb
  have hlen:((l++[x]).length:Int)=l.length+1:=by simp
  rw[hlen]at hb
  rcases h5 a e ha (by omega)with ⟨p,q1,q2,q3⟩|⟨q,q1,q2,q3⟩
  ·refine⟨p,⟨by rw[Ez];have:=q1.1;omega,q1.2⟩,?_,?_⟩
   ·rw[gP,if_pos q1.1,q2]
   ·rw[pj,if_pos q1.1,q3]
  ·refine⟨(l.length,q),⟨by simp,q1⟩,?_,?_⟩
   ·rw[gP,if_neg (Nat.lt_irrefl _),if_pos rfl,q2]
   ·rw[pj,if_neg (Nat.lt_irrefl _),if_pos rfl,q3]
theorem ax.setP_ex{l:List Cr}(hs:ax l){c:Nat×Nat}(hc:bt l c)(v:Int){a:Int}(e:Bool)(h1:0<=a)(h2:a<2*l.length):
 (∃p,bt l p/\ay (bE l c v) p=a/\cn (bE l c v) p=e)\/(a=ay l c/\e=cn l c):=by
 obtain⟨p,q1,q2,q3⟩:=hs.ex' e h1 h2
 by_cases h:p=c
 ·subst h;exact .inr ⟨q2.symm,q3.symm⟩
 ·exact .inl ⟨p,q1,by rw[cC hc _ q1.2,if_neg h,q2],by rw[iI,q3]⟩
theorem ax.kink{l:List Cr}(hs:ax l)(up:Bool){s:Int}(h:s=1\/s= -1){a:Nat}(ha:a<2*l.length):
 ax (bE l (aW l a true) (2*l.length+1:Nat)++[kx up s a (2*l.length:Nat) (2*l.length+1:Nat)]):=by
 obtain⟨a1,a2,a3,_⟩:=hs.pl true ha
 generalize aW l a true=c at*
 obtain⟨k1,k2,k3,k4⟩:=kx_has up h (a:Int) ((2*l.length:Nat):Int) ((2*l.length+1:Nat):Int)
 refine ax.app (eU hs.sign _ _) (BG _ _ _ _ _) ?_ ?_ ?_
 ·intro p hp
  rw[cz (aU _ _ _)]at hp
  rw[cC a1 _ hp.2,aU]
  have:=hs.rng hp
  split<;>omega
 ·intro q _
  rw[aU]
  rcases kx_arc up s (a:Int) ((2*l.length:Nat):Int) ((2*l.length+1:Nat):Int) q with h|h|h<;>rw[h]<;>omega
 ·intro b e h1 h2
  rw[aU]at h2
  by_cases hb:b<2*l.length
  ·rcases hs.setP_ex a1 ((2*l.length+1:Nat):Int) e h1 hb with ⟨p,q1,q2⟩|⟨q1,q2⟩
   ·exact .inl ⟨p,(cz (aU _ _ _)).2 q1,q2⟩
   ·refine .inr ?_
    rw[q1,q2,a2,a3];exact k1
  ·by_cases hb2:b=2*l.length
   ·have:b=((2*l.length:Nat):Int):=by omega
    rw[this]
    cases e
    ·exact .inr k4
    ·exact .inr k3
   ·have:b=((2*l.length+1:Nat):Int):=by omega
    rw[this]
    cases e
    ·exact .inr k2
    ·exact .inl ⟨c,(cz (aU _ _ _)).2 a1,by rw[cC a1 _ a1.2,if_pos rfl],by rw[iI,a3]⟩
theorem ax.kink0{l:List Cr}(hs:ax l)(up:Bool){s:Int}(h:s=1\/s= -1):
 ax (l++[kx up s (2*l.length:Nat) (2*l.length+1:Nat) (2*l.length:Nat)]):=by
 obtain⟨k1,k2,k3,k4⟩:=kx_has up h ((2*l.length:Nat):Int) ((2*l.length+1:Nat):Int) ((2*l.length:Nat):Int)
 refine ax.app hs.sign (BG _ _ _ _ _) ?_ ?_ ?_
 ·intro p hp
  have:=hs.rng hp
  omega
 ·intro q _
  rcases kx_arc up s ((2*l.length:Nat):Int) ((2*l.length+1:Nat):Int) ((2*l.length:Nat):Int) q with h|h|h<;>rw[h]<;>omega
 ·intro b e h1 h2
  by_cases hb:b<2*l.length
  ·exact .inl (hs.ex' e h1 hb)
  ·by_cases hb2:b=2*l.length
   ·have:b=((2*l.length:Nat):Int):=by omega
    rw[this]
    cases e
    ·exact .inr k2
    ·exact .inr k1
   ·have:b=((2*l.length+1:Nat):Int):=by omega
    rw[this]
    cases e
    ·exact .inr k4
    ·exact .inr k3
def inP(along:Bool)(p:Nat):Nat:=if along=true then p else(p+2)%4
def nf(e0 e1 e2 e3:Int)(q:Nat):Int:=match q with| 0=>e0| 1=>e1| 2=>e2|_=>e3
def fR(e0 e1 e2 e3:Int)(aa ba:Bool)(at':Nat)(up:Bool):Cr:=let lo:=if up=true then inP ba 0 else inP aa at'
 let hi:=if up=true then inP aa at' else inP ba 0
 ⟨nf e0 e1 e2 e3 (lo%4),nf e0 e1 e2 e3 ((lo+1)%4),nf e0 e1 e2 e3 ((lo+2)%4),nf e0 e1 e2 e3 ((lo+3)%4),if(hi+4-lo)%4=3 then 1 else-1⟩
theorem tL(e0 e1 e2 e3:Int)(aa ba:Bool)(at':Nat)(up:Bool):(fR e0 e1 e2 e3 aa ba at' up).s=1\/(fR e0 e1 e2 e3 aa ba at' up).s= -1:=by
 have: ∀(p:Prop) [Decidable p],(if p then(1:Int)else-1)=1\/(if p then(1:Int)else-1)= -1:=fun p _=>by split<;>simp
 exact this _
theorem nth4_or(e0 e1 e2 e3:Int)(q:Nat):nf e0 e1 e2 e3 q=e0\/nf e0 e1 e2 e3 q=e1\/nf e0 e1 e2 e3 q=e2\/nf e0 e1 e2 e3 q=e3:=by
 unfold nf;split<;>simp
theorem wI(e0 e1 e2 e3:Int)(aa ba:Bool)(at':Nat)(up:Bool)(q:Nat):(fR e0 e1 e2 e3 aa ba at' up).arc q=e0\/(fR e0 e1 e2 e3 aa ba at' up).arc q=e1\/(fR e0 e1 e2 e3 aa ba at' up).arc q=e2\/(fR e0 e1 e2 e3 aa ba at' up).arc q=e3:=by
 unfold Cr.arc fR
 split<;>exact nth4_or _ _ _ _ _
theorem Ad(e0 e1 e2 e3:Int)(aa ba up:Bool):
 (fR e0 e1 e2 e3 aa ba 3 up).has (if aa=true then e3 else e1) true/\(fR e0 e1 e2 e3 aa ba 3 up).has (if aa=true then e1 else e3) false/\(fR e0 e1 e2 e3 aa ba 3 up).has (if ba=true then e0 else e2) true/\(fR e0 e1 e2 e3 aa ba 3 up).has (if ba=true then e2 else e0) false:=by
 cases aa<;>cases ba<;>cases up
 all_goals refine⟨?_,?_,?_,?_⟩
 all_goals first
  |exact⟨0,by omega,rfl,rfl⟩
  |exact⟨1,by omega,rfl,rfl⟩
  |exact⟨2,by omega,rfl,rfl⟩
  |exact⟨3,by omega,rfl,rfl⟩
theorem Bu(e0 e1 e2 e3:Int)(aa ba up:Bool):
 (fR e0 e1 e2 e3 aa ba 1 up).has (if aa=true then e1 else e3) true/\(fR e0 e1 e2 e3 aa ba 1 up).has (if aa=true then e3 else e1) false/\(fR e0 e1 e2 e3 aa ba 1 up).has (if ba=true then e0 else e2) true/\(fR e0 e1 e2 e3 aa ba 1 up).has (if ba=true then e2 else e0) false:=by
 cases aa<;>cases ba<;>cases up
 all_goals refine⟨?_,?_,?_,?_⟩
 all_goals first
  |exact⟨0,by omega,rfl,rfl⟩
  |exact⟨1,by omega,rfl,rfl⟩
  |exact⟨2,by omega,rfl,rfl⟩
  |exact⟨3,by omega,rfl,rfl⟩
structure aI where
 b:Int
 m:Int
 a:Int
 al:Bool
def aI.s0(p:aI):Int:=if p.al=true then p.b else p.a
def aI.s2(p:aI):Int:=if p.al=true then p.a else p.b
def ng(a b:aI)(up:Bool):Cr:=fR b.m a.m b.a a.b a.al b.al 3 up
def iE(a b:aI)(up:Bool):Cr:=fR b.b a.m b.m a.a a.al b.al 1 up
theorem poke_has(a b:aI)(up:Bool): ∀y,y∈[(a.s0,true),(a.m,false),(a.m,true),(a.s2,false),(b.s0,true),(b.m,false),(b.m,true),(b.s2,false)]->(ng a b up).has y.1 y.2\/(iE a b up).has y.1 y.2:=by
 obtain⟨h1,h2,h3,h4⟩:=Ad b.m a.m b.a a.b a.al b.al up
 obtain⟨k1,k2,k3,k4⟩:=Bu b.b a.m b.m a.a a.al b.al up
 obtain⟨ab,am,aa,al⟩:=a
 obtain⟨bb,bm,ba,bl⟩:=b
 intro y hy
 simp only[EG,EK,or_false]at hy
 cases al<;>cases bl<;>simp only[aI.s0,aI.s2,EO,if_false,if_true,ng,iE]at* <;>
  rcases hy with rfl|rfl|rfl|rfl|rfl|rfl|rfl|rfl<;>first|exact .inl h1|exact .inl h2|exact .inl h3|exact .inl h4|exact .inr k1|exact .inr k2|exact .inr k3|exact .inr k4
theorem ax.poke{l:List Cr}(a b:aI)(up:Bool)(h1: ∀x∈l,x.s=1\/x.s= -1)(h3: ∀p,bt l p->0<=ay l p/\ay l p<2*l.length+4)(h4: ∀v∈[a.b,a.m,a.a,b.b,b.m,b.a],0<=v/\v<2*(l.length:Int)+4)(h5: ∀v e,0<=v->v<2*(l.length:Int)+4->(∃p,bt l p/\ay l p=v/\cn l p=e)\/(v,e)∈[(a.s0,true),(a.m,false),(a.m,true),(a.s2,false),(b.s0,true),(b.m,false),(b.m,true),(b.s2,false)]):
 ax ((l++[ng a b up])++[iE a b up]):=by
 simp only[EG,EK,or_false,forall_eq_or_imp,forall_eq]at h4
 obtain⟨g1,g2,g3,g4,g5,g6⟩:=h4
 refine ax.D9 ?_ ?_ ?_
 ·intro y hy
  simp only[EY,FS]at hy
  rcases hy with (hy|rfl)|rfl
  ·exact h1 y hy
  ·exact tL _ _ _ _ _ _ _ _
  ·exact tL _ _ _ _ _ _ _ _
 ·intro p hp
  have hlen:(((l++[ng a b up])++[iE a b up]).length:Int)=l.length+2:=by simp only[Ez,List.length_cons,List.length_nil];omega
  have hp1:=hp.1
  simp only[Ez,List.length_cons,List.length_nil]at hp1
  rw[hlen,gP,gP]
  simp only[Ez,List.length_cons,List.length_nil]
  by_cases c1:p.1<l.length
  ·rw[if_pos (by omega),if_pos c1]
   have:=h3 p ⟨c1,hp.2⟩
   omega
  ·by_cases c2:p.1=l.length
   ·rw[if_pos (by omega),if_neg c1,if_pos c2]
    rcases wI b.m a.m b.a a.b a.al b.al 3 up p.2 with h|h|h|h<;>rw[ng,h]<;>omega
   ·rw[if_neg (by omega),if_pos (by omega)]
    rcases wI b.b a.m b.m a.a a.al b.al 1 up p.2 with h|h|h|h<;>rw[iE,h]<;>omega
 ·intro v e ha hb
  have hlen:(((l++[ng a b up])++[iE a b up]).length:Int)=l.length+2:=by simp only[Ez,List.length_cons,List.length_nil];omega
  rw[hlen]at hb
  rcases h5 v e ha (by omega)with ⟨p,q1,q2,q3⟩|hm
  ·refine⟨p,⟨by simp only[Ez];have:=q1.1;omega,q1.2⟩,?_,?_⟩
   ·rw[gP,gP,Ez,if_pos (by have:=q1.1;omega),if_pos q1.1,q2]
   ·rw[pj,pj,Ez,if_pos (by have:=q1.1;omega),if_pos q1.1,q3]
  ·rcases poke_has a b up _ hm with ⟨q,q1,q2,q3⟩|⟨q,q1,q2,q3⟩
   ·refine⟨(l.length,q),⟨by simp,q1⟩,?_,?_⟩
    ·rw[gP,gP];simp[q2]
    ·rw[pj,pj];simp[q3]
   ·refine⟨(l.length+1,q),⟨by simp,q1⟩,?_,?_⟩
    ·rw[gP];simp[q2]
    ·rw[pj];simp[q3]
end Go.Proofs.Ytjcomcgpjjianaa
