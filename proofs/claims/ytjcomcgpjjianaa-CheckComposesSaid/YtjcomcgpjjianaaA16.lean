import Derived.Test.YtjcomcgpjjianaaA15
set_option linter.all false
set_option maxHeartbeats 16000000
set_option maxRecDepth 8000
open Go.Value renaming int→O
open Go.IntKind renaming i64→U
namespace Go.Ev
structure Rl(J:Code->(AX->Env->AH->Prop)->Env->AH->Prop):Prop where
 mono: ∀{c Q Q' a H},J c Q a H->(∀x a H,Q x a H->Q' x a H)->J c Q' a H
 less: ∀{c Q a a' H},(∀t,ae a' t=undef\/ae a' t=ae a t)->J c Q a' H->J c Q a H
 skip: ∀{Q a H},Q .normal a H->J .skip Q a H
 ret: ∀{Q a H},Q .ret a H->J .ret Q a H
 exit: ∀{i Q a H},Q (.exit i) a H->J (.exit i) Q a H
 seq: ∀{x y Q a H},J x (AX.then (J y Q) Q) a H->J (.seq x y) Q a H
 cond: ∀{c x y t Q a H},bq a c= .bool t->J (if t=true then x else y) Q a H->J (.cond c x y) Q a H
 block: ∀{id c Q a H},J c (AX.inBlock id Q) a H->J (.block id c) Q a H
 loop: ∀{c Q a H} (I:Nat->Env->AH->Prop) (n:Nat),I n a H->(∀n a H,I n a H->J c (AX.then (fun a' H'=> ∃m,m<n/\I m a' H') Q) a H)->J (.loop c) Q a H
theorem rl_W(K:Cx):Rl (W K):=⟨W.mono,W.less,W.skip,W.ret,W.exit,W.seq,W.cond,W.block,W.loop⟩
theorem rl_V(rd:Option Nat)(K:Cx):Rl (V rd K):=⟨V.mono,V.less,V.skip,V.ret,V.exit,V.seq,V.cond,V.block,V.loop⟩
theorem rl_M(K:Cx):Rl (M K):=⟨M.mono,M.less,M.skip,M.ret,M.exit,M.seq,M.cond,M.block,M.loop⟩
theorem vL{A B:Env->AH->Prop}{Q:AX->Env->AH->Prop}(h: ∀a H,A a H->B a H): ∀x a H,AX.then A Q x a H->AX.then B Q x a H:=by
 intro x a H q
 cases x<;>first|exact q|exact h _ _ q
theorem Aa{ι:Type}{J:ι->Code->(AX->Env->AH->Prop)->Env->AH->Prop}(h: ∀i,Rl (J i)):Rl (fun c Q a H=> ∀i,J i c Q a H) where
 mono q m:=fun i=>(h i).mono (q i) m
 less l q:=fun i=>(h i).less l (q i)
 skip q:=fun i=>(h i).skip q
 ret q:=fun i=>(h i).ret q
 exit q:=fun i=>(h i).exit q
 seq q:=fun i=>(h i).seq ((h i).mono (q i) (vL fun _ _ k=>k i))
 cond e q:=fun i=>(h i).cond e (q i)
 block q:=fun i=>(h i).block (q i)
 loop I n h0 r:=fun i=>(h i).loop I n h0 fun n a H k=>r n a H k i
def oq(P:Program)(n:Nat):Type:={K:Cx // K.P=P/\K.n=n}
def Jm(P:Program)(md n:Nat):Code->(AX->Env->AH->Prop)->Env->AH->Prop:=match md with
 | 1=>fun c Q a H=> ∀K:oq P n,M K.1 c Q a H
 | 2=>fun c Q a H=> ∀p:Nat×oq P n,V (some p.1) p.2.1 c Q a H
 |_=>fun c Q a H=> ∀K:oq P n,W K.1 c Q a H
theorem rl_Jm(P:Program)(md n:Nat):Rl (Jm P md n):=by
 unfold Jm
 split
 ·exact Aa fun K=>rl_M K.1
 ·exact Aa fun p=>rl_V (some p.1) p.2.1
 ·exact Aa fun K=>rl_W K.1
theorem Jm.ofL{P:Program}{md n:Nat}{id:Nat}{ops:Array Oper}{Q:AX->Env->AH->Prop}{a:Env}{H:AH}(h: ∀(rd:Option Nat) (K:oq P n),(md≠0\/rd=none)->L rd K.1 ops ops.toList Q a H):Jm P md n (.region id ops false) Q a H:=by
 unfold Jm
 split
 ·exact fun K=>M.lift fun D σ w _=>V.toW (V.region (h none ⟨⟨K.1.P,K.1.n,D,σ,H,w⟩,K.2⟩ (.inr rfl)))
 ·exact fun p=>V.region (h (some p.1) p.2 (.inl (by simp)))
 ·exact fun K=>V.toW (V.region (h none K (.inr rfl)))
theorem Jm.ofWa{P:Program}{md n:Nat}{id:Nat}{ops:List Oper}{Q:AX->Env->AH->Prop}{a:Env}{H:AH}(hm:P.follows .mixedOrders=true)(hd:noDef ops=true)(h: ∀K:oq P n,Wa K.1 ops Q a H):Jm P md n (.region id ops.toArray true) Q a H:=by
 unfold Jm
 split
 ·exact fun K=>M.lift fun D σ w _=>W.ofWa (by show K.1.P.follows _=_;rw[K.2.1];exact hm) (h ⟨⟨K.1.P,K.1.n,D,σ,H,w⟩,K.2⟩)
 ·exact fun p=>V.ofWa (by rw[p.2.2.1];exact hm) hd (h p.2)
 ·exact fun K=>W.ofWa (by rw[K.2.1];exact hm) (h K)
theorem Jm.ofW{P:Program}{md n:Nat}{c:Code}{Q:AX->Env->AH->Prop}{a:Env}{H:AH}(hmd:md≠2)(h: ∀K:oq P n,W K.1 c Q a H):Jm P md n c Q a H:=by
 unfold Jm
 split
 ·exact fun K=>M.lift fun D σ w _=>h ⟨⟨K.1.P,K.1.n,D,σ,H,w⟩,K.2⟩
 ·exact absurd rfl hmd
 ·exact h
def Rk(J:Code->(AX->Env->AH->Prop)->Env->AH->Prop)(c:Code)(Q:AX->Env->AH->Prop):Nat->Env->AH->Prop
 | 0,_,_=>False
 |m+1,a,H=>J c (AX.then (Rk J c Q m) Q) a H
theorem Rk.loop{J:Code->(AX->Env->AH->Prop)->Env->AH->Prop}(r:Rl J){c:Code}{Q:AX->Env->AH->Prop}{m:Nat}{a:Env}{H:AH}(h:Rk J c Q m a H):J (.loop c) Q a H:=by
 refine r.loop (Rk J c Q) m h fun n a H k=> ?_
 cases n with
 |zero=>exact k.elim
 |succ n=>exact r.mono k (vL fun a H q=>⟨n,GL n,q⟩)
structure EvOk(P:Program)(ev:EvF):Prop where
 gr: ∀{md n c E h x s},ev md n c E h=some (x,s)->Gr h s.h
 same: ∀{md n c E h x s},ev md n c E h=some (x,s)-> ∀t,t∉jx c->gE s.E t=gE E t
 ok: ∀{md n c E h x s},ev md n c E h=some (x,s)-> ∀{Q a},cZ E a->(∀a',cZ s.E a'->Q x a' s.h.H)->Jm P md n c Q a h.H
 loop: ∀{md n c E h x s},ev md n (.loop c) E h=some (x,s)-> ∀{Q},(∀a',cZ s.E a'->Q x a' s.h.H)-> ∃m,∀a,cZ E a->Rk (Jm P md n) c Q m a h.H
theorem tz{E:Tri Value}{a a₀:Env}(h:cZ E a)(h₀:eY E a₀): ∀t,ae a₀ t=undef\/ae a₀ t=ae a t:=fun t=>by rw[h₀ t];exact h t
theorem Jm.rep{P:Program}{md n:Nat}{c:Code}{Q:AX->Env->AH->Prop}{E:Tri Value}{a:Env}{H:AH}(ha:cZ E a)(h: ∀a₀,eY E a₀->Jm P md n c Q a₀ H):Jm P md n c Q a H:=by
 obtain⟨a₀,h₀⟩:=jI E
 exact(rl_Jm P md n).less (tz ha h₀) (h a₀ h₀)
theorem ic{x:AX}:dY x=true↔x= .normal:=by cases x<;>simp[dY]
theorem yZ{A:Env->AH->Prop}{Q:AX->Env->AH->Prop}{x:AX}(h:dY x≠true){a:Env}{H:AH}(q:Q x a H):AX.then A Q x a H:=by
 cases x<;>first|exact q|exact absurd rfl h
theorem lj_L{P:Program}{n:Nat}{ops:Array Oper}{rd:Option Nat}{K:Cx}(hP:K.P=P)(hn:K.n=n){Q:AX->Env->AH->Prop}{yl:gB}(hy: ∀{h nl args b h'},yl h nl args=some (b,h')->Gr h h'/\ ∀{o c f r a},aJ ops a o=some true->o.op= .call c->c.callee= .value f->bq a f= .chan (some nl)->args=c.args.toList.map (bq a)->L rd K ops r Q (aB n a o.dst (.bool b)) h'.H->L rd K ops (o::r) Q a h.H):LJ P n ops yl (fun r a H=>L rd K ops r Q a H) (fun v a H=>Q (.panic v) a H):=by
 subst hP;subst hn
 exact⟨fun h1 h2 h3=>L.op h1 h2 h3,fun h1 h2 h3=>L.pan h1 h2 h3,fun h1 h2=>L.past h1 h2,hy⟩
theorem oM{n:Nat}: ∀{l:List Nat},lHas n l=false->n∉l
 | [],_=>by simp
 |x::l,h=>by
  have h:bb (Nat.beq x n) true (lHas n l)=false:=h
  rw[bH]at h
  split at h
  ·cases h
  ·rename_i hx
   intro hm
   rcases EG.1 hm with e|hm
   ·exact hx (by subst e;simp)
   ·exact oM h hm
theorem KpW.trans{a b:List Nat}{H0 H1 H2:AH}(h:KpW a H0 H1)(k:KpW b H1 H2):KpW (b++a) H0 H2:=⟨Fz h.len k.len,fun n hn hm=>by
 rw[EY,not_or]at hm
 rw[k.same n (EV hn h.len) hm.1,h.same n hn hm.2]⟩
theorem BD{H:AH}{n:Nat}(o:AO):KpW [n] H (H.set n o):=⟨by simp,fun m _ hm=>af (fun e=>hm (by simp[e])) o⟩
theorem nq: ∀{l:List (Nat×Value)} {E:Tri Value},qj l=some E->eY E l
 | [],E,h=>by cases h;intro t;rw[wc];simp[ae,Tri.get]
 |p::l,E,h=>by
  have h:(ob (qj l) fun E=>E.tput 40 p.1 p.2)=some E:=h
  rw[aH]at h
  obtain⟨E0,h1,h2⟩:=h
  have ih:=nq h1
  intro t
  rw[jZ h2]
  obtain⟨a,b⟩:=p
  simp only[ae]
  by_cases e:a=t
  ·rw[if_pos e,if_pos e.symm]
  ·rw[if_neg e,if_neg (Fg e)];exact ih t
theorem vD{m:Nat}: ∀{l:List (Tmp×Value)} {E E':Tri Value} {a:Env},Aw m l E=some E'->eY E a->eY E' (pEnv m a l)
 | [],E,E',a,h,ha=>by cases h;exact ha
 | (t,v)::l,E,E',a,h,ha=>by
   have h:(ob (og m E (some t) v) fun E=>Aw m l E)=some E':=h
   rw[aH]at h
   obtain⟨E0,h1,h2⟩:=h
   show eY E' (pEnv m (aB m a (some t) v) l)
   exact vD h2 (iP h1 ha)
theorem Bh{x:AX}{go:Bool}{j:Option Code}{st:LoopState}(h:BB x=some (go,j,st)):(x= .normal/\go=true/\j=none/\st= .ready)\/(∃i,x= .exit i/\go=false/\j=some (.exit i)/\st= .done)\/(x= .ret/\go=false/\j=some .ret/\st= .done):=by
 cases x with
 |normal=>cases h;exact .inl ⟨rfl,rfl,rfl,rfl⟩
 |exit i=>cases h;exact .inr (.inl ⟨i,rfl,rfl,rfl,rfl⟩)
 |ret=>cases h;exact .inr (.inr ⟨rfl,rfl,rfl,rfl⟩)
 |panic v=>cases h
theorem Ci{P:Program}{ev:EvF}(hev:EvOk P ev){h:Hp}{nl:Nat}{args:List Value}{b:Bool}{h':Hp}(e:w8 ev h nl args=some (b,h')):Gr h h'/\ ∀{K:Cx} {Q:AX->Env->AH->Prop} {ops:Array Oper} {o:Oper} {c:Call} {f:Operand} {r:List Oper} {a:Env},K.P=P->aJ ops a o=some true->o.op= .call c->c.callee= .value f->bq a f= .chan (some nl)->args=c.args.toList.map (bq a)->L none K ops r Q (aB K.n a o.dst (.bool b)) h'.H->L none K ops (o::r) Q a h.H:=by
 obtain⟨T,sz,low,ws⟩:=h
 unfold w8 at e
 simp only at e
 split at e
 case h_2=>cases e
 rename_i pd ps assign body m env hao
 split at e
 case h_2=>cases e
 rename_i E0 hsz hE0
 split at e
 case h_2=>cases e
 rename_i E hE
 split at e
 case h_2=>cases e
 rename_i E1 T1 sz1 low1 ws1 hev1
 split at e
 case h_2=>cases e
 rename_i T2 sz2 low2 ws2 hn1 hset2
 split at e
 case h_2=>cases e
 rename_i x E3 T3 sz3 low3 ws3 hev2
 split at e
 case h_2=>cases e
 rename_i go jump st hn3 hax
 split at e
 case h_2=>cases e
 rename_i T4 sz4 low4 ws4 hset4
 cases e
 have hao:=aoL_eq hao
 have hsz:=ES hsz
 rw[dX]at hsz
 have hat:at_ (toH T sz) nl= .loop .ready pd ps assign body m env:=by rw[rj];exact hao
 have hnl:nl<(toH T sz).length:=by
  rcases FZ nl (toH T sz).length with h|h
  ·exact h
  ·rw[dJ h]at hat;cases hat
 have g1:=hev.gr hev1
 have g2:=hev.gr hev2
 have k1:KpW ws1 (toH T sz) (toH T1 sz1):=g1.ws _ (KpW.refl [] _)
 have k3:KpW ws3 (toH T2 sz2) (toH T3 sz3):=g2.ws _ (KpW.refl [] _)
 obtain⟨s1,_,s3,_⟩:=nS hset2
 obtain⟨s5,_,s7,_⟩:=nS hset4
 have s1:toH T2 sz2=(toH T1 sz1).set nl (.loop .busy pd ps assign body m env):=s1
 have s5:toH T4 sz4=(toH T3 sz3).set nl (.loop st jump ps assign body m env):=s5
 have hat1:at_ (toH T1 sz1) nl= .loop .ready pd ps assign body m env:=by rw[k1.same nl hnl (oM hn1)];exact hat
 have hnl1:nl<(toH T1 sz1).length:=EV hnl k1.len
 have hat2:at_ (toH T2 sz2) nl= .loop .busy pd ps assign body m env:=by rw[s1];exact au hnl1 _
 have hnl2:nl<(toH T2 sz2).length:=by rw[s1];simpa using hnl1
 have hat3:at_ (toH T3 sz3) nl= .loop .busy pd ps assign body m env:=by rw[k3.same nl hnl2 (oM hn3)];exact hat2
 refine⟨⟨fun H₀ k=> ?_,fun H₀ k=> ?_⟩,?_⟩
 ·have a1:=g1.low H₀ k
  have a2:=(uU hset2).low H₀ a1
  have a3:=g2.low H₀ a2
  exact(uU hset4).low H₀ a3
 ·have k:KpW ws H₀ (toH T sz):=k
  have e1:KpW [nl] (toH T1 sz1) (toH T2 sz2):=by rw[s1];exact BD _
  have e2:KpW [nl] (toH T3 sz3) (toH T4 sz4):=by rw[s5];exact BD _
  have:=(((k.trans k1).trans e1).trans k3).trans e2
  refine⟨this.len,fun q hq hm=>this.same q hq fun hm'=>hm ?_⟩
  show q∈nl::et ws3 (et ws1 ws)
  rw[qa,qa]
  simp only[EY,EG,EK,or_false]at hm'⊢
  rcases hm' with rfl|h|rfl|h|h
  ·exact .inl rfl
  ·exact .inr (.inl h)
  ·exact .inl rfl
  ·exact .inr (.inr (.inl h))
  ·exact .inr (.inr (.inr h))
 ·intro K Q ops o c f r a hP hw ho hc hf hargs hq
  subst hP
  have hq:L none K ops r Q (aB K.n a o.dst (.bool b)) (toH T4 sz4):=hq
  refine L.yield hw ho hc hf hat (by rw[<-hsz,hargs];simp) fun σ w bb' s hr hσ=> ?_
  have hrep:eY E (pEnv m env (ps.toList.zip (c.args.toList.map (bq a)))):=by
   rw[<-hargs];exact vD hE (nq hE0)
  have J1:=hev.ok hev1 (Q:=fun x a1 H1=>x= .normal/\at_ H1 nl= .loop .ready pd ps assign body m env/\V (some bb') ⟨K.P,m,[],σ,toH T sz,w⟩ body (fun x a2 H2=>at_ H2 nl= .loop .busy pd ps assign body m env/\match x with
                                                                                                       | .normal=>L none K ops r Q (aB K.n a o.dst (.bool true)) (H2.set nl (.loop .ready none ps assign body m env))
                                                                                                       | .exit i=>L none K ops r Q (aB K.n a o.dst (.bool false)) (H2.set nl (.loop .done (some (.exit i)) ps assign body m env))
                                                                                                       | .ret=>L none K ops r Q (aB K.n a o.dst (.bool false)) (H2.set nl (.loop .done (some .ret) ps assign body m env))
                                                                                                       | .panic _=>False) a1 (H1.set nl (.loop .busy pd ps assign body m env))) hrep.less (fun a1 h1=>by
   refine⟨rfl,hat1,?_⟩
   have J2:=hev.ok hev2 (Q:=fun x a2 H2=>at_ H2 nl= .loop .busy pd ps assign body m env/\match x with
    | .normal=>L none K ops r Q (aB K.n a o.dst (.bool true)) (H2.set nl (.loop .ready none ps assign body m env))
    | .exit i=>L none K ops r Q (aB K.n a o.dst (.bool false)) (H2.set nl (.loop .done (some (.exit i)) ps assign body m env))
    | .ret=>L none K ops r Q (aB K.n a o.dst (.bool false)) (H2.set nl (.loop .done (some .ret) ps assign body m env))
    | .panic _=>False) h1 (fun a2 h2=>by
    refine⟨hat3,?_⟩
    rcases Bh hax with ⟨rfl,rfl,rfl,rfl⟩|⟨i,rfl,rfl,rfl,rfl⟩|⟨rfl,rfl,rfl,rfl⟩
    ·show L none K ops r Q _ _
     rw[show(St.mk E3 ⟨T3,sz3,low3,ws3⟩).h.H=toH T3 sz3 from rfl,<-s5];exact hq
    ·show L none K ops r Q _ _
     rw[show(St.mk E3 ⟨T3,sz3,low3,ws3⟩).h.H=toH T3 sz3 from rfl,<-s5];exact hq
    ·show L none K ops r Q _ _
     rw[show(St.mk E3 ⟨T3,sz3,low3,ws3⟩).h.H=toH T3 sz3 from rfl,<-s5];exact hq)
   have J2: ∀p:Nat×oq K.P m,V (some p.1) p.2.1 body _ a1 (toH T2 sz2):=J2
   rw[s1]at J2
   exact J2 ⟨bb',⟨⟨K.P,m,[],σ,toH T sz,w⟩,rfl,rfl⟩⟩)
  have J1: ∀p:Nat×oq K.P m,V (some p.1) p.2.1 assign _ _ (toH T sz):=J1
  exact J1 ⟨bb',⟨⟨K.P,m,[],σ,toH T sz,w⟩,rfl,rfl⟩⟩
theorem uk: ∀{l:List Oper} {E E':Tri Value},rQ l E=some E'-> ∀t,gE E' t=undef\/(gE E' t=gE E t/\ ∀o∈l,o.dst≠some t)
 | [],E,E',h,t=>by cases h;exact .inr ⟨rfl,by simp⟩
 |o::l,E,E',h,t=>by
  have h:oe o.dst (fun d=>ob (E.tput 40 d undef) fun E=>rQ l E) (rQ l E)=some E':=h
  cases hd:o.dst with
  |none=>
   rw[hd,cc]at h
   rcases uk h t with h1|⟨h1,h2⟩
   ·exact .inl h1
   ·refine .inr ⟨h1,fun p hp=> ?_⟩
    rcases EG.1 hp with rfl|hp
    ·rw[hd];simp
    ·exact h2 p hp
  |some d=>
   rw[hd,bX,aH]at h
   obtain⟨E0,h1,h⟩:=h
   have hg:=jZ h1 t
   rcases uk h t with h2|⟨h2,h3⟩
   ·exact .inl h2
   ·by_cases e:t=d
    ·left;rw[h2,hg,if_pos e]
    ·rw[if_neg e]at hg
     refine .inr ⟨h2.trans hg,fun p hp=> ?_⟩
     rcases EG.1 hp with rfl|hp
     ·rw[hd];intro e';cases e';exact e rfl
     ·exact h3 p hp
theorem z5{l:List Oper}{E E':Tri Value}(h:rQ l E=some E'): ∀t,t∉fU l->gE E' t=gE E t:=by
 induction l generalizing E with
 |nil=>cases h;intro t _;rfl
 |cons o l ih=>
  intro t ht
  have ht2:t∉fU l:=by
   intro hd;apply ht
   simp only[fU,FB]at hd⊢
   obtain⟨p,hp,hq⟩:=hd
   exact⟨p,by simp[hp],hq⟩
  have h:oe o.dst (fun d=>ob (E.tput 40 d undef) fun E=>rQ l E) (rQ l E)=some E':=h
  cases hd:o.dst with
  |none=>rw[hd,cc]at h;exact ih h t ht2
  |some d=>
   rw[hd,bX,aH]at h
   obtain⟨E0,h1,h⟩:=h
   rw[ih h t ht2,jZ h1,if_neg]
   rintro rfl
   apply ht
   simp only[fU,FB]
   exact⟨o,by simp,hd⟩
theorem rx{P:Program}{call:dZ}(hcall:fH P call){yl:gB}{n:Nat}{ops:Array Oper}: ∀(l:List Oper) (E:Tri Value) (h:Hp) (r:Rn3),qC P call yl n ops l E h=some r->r.x= .normal\/ ∃v,r.x= .panic v
 | [],E,h,r,e=>by cases e;exact .inl rfl
 |o::l,E,h,r,e=>by
  have e:runO P call yl n ops o (qC P call yl n ops l) E h=some r:=e
  have one:=sU hcall e
  cases one with
  |past hw E1 r' hp hr e=>subst e;exact rx hcall l E1 h r' hr
  |gen hw v fx hk h1 hf E1 r' hp hr e=>subst e;exact rx hcall l E1 h1 r' hr
  |call hw v h1 hs hg k w hk E1 r' hp hr e=>subst e;exact rx hcall l E1 h1 r' hr
  |pan hw v h1 hs hg e=>subst e;exact .inr ⟨v,rfl⟩
  |yield hw c f ho hc nl hf b h1 hy E1 r' hp hr e=>obtain⟨t,e⟩:=e;subst e;exact rx hcall l E1 h1 r' hr
theorem Ac{P:Program}(hm:P.follows .mixedOrders=true){call:dZ}(hcall:fH P call){ev:EvF}(hev:EvOk P ev){id:Nat}{ops:Array Oper}{dr:Bool}{md n:Nat}{E:Tri Value}{h:Hp}{x:AX}{s:St}(e:xL ops dr P call ev md n E h=some (x,s)):Gr h s.h/\(∀t,t∉fU ops.toList->gE s.E t=gE E t)/\ ∀{Q a},cZ E a->(∀a',cZ s.E a'->Q x a' s.h.H)->Jm P md n (.region id ops dr) Q a h.H:=by
 unfold xL at e
 rw[bH]at e
 split at e
 ·rename_i hdr
  subst hdr
  rw[aH]at e
  obtain⟨⟨tr,x',E',h'⟩,hrun,e⟩:=e
  have e:bb (chkTr ops.toList tr) (bb (dY x') (some (x',(⟨E',h'⟩:St))) (ob (rQ ops.toList E') fun E=>some (x',⟨E,h'⟩))) none=some (x,s):=e
  obtain⟨hchk,e⟩:=bh e
  obtain⟨c1,c2,c3,c4⟩:=chkTr_ok hchk
  have hgr:Gr h h':=by
   have:=(fS hcall (lj_L (rd:=none) (K:=⟨P,n,[],fun _=>none,[],default⟩) rfl rfl (Q:=fun _ _ _=>True) (fun hy=>by cases hy)) ops.toList E h _ hrun).1
   exact this
  have hsame:=fM hcall ops.toList E h _ hrun
  have hwa: ∀(Q:AX->Env->AH->Prop),EndD ops.toList Q x' E' h'.H-> ∀a,eY E a-> ∀K:oq P n,Wa K.1 ops.toList Q a h.H:=by
   intro Q hq a ha ⟨K,hP,hn⟩
   subst hn
   have hrun':qC P call noY K.n ops.toList.toArray ops.toList E h=some ⟨tr,x',E',h'⟩:=by
    rw[Array.toArray_toList];exact hrun
   exact Wa.drawn _ c2 (sI hcall hP ops.toList E h _ hrun' c1 0 [] a ha c4 rfl (by intro j hj;omega) (by intro j hj;omega) hq)
  rw[bH]at e
  split at e
  ·rename_i hx
   have hx:=ic.1 hx
   subst hx
   cases e
   refine⟨hgr,hsame,fun{Q a} ha hq=>Jm.rep ha fun a₀ h₀=> ?_⟩
   have:=Jm.ofWa (md:=md) (id:=id) hm c3 (hwa Q (fun a' ha'=>hq a' ha'.less) a₀ h₀)
   simpa using this
  ·rename_i hx
   rw[aH]at e
   obtain⟨E2,hd,e⟩:=e
   cases e
   refine⟨hgr,fun t ht=>(z5 hd t ht).trans (hsame t ht),fun{Q a} ha hq=>Jm.rep ha fun a₀ h₀=> ?_⟩
   have hend:EndD ops.toList Q x E' h'.H:=by
    rcases rx hcall ops.toList E h _ hrun with hx'|⟨v,hx'⟩
    ·have hx':x= .normal:=hx'
     exact absurd (ic.2 hx') hx
    ·have hx':x= .panic v:=hx'
     subst hx'
     intro a' ha'
     obtain⟨b,hb⟩:=jI E2
     refine⟨b,fun t=> ?_,hq b hb.less⟩
     rw[hb t,ha' t]
     exact uk hd t
   have:=Jm.ofWa (md:=md) (id:=id) hm c3 (hwa Q hend a₀ h₀)
   simpa using this
 ·rename_i hdr
  have hdr:dr=false:=by cases dr<;>simp_all
  subst hdr
  rw[aH]at e
  obtain⟨⟨tr,x',E',h'⟩,hrun,e⟩:=e
  cases e
  have hlj: ∀(rd:Option Nat) (K:oq P n) (Q:AX->Env->AH->Prop),(md≠0\/rd=none)->LJ P n ops (bb (Nat.beq md 0) (w8 ev) fun _ _ _=>none) (fun r a H=>L rd K.1 ops r Q a H) (fun v a H=>Q (.panic v) a H):=by
   intro rd ⟨K,hP,hn⟩ Q hc
   refine lj_L hP hn fun{h nl args b h'} hy=> ?_
   rw[bH]at hy
   split at hy
   ·rename_i hmd
    have hmd:=ES hmd
    rcases hc with hc|rfl
    ·exact absurd hmd hc
    ·obtain⟨y1,y2⟩:=Ci hev hy
     subst hn
     exact⟨y1,fun h1 h2 h3 h4 h5 h6=>y2 hP h1 h2 h3 h4 h5 h6⟩
   ·cases hy
  refine⟨?_,fM hcall ops.toList E h _ hrun,fun{Q a} ha hq=>Jm.rep ha fun a₀ h₀=>Jm.ofL fun rd K hc=> ?_⟩
  ·exact(fS hcall (hlj none ⟨⟨P,n,[],fun _=>none,[],default⟩,rfl,rfl⟩ (fun _ _ _=>True) (.inr rfl)) ops.toList E h _ hrun).1
  ·have:=(fS hcall (hlj rd K Q hc) ops.toList E h _ hrun).2 [] a₀ h₀ (by
    rcases rx hcall ops.toList E h _ hrun with hx'|⟨v,hx'⟩
    ·have hx':x= .normal:=hx'
     subst hx'
     exact fun a' ha'=>L.nil (hq a' ha'.less)
    ·have hx':x= .panic v:=hx'
     subst hx'
     exact fun a' ha'=>hq a' ha'.less)
   rw[Ft]at this
   exact this
theorem ny{α:Type}{f:α->α->Bool}(hf: ∀x y,f x y=true->x=y): ∀{l m:List α},leq f l m=true->l=m
 | [],[],_=>rfl
 | [],_::_,h=>by cases h
 |_::_,[],h=>by cases h
 |x::l,y::m,h=>by
  unfold leq at h
  split at h
  ·rename_i hx;rw[hf x y hx,ny hf h]
  ·cases h
theorem xE: ∀{d:Nat} {u v:Value},veq d u v=true->u=v
 | 0,_,_,h=>by cases h
 |d+1,u,v,h=>by
  have ih: ∀x y,veq d x y=true->x=y:=fun x y=>xE
  unfold veq at h
  split at h
  ·have:=eq_of_beq h;rw[this]
  ·rw[EC,decide_eq_true_eq,decide_eq_true_eq]at h;rw[h.1,h.2]
  ·rw[decide_eq_true_eq]at h;rw[h]
  ·rw[EC,EC,decide_eq_true_eq,decide_eq_true_eq,decide_eq_true_eq]at h;rw[h.1.1,h.1.2,h.2]
  ·rw[decide_eq_true_eq]at h;rw[h]
  ·rw[decide_eq_true_eq]at h;rw[h]
  ·rw[EC,EC,decide_eq_true_eq]at h;rw[h.1.1,ny ih h.1.2,ny ih h.2]
  ·rw[EC,decide_eq_true_eq]at h;rw[h.1,ih _ _ h.2]
  ·rw[ny ih h]
  ·rw[ny ih h]
  ·rfl
  ·rfl
  ·rw[decide_eq_true_eq]at h;rw[h]
  ·cases h
theorem xU{a b:AO}(h:aoeq a b=true):a=b:=by
 have hv: ∀x y,veq 8 x y=true->x=y:=fun x y=>xE
 unfold aoeq at h
 split at h
 ·rw[EC,decide_eq_true_eq]at h;rw[ny hv h.1,h.2]
 ·rw[ny hv h]
 ·rw[ny (fun p q hpq=>by rw[EC]at hpq;exact Gh (hv _ _ hpq.1) (hv _ _ hpq.2)) h]
 ·rfl
 ·cases h
theorem pp: ∀{l r:List Nat},sJ l=some r->r=l
 | [],r,h=>by cases h;rfl
 |x::l,r,h=>by
  have h:(ob (sJ l) fun l=>nn x fun x=>some (x::l))=some r:=h
  rw[aH]at h
  obtain⟨q,h1,h2⟩:=h
  rw[iD]at h2
  cases h2
  rw[pp h1]
theorem jF: ∀{l:List Tmp} {E E':Tri Value},yN l E=some E'-> ∀t,gE E' t=if t∈l then undef else gE E t
 | [],E,E',h,t=>by cases h;simp
 |x::l,E,E',h,t=>by
  have h:(ob (E.tput 40 x undef) fun E=>yN l E)=some E':=h
  rw[aH]at h
  obtain⟨E0,h1,h2⟩:=h
  rw[jF h2,jZ h1]
  by_cases e:t∈l
  ·rw[if_pos e,if_pos (by simp[e])]
  ·rw[if_neg e]
   by_cases e2:t=x
   ·rw[if_pos e2,if_pos (by simp[e2])]
   ·rw[if_neg e2,if_neg (by simp[e,e2])]
theorem BV{α:Type}{f:α->Option α}: ∀{l m:List α},lMap f l=some m->m.length=l.length/\ ∀y∈m,∃x∈l,f x=some y
 | [],m,h=>by cases h;simp
 |x::l,m,h=>by
  unfold lMap at h
  split at h
  ·rename_i x' hx
   split at h
   ·rename_i m' hm
    cases h
    obtain⟨h1,h2⟩:=BV hm
    refine⟨by simp[h1],fun y hy=> ?_⟩
    rcases EG.1 hy with rfl|hy
    ·exact⟨x,by simp,hx⟩
    ·obtain⟨z,hz,e⟩:=h2 y hy;exact⟨z,by simp[hz],e⟩
   ·cases h
  ·cases h
theorem BO{rnd:Nat->St->Option St}{I:St->Prop}(hI: ∀i s s',I s->rnd i s=some s'->I s'): ∀{n:Nat} {l r:List St},msts rnd n l=some r->(∀s∈l,I s)->r.length=l.length*2^n/\(∀s∈r,I s)/\ ∀(k:Nat) (s:St),l[k]? =some s->r[k]? =some s
 | 0,l,r,h,hl=>by cases h;exact⟨by simp,hl,fun _ _ h=>h⟩
 |n+1,l,r,h,hl=>by
  unfold msts at h
  split at h
  ·rename_i l' hl'
   split at h
   ·rename_i m hm
    cases h
    obtain⟨h1,h2,h3⟩:=BO hI hl' hl
    obtain⟨g1,g2⟩:=BV hm
    refine⟨by rw[Ez,g1,h1,Nat.pow_succ,<-Nat.mul_assoc];omega,fun s hs=> ?_,fun k s hk=> ?_⟩
    ·rcases EY.1 hs with hs|hs
     ·exact h2 s hs
     ·obtain⟨x,hx,e⟩:=g2 s hs;exact hI _ _ _ (h2 x hx) e
    ·have:=h3 k s hk
     rw[Fo (Ey.1 this).1];exact this
   ·cases h
  ·cases h
theorem Di{x y:Code}{sh:jL}(h:ri x y=some sh): ∃r1 r2 r3 mt X,x= .region r1 sh.rops false/\y= .block sh.i1 (.loop (.seq (.region r2 #[sh.o3,sh.o4] false) (.seq (.cond (.tmp sh.q) .skip (.exit sh.i1)) (.block sh.i2 (.seq (.region r3 (sh.o5::sh.ops3).toArray false) sh.rest)))))/\sh.rops.toList=sh.pre++[sh.o2]/\sh.o2.op= .range mt X:=by
 unfold ri at h
 split at h
 ·rename_i r1 ops i1 r2 o3 o4 q j i2 r3 o5 ops3 rest
  split at h
  ·rename_i o2 hl
   split at h
   ·rename_i mt X ho
    split at h
    ·rename_i hj
     have hj:=ES hj
     subst hj
     cases h
     refine⟨r1,r2,r3,mt,X,rfl,rfl,?_,ho⟩
     show ops.toList=ops.toList.dropLast++[o2]
     obtain⟨ys,hys⟩:=List.getLast?_eq_some_iff.1 hl
     rw[hys,List.dropLast_concat]
    ·cases h
   ·cases h
  ·cases h
 ·cases h
theorem mpars_eq{sh:jL}{pa:zy}(h:mpars sh=some pa):(sh.o2.op= .range pa.mt pa.X/\sh.o2.dst=some pa.it/\sh.o2.guard=none)/\(sh.o3.op= .next (.tmp pa.it) false/\sh.o3.dst=some pa.p/\sh.o3.guard=none)/\(sh.o4.op= .extract (.tmp pa.p) 0/\sh.o4.dst=some pa.q/\sh.o4.guard=none)/\(sh.o5.op= .entry (.tmp pa.it)/\sh.o5.dst=some pa.d/\sh.o5.guard=none)/\sh.q=pa.q/\pa.it≠pa.p/\pa.it≠pa.q/\pa.p≠pa.q:=by
 obtain⟨pre,o2,o3,o4,o5,ops3,rest,i1,i2,q,rops⟩:=sh
 unfold mpars at h
 split at h
 ·rename_i e2 e3 e4 e5
  split at h
  ·rename_i hc
   obtain⟨rfl,rfl,rfl,rfl,a,b,c⟩:=hc
   cases h
   subst e2 e3 e4 e5
   exact⟨⟨rfl,rfl,rfl⟩,⟨rfl,rfl,rfl⟩,⟨rfl,rfl,rfl⟩,⟨rfl,rfl,rfl⟩,rfl,a,b,c⟩
  ·cases h
 ·cases h
theorem Ab{P:Program}{n:Nat}{K:Cx}(hP:K.P=P)(hn:K.n=n){ops:Array Oper}{Qx:Exit->Act->World->Prop}:
 LJ P n ops noY (fun l a H=> ∀σ act w,In K a H σ act w->wpList K.P ops Qx l act w) (fun _ _ _=>False):=by
 subst hP;subst hn
 refine⟨fun{o r a H v H'} hw hs h σ act w hi=> ?_,fun _ _ h=>h.elim,fun{o r a H} hw h σ act w hi=> ?_,fun hy=>by cases hy⟩
 ·obtain⟨C,hC,he⟩:=hs
  refine wpList_step fun k hk=> ?_
  rw[if_pos (cu hi.ar hw)]
  refine iJ hC hi.hr hi.ar he k _ ?_
  intro v' w' σ' hv hr' hx'
  exact hk _ _ (h σ' _ w' ⟨hr',(hi.ar.mono hx'.sub).put o.dst hv,by rw[dq];exact hi.df,hi.ex.trans hx'⟩)
 ·refine wpList_step fun k hk=> ?_
  rw[if_neg (by rw[cu hi.ar hw];simp)]
  exact hk _ _ (h σ _ w ⟨hi.hr,hi.ar.put o.dst .gone,by rw[dq];exact hi.df,hi.ex⟩)
theorem lj_Wl{P:Program}{n:Nat}{K:Cx}(hP:K.P=P)(hn:K.n=n){ops:Array Oper}{Q:AX->Env->AH->Prop}:
 LJ P n ops noY (fun l a H=>Wl K ops l Q a H) (fun v a H=>Q (.panic v) a H):=by
 subst hP;subst hn
 exact⟨fun h1 h2 h3=>Wl.op h1 h2 h3,fun h1 h2 h3=>Wl.pan h1 h2 h3,fun h1 h2=>Wl.past h1 h2,fun hy=>by cases hy⟩
theorem cZ.put{n:Nat}{E E':Tri Value}{dst:Option Tmp}{v:Value}{a:Env}(ha:cZ E a)(h:og n E dst v=some E'):cZ E' (aB n a dst v):=by
 cases dst with
 |none=>cases h;exact ha
 |some d=>
  have h:bb (Nat.ble n d) (some E) (E.tput 40 d v)=some E':=h
  rw[bH]at h
  simp only[aB]
  split at h
  ·rename_i hd
   cases h
   have hd:=EL hd
   have hnd: ¬d<n:=Nat.not_lt.2 hd
   rw[if_neg hnd];exact ha
  ·rename_i hd
   have hd:d<n:=by
    rcases FZ d n with h|h
    ·exact h
    ·exact absurd (FH h) hd
   rw[if_pos hd]
   intro t
   rw[jZ h]
   simp only[ae]
   by_cases e:d=t
   ·rw[if_pos e,if_pos e.symm];exact .inr rfl
   ·rw[if_neg e,if_neg (Fg e)];exact ha t
theorem qd{n:Nat}{a:Env}{d t:Tmp}{v:Value}(h:t≠d):ae (aB n a (some d) v) t=ae a t:=by
 simp only[aB]
 split
 ·simp only[ae];rw[if_neg (Fg h)]
 ·rfl
theorem vF{run:List Oper->Tri Value->Hp->Option Rn3}{ev:Code->Tri Value->Hp->Option (AX×St)}{n:Nat}{sh:jL}{junk:List Tmp}{d:Tmp}{es:List (Value×Value)}{i:Nat}{s s':St}(h:Ar run ev n sh junk d es i s=some s'):
 ∃k v E1 tr E2 h2 x s3 E,es[i]? =some (k,v)/\og n s.E (some d) (.tuple ⟨[k,v]⟩)=some E1/\run sh.ops3 E1 s.h=some ⟨tr,.normal,E2,h2⟩/\ev sh.rest E2 h2=some (x,s3)/\(x= .normal\/x= .exit sh.i2)/\yN junk s3.E=some E/\s'=⟨E,s3.h⟩:=by
 unfold Ar at h
 split at h
 case h_2=>cases h
 rename_i k v hk
 split at h
 case h_2=>cases h
 rename_i E1 hE1
 split at h
 case h_2=>cases h
 rename_i tr E2 h2 hrun
 split at h
 case h_2=>cases h
 rename_i x s3 hev
 split at h
 case h_2=>cases h
 rename_i E hx hE
 cases h
 refine⟨k,v,E1,tr,E2,h2,x,s3,E,hk,hE1,hrun,hev,?_,hE,rfl⟩
 split at hx
 ·exact .inl rfl
 ·exact .inr (by rw[ES hx])
 ·cases hx
structure MSt(E2:Tri Value)(h2:Hp)(defs junk:List Tmp)(s:St):Prop where
 same: ∀t,t∉defs->t∉junk->gE s.E t=gE E2 t
 junk: ∀t∈junk,gE s.E t=undef
 gr:Gr h2 s.h
theorem uA{P:Program}{call:dZ}(hcall:fH P call){ev:EvF}(hev:EvOk P ev){n:Nat}{sh:jL}{pa:zy}{junk:List Tmp}{es:List (Value×Value)}{E2:Tri Value}{h2:Hp}(i:Nat)(s s':St)(hs:MSt E2 h2 (kH sh pa) junk s)(h:mrnd P call ev n sh pa junk es i s=some s'):MSt E2 h2 (kH sh pa) junk s':=by
 obtain⟨k,v,E1,tr,E3,h3,x,s3,E,hk,hE1,hrun,hcode,_,hE,rfl⟩:=vF h
 have g1:=(fS hcall (Ab (K:=⟨P,n,[],fun _=>none,[],default⟩) rfl rfl (Qx:=fun _ _ _=>True)) sh.ops3 E1 s.h _ hrun).1
 have g2:=hev.gr hcode
 refine⟨fun t ht hj=> ?_,fun t ht=> ?_,(hs.gr.trans g1).trans g2⟩
 ·simp only[kH,EG,EY,not_or]at ht
  show gE E t=_
  rw[jF hE,if_neg hj,hev.same hcode t ht.2.2]
  have:=fM hcall sh.ops3 E1 s.h _ hrun t ht.2.1
  rw[show gE E3 t=gE E1 t from this,fJ hE1 (by simp[Fg ht.1])]
  exact hs.same t (by simp only[kH,EG,EY,not_or];exact ht) hj
 ·show gE E t=_
  rw[jF hE,if_pos ht]
theorem steq_ok{z:Nat}{live:List Tmp}{s t:St}(h:steq z live s t=true):(∀x∈live,gE s.E x=gE t.E x)/\s.h.sz=z/\t.h.sz=z/\(∀n∈s.h.ws,rdT s.h.T s.h.sz n=rdT t.h.T t.h.sz n)/\(∀n∈t.h.ws,rdT s.h.T s.h.sz n=rdT t.h.T t.h.sz n):=by
 unfold steq at h
 simp only[EC,EI,decide_eq_true_eq]at h
 obtain⟨⟨⟨h1,h2,h3⟩,h4⟩,h5⟩:=h
 exact⟨fun x hx=>xE (h1 x hx),h2,h3,fun n hn=>xU (h4 n hn),fun n hn=>xU (h5 n hn)⟩
theorem Hp.DW(h:Hp):h.H.length=h.sz:=ez _ _
theorem Hp.DY(h:Hp)(n:Nat):at_ h.H n=rdT h.T h.sz n:=rj _ _ _
theorem heap_eq{h2:Hp}{s t:Hp}(hw:h2.ws=[])(gs:Gr h2 s)(gt:Gr h2 t)(e1:s.sz=h2.sz)(e2:t.sz=h2.sz)(h4: ∀n∈s.ws,rdT s.T s.sz n=rdT t.T t.sz n)(h5: ∀n∈t.ws,rdT s.T s.sz n=rdT t.T t.sz n):s.H=t.H:=by
 have k1:KpW s.ws h2.H s.H:=gs.ws _ (by rw[hw];exact KpW.refl _ _)
 have k2:KpW t.ws h2.H t.H:=gt.ws _ (by rw[hw];exact KpW.refl _ _)
 refine ext_at (by rw[Hp.DW,Hp.DW,e1,e2]) fun n=> ?_
 by_cases h:n∈s.ws
 ·rw[Hp.DY,Hp.DY];exact h4 n h
 ·by_cases h':n∈t.ws
  ·rw[Hp.DY,Hp.DY];exact h5 n h'
  ·by_cases hn:n<h2.sz
   ·rw[k1.same n (by rw[Hp.DW];exact hn) h,k2.same n (by rw[Hp.DW];exact hn) h']
   ·rw[dJ (by rw[Hp.DW];omega),dJ (by rw[Hp.DW];omega)]
theorem Dx{z:Nat}{live:List Tmp}{rnd:Nat->St->Option St}{n:Nat}{l:List St}{mp:Nat}{es:List (Value×Value)}{it nm:Nat}(h:Ak z live rnd n l mp es it nm=true):
 (∀s∈l,at_ s.h.H mp= .map es/\gE s.E it= .pointer (some ⟨nm,0,none⟩))/\ ∀m s,l[m]? =some s-> ∀i,i<n->m.testBit i=false-> ∃t s',l[m ||| 2^i]? =some t/\rnd i s=some s'/\steq z live s' t=true:=by
 unfold Ak at h
 rw[EC]at h
 obtain⟨h1,h2⟩:=h
 refine⟨fun s hs=> ?_,fun m s hm i hi hb=> ?_⟩
 ·have:=EI.1 h1 s hs
  rw[EC]at this
  exact⟨by rw[Hp.DY];exact xU this.1,xE this.2⟩
 ·have:=EI.1 h2 m (by simpa using(Ey.1 hm).1)
  have:=EI.1 this i (by simpa using hi)
  rw[hb]at this
  simp only at this
  split at this
  ·rename_i s1 t h3 h4
   rw[hm]at h3
   cases h3
   split at this
   ·rename_i s' hs'
    exact⟨t,s',h4,hs',this⟩
   ·cases this
  ·cases this
theorem mask_or{m i j:Nat}:(m ||| 2^i).testBit j=true↔m.testBit j=true\/i=j:=by
 rw[Hi,Hf,E8,decide_eq_true_eq]
theorem mask_top{m n:Nat}(h:m<2^n)(hb: ∀i,i<n->m.testBit i=true):m=2^n-1:=by
 apply Nat.eq_of_testBit_eq
 intro i
 rw[Nat.testBit_two_pow_sub_one]
 by_cases hi:i<n
 ·rw[hb i hi];simp[hi]
 ·have:m<2^i:=EV h (Nat.pow_le_pow_right (by omega) (by omega))
  rw[Nat.testBit_lt_two_pow this];simp[hi]
theorem mapK_ok{P:Program}{call:dZ}(hcall:fH P call){ev:EvF}(hev:EvOk P ev){md n:Nat}(hmd:md≠2){x y:Code}{sh:jL}(hs:ri x y=some sh){E:Tri Value}{h:Hp}{x':AX}{s:St}(e:mapK P call ev n sh E h=some (x',s)):Gr h s.h/\(∀t,t∉jx (.seq x y)->gE s.E t=gE E t)/\ ∀{Q a},cZ E a->(∀a',cZ s.E a'->Q x' a' s.h.H)->Jm P md n (.seq x y) Q a h.H:=by
 obtain⟨r1,r2,r3,mt0,X0,rfl,rfl,hops,_⟩:=Di hs
 unfold mapK at e
 split at e
 case h_2=>cases e
 rename_i pa hpa
 obtain⟨f2,f3,f4,f5,fq,hip,hiq,hpq⟩:=mpars_eq hpa
 split at e
 case h_2=>cases e
 rename_i tr1 E1 T sz low ws hrun
 split at e
 case h_2=>cases e
 rename_i m ke hX hu
 split at e
 case h_2=>cases e
 rename_i es nm hM hnm hlt
 split at e
 case h_2=>cases e
 rename_i E1' h2 hpl hE1' hpush
 split at e
 case h_2=>cases e
 rename_i E2 hE2
 split at e
 case h_2=>cases e
 rename_i junk live hjunk hlive
 split at e
 case h_2=>cases e
 rename_i l hl
 split at e
 case h_2=>cases e
 rename_i hchk
 split at e
 case h_2=>cases e
 rename_i s2 hs2
 split at e
 case h_2=>cases e
 rename_i E3 hE3
 split at e
 case h_2=>cases e
 rename_i E4 hE4
 cases e
 have hnm:=(iN hnm).symm
 subst hnm
 simp only[EC,decide_eq_true_eq]at hlt
 obtain⟨⟨hn1,hn2⟩,hn3⟩:=hlt
 have hjunk:=pp hjunk
 have hlive:=pp hlive
 obtain⟨p1,p2,p3,p4⟩:=mP hpush
 have hM:=zV hM
 have hatm:at_ (toH T sz) m= .map es:=by rw[rj];exact hM
 obtain⟨k1,k2⟩:=ke
 have hu:=yg hu
 have hX:=wT hX
 have hlen2:h2.H.length=h2.sz:=Hp.DW _
 have hinit:MSt E2 h2 (kH sh pa) (pa.p::pa.q::junk) ⟨E2,h2⟩:=by
  refine⟨fun t _ _=>rfl,fun t ht=> ?_,Gr.refl _⟩
  show gE E2 t=undef
  by_cases hpq':t∈[pa.p,pa.q]
  ·rw[jF hE2,if_pos hpq']
  ·have:t∈junk:=by
    simp only[EG,EK,or_false,not_or]at hpq' ht
    rcases ht with h|h|h
    ·exact absurd h hpq'.1
    ·exact absurd h hpq'.2
    ·exact h
   rw[hjunk,Fb]at this
   rw[wc]
   have h3:(E2.get t).isNone=true:=by rw[<-Tri.tget_eq];exact this.2
   rw[Option.isNone_iff_eq_none.1 h3];rfl
 obtain⟨m1,m2,m3⟩:=BO (I:=MSt E2 h2 (kH sh pa) (pa.p::pa.q::junk)) (uA hcall hev) hl (fun s hs=>by
  have:s=⟨E2,h2⟩:=by simpa using hs
  subst this;exact hinit)
 have m1:l.length=2^es.length:=by rw[m1];simp
 have m0:l[0]? =some ⟨E2,h2⟩:=m3 0 _ rfl
 obtain⟨q1,q2⟩:=Dx hchk
 have hs2m:s2∈l:=List.mem_of_getLast? hs2
 have hs2i:=m2 s2 hs2m
 have hs2l:l[2^es.length-1]? =some s2:=by rw[<-m1,<-List.getLast?_eq_getElem?];exact hs2
 have hsame: ∀s t:St,MSt E2 h2 (kH sh pa) (pa.p::pa.q::junk) s->MSt E2 h2 (kH sh pa) (pa.p::pa.q::junk) t->steq h2.sz live s t=true->s.h.H=t.h.H/\ ∀t',gE t.E t'=gE s.E t':=by
  intro s t hs ht hst
  obtain⟨a1,a2,a3,a4,a5⟩:=steq_ok hst
  refine⟨heap_eq p4 hs.gr ht.gr a2 a3 a4 a5,fun t'=> ?_⟩
  by_cases c1:t'∈pa.p::pa.q::junk
  ·rw[hs.junk t' c1,ht.junk t' c1]
  ·by_cases c2:t'∈kH sh pa
   ·refine(a1 t' ?_).symm
    rw[hlive,Fb]
    refine⟨c2,?_⟩
    have c3:t'∉junk:=fun hj=>c1 (by simp[hj])
    rw[hjunk,Fb]at c3
    have c4: ¬((E2.tget t').isNone=true):=fun hh=>c3 ⟨c2,hh⟩
    cases hg:E2.tget t' with
    |none=>rw[hg]at c4;simp at c4
    |some v=>rfl
   ·rw[hs.same t' c2 c1,ht.same t' c2 c1]
 have hrun0:=fS hcall (Ab (K:=⟨P,n,[],fun _=>none,[],default⟩) rfl rfl (Qx:=fun _ _ _=>True)) sh.pre E h _ hrun
 have hg0:Gr h ⟨T,sz,low,ws⟩:=hrun0.1
 refine⟨?_,?_,?_⟩
 ·refine hg0.trans ⟨fun H₀ k=> ?_,fun H₀ k=> ?_⟩
  ·exact hs2i.gr.low H₀ ((qt hpush).low H₀ k)
  ·have k:KpW ws H₀ (toH T sz):=k
   have b1:KpW [] (toH T sz) h2.H:=by
    have:=(qt hpush).ws (toH T sz) (KpW.refl [] _)
    rw[p4]at this;exact this
   have b2:KpW s2.h.ws h2.H s2.h.H:=hs2i.gr.ws _ (by rw[p4];exact KpW.refl _ _)
   have:=(k.trans b1).trans b2
   show KpW (et s2.h.ws ws) H₀ s2.h.H
   rw[qa]
   simpa using this
 ·intro t ht
  have hmem:t∉fU sh.rops.toList/\t≠pa.p/\t≠pa.q/\t∉kH sh pa:=by
   simp only[jx,EY,not_or]at ht
   obtain⟨h1,ht⟩:=ht
   refine⟨h1,?_,?_,?_⟩
   ·rintro rfl
    exact ht.1 (by simp[fU,f3.2.1])
   ·rintro rfl
    exact ht.1 (by simp[fU,f4.2.1])
   ·intro hm
    simp only[kH,EG,EY]at hm
    rcases hm with rfl|hm|hm
    ·exact ht.2.2.1 (by simp[fU,f5.2.1])
    ·apply ht.2.2.1
     simp only[fU,FB]at hm⊢
     obtain⟨o,ho,hd⟩:=hm
     exact⟨o,by simp[ho],hd⟩
    ·exact ht.2.2.2 hm
  obtain⟨h1,h3,h4,h5⟩:=hmem
  show gE E4 t=gE E t
  rw[fJ hE4 (by simp[Fg h4]),fJ hE3 (by simp[Fg h3])]
  have hpre:t∉fU sh.pre:=by
   intro hm;apply h1
   simp only[fU,FB]at hm⊢
   obtain⟨o,ho,hd⟩:=hm
   exact⟨o,by rw[hops];simp[ho],hd⟩
  have hit:t≠pa.it:=by
   rintro rfl
   apply h1
   simp only[fU,FB]
   exact⟨sh.o2,by rw[hops];simp,f2.2.1⟩
  have e0:gE E2 t=gE E t:=by
   rw[jF hE2,if_neg (by simp[h3,h4]),fJ hE1' (by simp[Fg hit])]
   exact fM hcall sh.pre E h _ hrun t hpre
  by_cases hj:t∈pa.p::pa.q::junk
  ·have:t∈junk:=by
    simp only[EG]at hj
    rcases hj with h|h|h
    ·exact absurd h h3
    ·exact absurd h h4
    ·exact h
   rw[hjunk,Fb]at this
   exact absurd this.1 h5
  ·rw[hs2i.same t h5 hj];exact e0
 ·intro Q a ha hq
  refine Jm.rep ha fun a₀ h₀=>Jm.ofW hmd fun⟨K,hP,hn⟩=> ?_
  subst hP;subst hn
  obtain⟨a1,ha1⟩:=jI E1
  have hlenT:(toH T sz).length=sz:=ez _ _
  rw[fq]
  refine W.Ea (a:=a1) (H:=toH T sz) (X:=pa.X) (it:=pa.it) (p:=pa.p) (q:=pa.q) (d:=pa.d) (mt:=pa.mt) (m:=m) (es:=es) ?_ f2 f3 f4 f5 hu (by rw[<-gS ha1,<-cO];exact hX) ⟨hn1,hn2,hn3,hip,hiq,hpq⟩ hatm ?_
   (fun s a' H'=> ∃(dB:Nat) (st:St),l[dB]? =some st/\(∀i,i<es.length->(dB.testBit i=true↔i∈s))/\cZ st.E a'/\H'=st.h.H) ?_ ?_ ?_ ?_
  ·intro Qx ho2 σ act w hi
   have:=(fS hcall (Ab (K:=K) rfl rfl (ops:=sh.rops) (Qx:=Qx)) sh.pre E h _ hrun).2 [sh.o2] a₀ h₀ (fun a' ha' σ act w hi=>by
    have hi:In K a' (toH T sz) σ act w:=hi
    exact ho2 σ act w ⟨hi.hr,hi.ar.less fun t=> .inr (by rw[ha1 t,ha' t]),hi.df,hi.ex⟩)
   have:=this σ act w hi
   rw[<-hops]at this
   exact this
  ·intro i k v hk
   exact EI.1 hpl _ (EE hk)
  ·refine⟨0,⟨E2,h2⟩,m0,fun i _=>by simp,?_,by show _=h2.H;rw[p1]⟩
   intro t
   show gE E2 t=undef\/gE E2 t=_
   rw[jF hE2]
   by_cases hm:t∈[pa.p,pa.q]
   ·rw[if_pos hm];exact .inl rfl
   ·rw[if_neg hm]
    right
    have:=iP hE1' ha1 t
    rw[hlenT]
    exact this.symm
  ·rintro s a' H' ⟨dB,st,hst,_,hless,rfl⟩
   obtain⟨u1,u2⟩:=q1 st (EE hst)
   refine⟨u1,?_⟩
   rw[hlenT]
   rcases hless pa.it with h|h
   ·rw[u2]at h;cases h
   ·rw[<-h,u2]
  ·rintro s a' H' ⟨dB,st,hst,hbits,hless,rfl⟩ hall
   have hmask:dB=2^es.length-1:=mask_top (by rw[<-m1];exact(Ey.1 hst).1) fun i hi=>(hbits i hi).2 (hall i hi)
   rw[hmask,hs2l]at hst
   cases hst
   exact hq _ ((hless.put hE3).put hE4)
  ·rintro s a' H' i k v ⟨dB,st,hst,hbits,hless,rfl⟩ his hes σ w hr K' hK'
   have hil:i<es.length:=(Ey.1 hes).1
   have hbf:dB.testBit i=false:=by
    cases hb:dB.testBit i with
    |false=>rfl
    |true=>exact absurd ((hbits i hil).1 hb) his
   obtain⟨t,s',w1,w2,w3⟩:=q2 dB st hst i hil hbf
   have hstI:=m2 st (EE hst)
   have htI:=m2 t (EE w1)
   have hs'I:=uA hcall hev i st s' hstI w2
   obtain⟨v1,v2⟩:=hsame s' t hs'I htI w3
   obtain⟨k',v',F1,tr,F2,g2,x,s3,F,hk',hF1,hrunB,hcode,hx,hF,rfl⟩:=vF w2
   rw[hes]at hk'
   cases hk'
   have hPK:K'.P=K.P:=by rw[hK']
   have hnK:K'.n=K.n:=by rw[hK']
   have hIs: ∀a'',cZ s3.E a''-> ∃(dB:Nat) (st:St),l[dB]? =some st/\(∀j,j<es.length->(dB.testBit j=true↔j∈i::s))/\cZ st.E a''/\s3.h.H=st.h.H:=by
    intro a'' hl''
    refine⟨_,t,w1,fun j hj=> ?_,fun t'=> ?_,v1⟩
    ·rw[mask_or,hbits j hj,EG]
     constructor
     ·rintro(h|h)
      ·exact .inr h
      ·exact .inl h.symm
     ·rintro(h|h)
      ·exact .inr h.symm
      ·exact .inl h
    ·rw[v2 t']
     show gE F t'=undef\/gE F t'=_
     rw[jF hF]
     split
     ·exact .inl rfl
     ·exact hl'' t'
   have hl1:cZ F1 (aB K.n (aB K.n (aB K.n a' (some pa.p) (.tuple #[.bool true,k,v])) (some pa.q) (.bool true)) (some pa.d) (.tuple #[k,v])):=by
    refine cZ.put (E:=st.E) (fun t'=> ?_) hF1
    by_cases c1:t'=pa.q
    ·left;exact hstI.junk t' (by simp[c1])
    ·by_cases c2:t'=pa.p
     ·left;exact hstI.junk t' (by simp[c2])
     ·rw[qd c1,qd c2];exact hless t'
   obtain⟨b1,hb1⟩:=jI F1
   have hWl:=(fS hcall (lj_Wl (K:=K') hPK hnK (ops:=(sh.o5::sh.ops3).toArray) (Q:=AX.then (W K' sh.rest (AX.inBlock sh.i2 (AX.then (fun a'' H''=> ∃(dB:Nat) (st:St),l[dB]? =some st/\(∀j,j<es.length->(dB.testBit j=true↔j∈i::s))/\cZ st.E a''/\H''=st.h.H) (AX.inBlock sh.i1 Q)))) (AX.inBlock sh.i2 (AX.then (fun a'' H''=> ∃(dB:Nat) (st:St),l[dB]? =some st/\(∀j,j<es.length->(dB.testBit j=true↔j∈i::s))/\cZ st.E a''/\H''=st.h.H) (AX.inBlock sh.i1 Q))))) sh.ops3 F1 st.h _ hrunB).2 [] b1 hb1 (fun a2 ha2=>Wl.nil (by
    show W K' sh.rest _ a2 g2.H
    have J:=hev.ok hcode (Q:=AX.inBlock sh.i2 (AX.then (fun a'' H''=> ∃(dB:Nat) (st:St),l[dB]? =some st/\(∀j,j<es.length->(dB.testBit j=true↔j∈i::s))/\cZ st.E a''/\H''=st.h.H) (AX.inBlock sh.i1 Q))) ha2.less (fun a3 ha3=>by
     rcases hx with rfl|rfl
     ·exact hIs a3 ha3
     ·simp only[AX.inBlock,if_true]
      exact hIs a3 ha3)
    have J: ∀K0:oq K.P K.n,W K0.1 sh.rest _ a2 g2.H:=J
    exact J ⟨K',hPK,hnK⟩))
   rw[Ft]at hWl
   intro σ' act' w' hi'
   exact hWl σ' act' w' ⟨hi'.hr,hi'.ar.less (tz hl1 hb1),hi'.df,hi'.ex⟩
end Go.Ev
