import Derived.Test.YtjcomcgpjjianaaA16
set_option linter.all false
set_option maxHeartbeats 16000000
set_option maxRecDepth 8000
open Go.Value renaming int→O
open Go.IntKind renaming i64→U
namespace Go.Ev
theorem yr{E:Tri Value}: ∀{n:Nat} {l:List (Nat×Value)},listE E n=some l-> ∀t,ae l t=if t<n then gE E t else undef
 | 0,l,h,t=>by cases h;simp[ae]
 |n+1,l,h,t=>by
  have h:(ob (fTop (gE E n)) fun v=>ob (listE E n) fun l=>some ((n,v)::l))=some l:=h
  simp only[aH]at h
  obtain⟨v,h1,l',h2,h3⟩:=h
  cases h3
  rw[BT h1]
  simp only[ae]
  rw[yr h2 t]
  by_cases e:n=t
  ·subst e;rw[if_pos rfl,if_pos (by omega)]
  ·rw[if_neg e]
   by_cases h':t<n
   ·rw[if_pos h',if_pos (by omega)]
   ·rw[if_neg h',if_neg (by omega)]
theorem DD{s:LoopState}:tQ s=true↔s= .busy:=by cases s<;>simp[tQ]
theorem CF{p:Option Code}{x:AX}(h:qK p=some x){Q:AX->Env->AH->Prop}{a:Env}{H:AH}(q:Q x a H):wi Q a H p:=by
 unfold qK at h
 split at h
 ·cases h;exact q
 ·cases h;exact q
 ·cases h;exact q
 ·cases h
theorem Dk{P:Program}{call:dZ}(hcall:fH P call){ev:EvF}{g:Operand}{ps:Array Tmp}{assign body:Code}{md n:Nat}{E:Tri Value}{h:Hp}{x:AX}{s:St}(e:z9 g ps assign body P call ev md n E h=some (x,s)):
 Gr h s.h/\(∀t,gE s.E t=gE E t)/\ ∀{Q a},cZ E a->(∀a',cZ s.E a'->Q x a' s.h.H)->Jm P md n (.rangeFunc g ps assign body) Q a h.H:=by
 obtain⟨T,sz,low,ws⟩:=h
 unfold z9 at e
 obtain⟨hmd,e1⟩:=bh e
 clear e
 have e:=e1
 clear e1
 have hmd:=ES hmd
 subst hmd
 rw[aH]at e
 obtain⟨⟨gf,first,cap⟩,hf,e⟩:=e
 rw[aH]at e
 obtain⟨env,henv,e⟩:=e
 have e:(ob (mq sz) fun nl=>ob (mG T sz low ws (.loop .ready none ps assign body n env)) fun h1=>
  Hp.rec (motive:=fun _=>Option (AX×St)) (fun T sz low ws=>ob (call gf (sB (sB first [.chan (some nl)]) cap) T sz) fun r=>bb r.pan none
   (ob (aoL (hRd r.h nl)) fun lp=>bb (tQ lp.1) none (Hp.rec (motive:=fun _=>Option (AX×St)) (fun T sz low' ws'=>nn (minN low' low) fun l=>ob (setT T sz l (et ws' ws) nl .dead) fun h2=>ob (qK lp.2.1) fun x=>some (x,⟨E,h2⟩)) r.h))) h1)=some (x,s):=e
 rw[aH]at e
 obtain⟨nl,hnl,e⟩:=e
 have hnl:=(iN hnl).symm
 subst hnl
 rw[aH]at e
 obtain⟨⟨T1,sz1,low1,ws1⟩,hpush,e⟩:=e
 have e:(ob (call gf (sB (sB first [.chan (some sz)]) cap) T1 sz1) fun r=>bb r.pan none
  (ob (aoL (hRd r.h sz)) fun lp=>bb (tQ lp.1) none (Hp.rec (motive:=fun _=>Option (AX×St)) (fun T sz' low' ws'=>nn (minN low' low1) fun l=>ob (setT T sz' l (et ws' ws1) sz .dead) fun h2=>ob (qK lp.2.1) fun x=>some (x,(⟨E,h2⟩:St))) r.h)))=some (x,s):=e
 rw[aH]at e
 obtain⟨⟨pn,v,⟨T2,sz2,low2,ws2⟩⟩,hcl,e⟩:=e
 rw[bH]at e
 split at e
 ·cases e
 rename_i hpn
 have hpn:pn=false:=by cases pn<;>simp_all
 subst hpn
 rw[aH]at e
 obtain⟨⟨st,pend,ps',as',bd',m',env'⟩,hl,e⟩:=e
 rw[bH]at e
 split at e
 ·cases e
 rename_i hbusy
 have e:(nn (minN low2 low1) fun l=>ob (setT T2 sz2 l (et ws2 ws1) sz .dead) fun h2=>ob (qK pend) fun x=>some (x,(⟨E,h2⟩:St)))=some (x,s):=e
 rw[iD,aH]at e
 obtain⟨h3,hset,e⟩:=e
 rw[aH]at e
 obtain⟨x',hpend,e⟩:=e
 cases e
 obtain⟨hb,hac,hkl,hkw⟩:=hcall _ _ _ _ _ _ _ hcl
 have hkl:KpL low2 (toH T1 sz1) (toH T2 sz2):=hkl
 have hkw:KpW ws2 (toH T1 sz1) (toH T2 sz2):=hkw
 obtain⟨p1,p2,p3,p4⟩:=mP hpush
 obtain⟨s1,_⟩:=nS hset
 have p1:toH T1 sz1=toH T sz++[.loop .ready none ps assign body n env]:=p1
 have hlen:(toH T sz).length=sz:=ez _ _
 refine⟨((qt hpush).trans (BZ (low:=low1) (ws:=ws1) (xh _ _) hkl hkw)).trans (uU hset),fun t=>rfl,fun{Q a} ha hq=> ?_⟩
 have hle:=yr henv
 refine Jm.rep ha fun a₀ h₀=> ?_
 show∀K:oq P n,M K.1 _ Q a₀ (toH T sz)
 rintro⟨K,hP,hn⟩
 subst hP;subst hn
 have hfv:bq a₀ g= .func (.func gf) ⟨first⟩ ⟨cap⟩:=by
  have:=BI hf
  rw[cO,gS h₀]at this
  exact this
 have hat:at_ (toH T2 sz2) (toH T sz).length= .loop st pend ps' as' bd' m' env':=by
  rw[hlen,rj];exact aoL_eq hl
 refine M.rangeFunc (env:=env) (fun t=> ?_) hfv hb (v:=v) (H2:=toH T2 sz2) ?_ hat (fun e=>hbusy (DD.2 e)) (CF hpend ?_)
 ·rw[hle t]
  split
  ·exact .inr (h₀ t).symm
  ·exact .inl rfl
 ·rw[sM,sM,p1]at hac
  rw[hlen]
  exact hac
 ·rw[hlen]
  have s1:h3.H=(toH T2 sz2).set sz .dead:=s1
  rw[<-s1]
  exact hq a₀ h₀.less
theorem codeK_ok{P:Program}(hm:P.follows .mixedOrders=true){call:dZ}(hcall:fH P call){ev:EvF}(hev:EvOk P ev):EvOk P (fun md n c E h=>codeK c P call ev md n E h):=by
 have r:=fun md n=>rl_Jm P md n
 have hloop: ∀{md n c E h x s},loopK c P call ev md n E h=some (x,s)->Gr h s.h/\(∀t,t∉jx c->gE s.E t=gE E t)/\ ∀{Q},(∀a',cZ s.E a'->Q x a' s.h.H)-> ∃m,∀a,cZ E a->Rk (Jm P md n) c Q m a h.H:=by
  intro md n c E h x s e
  have e:(ob (ev md n c E h) fun xs=>Prod.rec (motive:=fun _=>Option (AX×St)) (fun x s=>bb (dY x) (St.rec (motive:=fun _=>Option (AX×St)) (fun E h=>ev md n (.loop c) E h) s) (some (x,s))) xs)=some (x,s):=e
  rw[aH]at e
  obtain⟨⟨x1,⟨E1,h1⟩⟩,h2,e⟩:=e
  have e:bb (dY x1) (ev md n (.loop c) E1 h1) (some (x1,⟨E1,h1⟩))=some (x,s):=e
  rw[bH]at e
  split at e
  ·rename_i hx
   have hx:=ic.1 hx
   subst hx
   refine⟨(hev.gr h2).trans (hev.gr e),fun t ht=>(hev.same e t ht).trans (hev.same h2 t ht),fun{Q} hq=> ?_⟩
   obtain⟨m,hmm⟩:=hev.loop e hq
   refine⟨m+1,fun a ha=>hev.ok h2 ha fun a' ha'=>hmm a' ha'⟩
  ·rename_i hx
   cases e
   refine⟨hev.gr h2,hev.same h2,fun{Q} hq=>⟨1,fun a ha=>hev.ok h2 ha fun a' ha'=>yZ hx (hq a' ha')⟩⟩
 have hall: ∀{md n c E h x s},codeK c P call ev md n E h=some (x,s)->Gr h s.h/\(∀t,t∉jx c->gE s.E t=gE E t)/\ ∀{Q a},cZ E a->(∀a',cZ s.E a'->Q x a' s.h.H)->Jm P md n c Q a h.H:=by
  intro md n c E h x s e
  cases c with
  |skip=>cases e;exact⟨Gr.refl _,fun _ _=>rfl,fun ha hq=>(r md n).skip (hq _ ha)⟩
  |ret=>cases e;exact⟨Gr.refl _,fun _ _=>rfl,fun ha hq=>(r md n).ret (hq _ ha)⟩
  |exit i=>cases e;exact⟨Gr.refl _,fun _ _=>rfl,fun ha hq=>(r md n).exit (hq _ ha)⟩
  |region id ops dr=>exact Ac hm hcall hev e
  |rangeFunc g ps as bd=>
   obtain⟨g1,g2,g3⟩:=Dk (ev:=ev) hcall e
   exact⟨g1,fun t _=>g2 t,g3⟩
  |cond c x' y=>
   have e:(ob (mf (aX (gE E) c)) fun b=>bb b (ev md n x' E h) (ev md n y E h))=some (x,s):=e
   rw[aH]at e
   obtain⟨b,hb,e⟩:=e
   have hb:=mz hb
   rw[cO]at hb
   rw[bH]at e
   have e:ev md n (if b=true then x' else y) E h=some (x,s):=by cases b<;>exact e
   refine⟨hev.gr e,fun t ht=>hev.same e t ?_,fun{Q a} ha hq=>Jm.rep ha fun a₀ h₀=> ?_⟩
   ·simp only[jx,EY,not_or]at ht
    cases b
    ·exact ht.2
    ·exact ht.1
   ·rw[gS h₀]at hb
    exact(r md n).cond hb (hev.ok e h₀.less hq)
  |block id c=>
   have e:(ob (ev md n c E h) fun xs=>Prod.rec (motive:=fun _=>Option (AX×St)) (fun x s=>oe (zW x) (fun i=>bb (Nat.beq i id) (some (.normal,s)) (some (x,s))) (some (x,s))) xs)=some (x,s):=e
   rw[aH]at e
   obtain⟨⟨x1,s1⟩,h2,e⟩:=e
   have e:oe (zW x1) (fun i=>bb (Nat.beq i id) (some (.normal,s1)) (some (x1,s1))) (some (x1,s1))=some (x,s):=e
   have key:s1=s/\ ∀{Q:AX->Env->AH->Prop} a' H',Q x a' H'->AX.inBlock id Q x1 a' H':=by
    cases x1 with
    |exit i=>
     have e:bb (Nat.beq i id) (some (.normal,s1)) (some (.exit i,s1))=some (x,s):=e
     rw[bH]at e
     split at e
     ·rename_i hi
      have hi:=ES hi
      cases e
      refine⟨rfl,fun a' H' q=> ?_⟩
      simp only[AX.inBlock]
      rw[if_pos hi];exact q
     ·rename_i hi
      cases e
      refine⟨rfl,fun a' H' q=> ?_⟩
      simp only[AX.inBlock]
      rw[if_neg (fun e=>hi (by rw[e];simp))];exact q
    |normal=>cases e;exact⟨rfl,fun _ _ q=>q⟩
    |ret=>cases e;exact⟨rfl,fun _ _ q=>q⟩
    |panic v=>cases e;exact⟨rfl,fun _ _ q=>q⟩
   obtain⟨rfl,key⟩:=key
   exact⟨hev.gr h2,fun t ht=>hev.same h2 t ht,fun ha hq=>(r md n).block (hev.ok h2 ha fun a' ha'=>key _ _ (hq a' ha'))⟩
  |loop c=>
   obtain⟨g1,g2,g3⟩:=hloop e
   refine⟨g1,g2,fun ha hq=> ?_⟩
   obtain⟨m,hmm⟩:=g3 hq
   exact Rk.loop (r md n) (hmm _ ha)
  |seq x' y=>
   have e:oe (bb (Nat.beq md 2) none (ri x' y)) (fun sh=>mapK P call ev n sh E h)
    (ob (ev md n x' E h) fun xs=>Prod.rec (motive:=fun _=>Option (AX×St)) (fun x s=>bb (dY x) (St.rec (motive:=fun _=>Option (AX×St)) (fun E h=>ev md n y E h) s) (some (x,s))) xs)=some (x,s):=e
   cases hsh:bb (Nat.beq md 2) none (ri x' y)with
   |some sh=>
    rw[hsh,bX]at e
    rw[bH]at hsh
    split at hsh
    ·cases hsh
    ·rename_i hmd
     exact mapK_ok hcall hev (fun h=>hmd (by subst h;rfl)) hsh e
   |none=>
    rw[hsh,cc,aH]at e
    obtain⟨⟨x1,⟨E1,h1⟩⟩,h2,e⟩:=e
    have e:bb (dY x1) (ev md n y E1 h1) (some (x1,⟨E1,h1⟩))=some (x,s):=e
    rw[bH]at e
    split at e
    ·rename_i hx
     have hx:=ic.1 hx
     subst hx
     refine⟨(hev.gr h2).trans (hev.gr e),fun t ht=> ?_,fun{Q a} ha hq=>(r md n).seq (hev.ok h2 ha fun a' ha'=>hev.ok e ha' hq)⟩
     simp only[jx,EY,not_or]at ht
     exact(hev.same e t ht.2).trans (hev.same h2 t ht.1)
    ·rename_i hx
     cases e
     refine⟨hev.gr h2,fun t ht=> ?_,fun{Q a} ha hq=>(r md n).seq (hev.ok h2 ha fun a' ha'=>yZ hx (hq a' ha'))⟩
     simp only[jx,EY,not_or]at ht
     exact hev.same h2 t ht.1
  |_=>cases e
 exact⟨fun{_ _ _ _ _ _ _} e=>(hall e).1,fun{_ _ _ _ _ _ _} e=>(hall e).2.1,fun{_ _ _ _ _ _ _} e=>(hall e).2.2,fun{_ _ _ _ _ _ _} e {Q} hq=>(hloop e).2.2 hq⟩
theorem Ao{P:Program}(hm:P.follows .mixedOrders=true){call:dZ}(hcall:fH P call): ∀k,EvOk P (evC P call k)
 | 0=>⟨fun{_ _ _ _ _ _ _} (e:none=_)=>(by cases e),fun{_ _ _ _ _ _ _} (e:none=_)=>(by cases e),fun{_ _ _ _ _ _ _} (e:none=_)=>(by cases e),fun{_ _ _ _ _ _ _} (e:none=_)=>(by cases e)⟩
 |k+1=>codeK_ok hm hcall (Ao hm hcall k)
def mY(P:Program)(fn:Func)(r:OpR):AX->Env->AH->Prop
 | .normal,a,H'| .ret,a,H'=> ∃a'',(∀t,ae a'' t=undef\/ae a'' t=ae a t)/\ ∃v,fg P fn a'' H'=some v/\r= .val v H'
 | .panic v,_,H'=>r= .pan v H'
 |_,_,_=>False
theorem AC.ofX{P:Program}{f:FuncId}{fn:Func}{c:Code}{args:List Value}{H:AH}{r:OpR}(hf:P.funcs[f]? =some fn)(hb:fn.body=some c)(hn:args.length<=fn.ntmps)(h: ∀σ w,HR σ H w->W ⟨P,fn.ntmps,[],σ,H,w⟩ c (mY P fn r) (dD 0 args) H):AC P f args H r:=by
 intro σ w args' ha hr
 refine calls_of_wp hf hb ?_
 refine wp_mono (h σ w hr σ _ w ⟨hr,kS ha hn,rfl,Ext.refl _ _ _⟩) fun e act' w' hp=> ?_
 obtain⟨x,a',H',σ',q,hx,hi⟩:=hp
 have hval:(∃a'',(∀t,ae a'' t=undef\/ae a'' t=ae a' t)/\ ∃v,fg P fn a'' H'=some v/\r= .val v H')->act'.defers=[]/\ ∃v,(results fn act'.tmps).run P w'= .ok v w'/\ ∃σ',EndR σ' r (.returned v)/\HR σ' r.heap w'/\Ext σ H w σ' r.heap w':=by
  rintro⟨a'',hl,v,h1,rfl⟩
  obtain⟨v',g1,g2⟩:=mO (P:=P) hi.hr (hi.ar.less hl) h1
  exact⟨hi.df,v',g1,_,g2,hi.hr,hi.ex⟩
 cases x<;>cases e<;>first|exact hx.elim|skip
 ·exact hval q
 ·exact q.elim
 ·exact hval q
 ·have q:r= .pan _ H':=q
  subst q
  obtain⟨v',rfl,g2⟩:=hx
  exact⟨hi.df,_,⟨v',rfl,g2⟩,hi.hr,hi.ex⟩
theorem AC.ofMX{P:Program}{f:FuncId}{fn:Func}{c:Code}{args:List Value}{H:AH}{r:OpR}(hf:P.funcs[f]? =some fn)(hb:fn.body=some c)(hn:args.length<=fn.ntmps)(h: ∀σ w,HR σ H w->M ⟨P,fn.ntmps,[],σ,H,w⟩ c (mY P fn r) (dD 0 args) H):AC P f args H r:=by
 intro σ w args' ha hr
 refine(callsIn_wide (n:=0)).1 (callsIn_of_wp_marks hf hb trivial (wpIn_wide.2 ?_))
 refine wp_mono (h σ w hr [] σ _ w ⟨⟨hr,kS ha hn,rfl,Ext.refl _ _ _⟩,fun b hb=>absurd hb (by simp),GH⟩) fun e act' w' hp=> ?_
 obtain⟨ms,x,a',H',σ',q,hx,⟨hi,hm,hnd⟩⟩:=hp
 have hdf:act'.defers=ms.map mark:=by have:=hi.df;simpa using this
 obtain⟨rz,xz⟩:=yH (w₀:=w) (σ₀:=σ) (H₀:=H) ms w' hi.hr hi.ex fun b hb=>⟨(hm b hb).1,(hm b hb).2.2⟩
 have hval:(∃a'',(∀t,ae a'' t=undef\/ae a'' t=ae a' t)/\ ∃v,fg P fn a'' H'=some v/\r= .val v H')->LeavesInM Fence.wide 0 P fn act'.tmps (fun e w'=> ∃σ',EndR σ' r e/\HR σ' r.heap w'/\Ext σ H w σ' r.heap w') act'.defers .returning w':=by
  rintro⟨a'',hl,v,h1,rfl⟩
  rw[hdf]
  refine lr (by simp) ms w' hnd (fun b hb=>(hm b hb).2.1) ?_
  obtain⟨v',g1,g2⟩:=mO (P:=P) rz (hi.ar.less hl) h1
  exact⟨v',g1,_,g2,rz,xz⟩
 cases x<;>cases e<;>first|exact hx.elim|skip
 ·exact hval q
 ·exact q.elim
 ·exact hval q
 ·have q:r= .pan _ H':=q
  subst q
  obtain⟨v',rfl,g2⟩:=hx
  show LeavesInM Fence.wide 0 P fn act'.tmps _ act'.defers _ w'
  rw[hdf]
  refine lr (by simp) ms w' hnd (fun b hb=>(hm b hb).2.1) ?_
  exact⟨_,⟨v',rfl,g2⟩,rz,xz⟩
def AZ(P:Program)(fn:Func)(g:FuncId)(n:Nat)(r:OpR):AX->Env->AH->Prop
 | .normal,a,H'| .ret,a,H'=> ∃H2,DefC P g n H' .returning H2/\mY P fn r .ret a H2
 | .panic v,a,H'=>Rigid v/\ ∃H2,DefC P g n H' (.panicking [{v:=v,recovered:=false}]) H2/\mY P fn r .ret a H2
 |_,_,_=>False
theorem AC.Ei{P:Program}{f g:FuncId}{fn:Func}{c0 rest:Code}{args:List Value}{H:AH}{r:OpR}{id n:Nat}{o:Oper}{t:Tmp}{ts:Array TypeId}(hf:P.funcs[f]? =some fn)(hb:fn.body=some (.seq c0 (.seq (.region id #[o] false) rest)))(hn:args.length<=fn.ntmps)(ho:o.op= .defer ⟨.value (.func g),#[.tmp t],ts⟩)(hd:o.dst=none)(hg:o.guard=none)(hgo:aO P g)(h: ∀σ w,HR σ H w->W ⟨P,fn.ntmps,[],σ,H,w⟩ c0 (fun x a' H'=>x= .normal/\bq a' (.tmp t)= .pointer (some ⟨n,0,none⟩)/\ ∀D σ' w',HR σ' H' w'->W ⟨P,fn.ntmps,D,σ',H',w'⟩ rest (AZ P fn g n r) a' H') (dD 0 args) H):AC P f args H r:=by
 intro σ w args' ha hr
 refine calls_of_wp_defers hf hb ?_
 refine wp_seq (wp_mono (h σ w hr σ _ w ⟨hr,kS ha hn,rfl,Ext.refl _ _ _⟩) fun e act' w' hp=> ?_)
 obtain⟨x,a',H',σ',⟨rfl,hp,hrest⟩,hx,hi⟩:=hp
 cases e<;>first|exact hx.elim|skip
 show(Code.seq _ _).wp _ _ _ _
 have hv:=hi.ar.eval (.tmp t)
 rw[hp]at hv
 generalize hpv:act'.eval (.tmp t)=pv at hv
 cases hv with
 |ptr hσ=>
 rename_i b off s
 refine wp_seq (wp_region_list (wpList_step fun k hk=> ?_))
 rw[if_pos (by unfold Region.wanted;rw[hg])]
 unfold Oper.wp
 have hrun:(execOp act'.eval o).run P w'= .ok (.defer {target:= .fn (.func g) #[],args:= #[.pointer (some ⟨b,off+0,none⟩)]}) w':=by
  rw[execOp,ho]
  simp only[resolve,Deferred.ofValue,Act.eval,ED]
  simp only[Act.eval]at hpv
  simp[hpv,Act.eval]
 rw[hrun]
 refine hk _ _ (wpList_nil ?_)
 rw[hd]
 show rest.wp P _ _ w'
 have hdf:act'.defers=[]:=hi.df
 have hW:=hrest [{target:= .fn (.func g) #[],args:= #[.pointer (some ⟨b,off+0,none⟩)]}] σ' w' hi.hr σ' (({act' with defers:={target:= .fn (.func g) #[],args:= #[.pointer (some ⟨b,off+0,none⟩)]}::act'.defers}:Act).put none undef) w'
  ⟨hi.hr,⟨hi.ar.len,hi.ar.get⟩,by rw[dq,hdf],Ext.refl _ _ _⟩
 refine wp_mono hW fun e act2 w2 hp2=> ?_
 obtain⟨x,a2,H2,σ2,q,hx2,hi2⟩:=hp2
 have hdf2:act2.defers=[{target:= .fn (.func g) #[],args:= #[.pointer (some ⟨b,off+0,none⟩)]}]:=hi2.df
 have hinv: ∀w,(invoke (.fn (.func g) #[]) #[.pointer (some ⟨b,off+0,none⟩)]).run P w= .ok (.enter g #[.pointer (some ⟨b,off+0,none⟩)]) w:=by
  obtain⟨gn,b1,b2,b3⟩:=hgo
  intro w
  simp only[invoke,callFunc,ED,run_program,Result.andThen_ok,b1]
  simp only[b3,b2,EO,if_false,Sem.run_pure]
  rfl
 have hσ2:σ2 n=some (b,off,s):=hi2.ex.sub _ _ hσ
 have fin: ∀u H3,u≠ .run->DefC P g n H2 u H3->mY P fn r .ret a2 H3->Leaves P fn act2.tmps (fun e w'=> ∃σ',EndR σ' r e/\HR σ' r.heap w'/\Ext σ H w σ' r.heap w') act2.defers u w2:=by
  intro u H3 hu hc he
  rw[hdf2]
  refine leaves_cons hu (hinv w2) ((hc σ2 w2 b off s hσ2 hi2.hr).mono ?_)
  rintro e u' w3 ⟨⟨v,rfl⟩,hu',σ3,hr3,hx3⟩
  simp only[hu']
  obtain⟨a'',hl,v,h1,rfl⟩:=he
  have har:AR σ3 fn.ntmps a2 act2:=hi2.ar.mono hx3.sub
  obtain⟨v',g1,g2⟩:=mO (P:=P) hr3 (har.less hl) h1
  exact⟨v',g1,_,g2,hr3,(hi.ex.trans hi2.ex).trans hx3⟩
 cases x<;>cases e<;>first|exact hx2.elim|skip
 ·obtain⟨H3,hc,he⟩:=q
  exact fin _ H3 (by simp) hc he
 ·exact q.elim
 ·obtain⟨H3,hc,he⟩:=q
  exact fin _ H3 (by simp) hc he
 ·obtain⟨hrig,H3,hc,he⟩:=q
  obtain⟨v',rfl,g2⟩:=hx2
  have:=hrig _ _ g2
  subst this
  exact fin _ H3 (by simp) hc he
theorem gk{P:Program}{E:Tri Value}{h:Hp}{a:Env}(ha:eY E a){r:ResultVar}{v:Value}(e:xY P E h r=some v):kh P a h.H r=some v:=by
 cases r with
 |tmp t=>
  have e:some (gE E t)=some v:=e
  cases e
  show some (ae a t)=_
  rw[ha t]
 |cell c t=>
  obtain⟨T,sz,low,ws⟩:=h
  have e:(ob (vW P (rdT T sz) t (gE E c)) fun r=>some r.1)=some v:=e
  rw[aH]at e
  obtain⟨⟨u,fx⟩,h1,h2⟩:=e
  cases h2
  have:=yD h1
  rw[EB]at this
  obtain⟨w,h3,h4⟩:=this
  cases h4
  show dQ P (toH T sz) t (ae a c)=some u
  rw[<-Bv,<-rd_at,ha c]
  exact h3
theorem resR_ok{P:Program}{fn:Func}{E:Tri Value}{h:Hp}{a:Env}(ha:eY E a){v:Value}(e:resR P fn E h xY=some v):fg P fn a h.H=some v:=by
 unfold resR at e
 unfold fg
 split at e
 ·rename_i r hr
  rw[hr];exact gk ha e
 ·rename_i r t hr
  rw[hr]
  split at e
  ·rename_i v1 v2 h1 h2
   cases e
   simp only[gk ha h1,gk ha h2]
  ·cases e
 ·rename_i r t q hr
  rw[hr]
  split at e
  ·rename_i v1 v2 v3 h1 h2 h3
   cases e
   simp only[gk ha h1,gk ha h2,gk ha h3]
  ·cases e
 ·rename_i hr
  rw[hr];exact e
 ·cases e
theorem wu{P:Program}{fn:Func}{E:Tri Value}{h:Hp}{r:eM}(e:oW P fn E h=some r): ∃v,r=⟨false,v,h⟩/\ ∀a,cZ E a->mY P fn (.val v h.H) .ret a h.H:=by
 unfold oW at e
 simp only[aH]at e
 obtain⟨v,h1,u,h2,h3⟩:=e
 cases h3
 have:=lx _ _ _ h2
 subst this
 refine⟨_,rfl,fun a ha=> ?_⟩
 obtain⟨a₀,h₀⟩:=jI E
 exact⟨a₀,tz ha h₀,_,resR_ok h₀ h1,rfl⟩
theorem zo: ∀{l:List Value} {i:Nat} {E E':Tri Value},yw i l E=some E'-> ∀t,gE E' t=if i<=t/\t<i+l.length then(l[t-i]?).getD undef else gE E t
 | [],i,E,E',h,t=>by cases h;simp;intro h1 h2;omega
 |v::l,i,E,E',h,t=>by
  have h:(ob (E.tput 40 i v) fun E=>yw (Nat.succ i) l E)=some E':=h
  rw[aH]at h
  obtain⟨E0,h1,h2⟩:=h
  rw[zo h2 t,jZ h1]
  by_cases e:t=i
  ·subst e
   rw[if_neg (by show¬(t+1<=t/\_);omega),if_pos rfl,if_pos (by simp),F8];rfl
  ·by_cases e2:i<=t/\t<i+(l.length+1)
   ·rw[if_pos (by show i+1<=t/\t<i+1+l.length;omega),if_pos (by simpa using e2),show t-i=(t-(i+1))+1 by omega,List.getElem?_cons_succ]
   ·rw[if_neg (by show¬(i+1<=t/\t<i+1+l.length);omega),if_neg e,if_neg (by simpa using e2)]
theorem CQ{l:List Value}{E:Tri Value}(h:yw 0 l .nil=some E):eY E (dD 0 l):=by
 intro t
 rw[zo h t,oZ]
 simp only[FT,true_and,EU,if_true,Nat.sub_zero]
 split
 ·rfl
 ·rename_i hn
  rw[Fd (by omega)]
  rw[wc];simp[Tri.get]
theorem zP{x:AX}{p:Option Value}(h:wm x=some p):(p=none/\(x= .normal\/x= .ret))\/ ∃v,p=some v/\x= .panic v:=by
 cases x with
 |normal=>cases h;exact .inl ⟨rfl,.inl rfl⟩
 |ret=>cases h;exact .inl ⟨rfl,.inr rfl⟩
 |exit i=>cases h
 |panic v=>cases h;exact .inr ⟨v,rfl,rfl⟩
theorem Ck{P:Program}{ev:EvF}(hev:EvOk P ev){md:Nat}(hmd:md≠2){f:FuncId}{fn:Func}{c:Code}(hf:P.funcs[f]? =some fn)(hb:fn.body=some c){args:List Value}(hn:args.length<=fn.ntmps){E:Tri Value}(hE:eY E (dD 0 args)){h:Hp}{r:eM}(e:xV P ev md fn c E h=some r):AC P f args h.H (OpR.of r.pan r.v r.h.H)/\Gr h r.h:=by
 unfold xV at e
 rw[aH]at e
 obtain⟨⟨x,⟨E1,h1⟩⟩,h2,e⟩:=e
 replace e:(ob (wm x) fun pv=>oe pv (fun v=>some ⟨true,v,h1⟩) (oW P fn E1 h1))=some r:=e
 rw[aH]at e
 obtain⟨pv,hpv,e⟩:=e
 have hg:=hev.gr h2
 have fin: ∀R:OpR,(∀a',cZ E1 a'->mY P fn R x a' h1.H)->AC P f args h.H R:=by
  intro R hR
  have J:=hev.ok h2 (Q:=mY P fn R) hE.less hR
  unfold Jm at J
  split at J
  ·exact AC.ofMX hf hb hn fun σ w _=>J ⟨⟨P,fn.ntmps,[],σ,h.H,w⟩,rfl,rfl⟩
  ·exact absurd rfl hmd
  ·exact AC.ofX hf hb hn fun σ w _=>J ⟨⟨P,fn.ntmps,[],σ,h.H,w⟩,rfl,rfl⟩
 clear h2
 rcases zP hpv with ⟨rfl,hx⟩|⟨v,rfl,rfl⟩
 ·rw[cc]at e
  obtain⟨v,rfl,hfin⟩:=wu e
  refine⟨fin _ fun a' ha'=> ?_,hg⟩
  rcases hx with rfl|rfl
  ·exact hfin a' ha'
  ·exact hfin a' ha'
 ·rw[bX]at e
  cases e
  exact⟨fin _ fun a' _=>rfl,hg⟩
def Ba(P:Program)(hook:Hook):Prop:= ∀g n pv T sz fx,hook g n pv (rdT T sz)=some fx->aO P g/\(match pv with
 |none=>DefC P g n (toH T sz) .returning (fx.apply (toH T sz))
 |some v=>Rigid v/\DefC P g n (toH T sz) (.panicking [{v:=v,recovered:=false}]) (fx.apply (toH T sz)))
theorem C4{c:Code}{ds:w7}(h:qE c=some ds): ∃id o ts,c= .seq ds.c0 (.seq (.region id #[o] false) ds.rest)/\o.op= .defer ⟨.value (.func ds.g),#[.tmp ds.t],ts⟩/\o.dst=none/\o.guard=none:=by
 unfold qE at h
 split at h
 ·rename_i c0 id o rest
  split at h
  ·cases h
   exact⟨_,_,_,rfl,rfl,rfl,rfl⟩
  ·cases h
 ·cases h
theorem Cv{P:Program}{ev:EvF}(hev:EvOk P ev){hook:Hook}(hhook:Ba P hook){f:FuncId}{fn:Func}{c:Code}{ds:w7}(hds:qE c=some ds)(hf:P.funcs[f]? =some fn)(hb:fn.body=some c){args:List Value}(hn:args.length<=fn.ntmps){E:Tri Value}(hE:eY E (dD 0 args)){h:Hp}{r:eM}(e:xi P hook ev fn ds E h=some r):AC P f args h.H (OpR.of r.pan r.v r.h.H)/\Gr h r.h:=by
 obtain⟨id,o,ts,rfl,ho,hd,hg⟩:=C4 hds
 unfold xi at e
 rw[aH]at e
 obtain⟨⟨x,⟨E1,h1⟩⟩,h2,e⟩:=e
 replace e:bb (dY x) (ob (qD (gE E1 ds.t)) fun a=>bb (gy a) (bb (Nat.beq a.off 0)
  (ob (ev 0 fn.ntmps ds.rest E1 h1) fun ys=>Prod.rec (motive:=fun _=>Option eM) (fun y s=>ob (wm y) fun pv=>St.rec (motive:=fun _=>Option eM) (fun E h=>Hp.rec (motive:=fun _=>Option eM) (fun T sz low ws=>
   ob (hook ds.g a.block pv (rdT T sz)) fun fx=>ob (doFx fx ⟨T,sz,low,ws⟩) fun h=>oW P fn E h) h) s) ys) none) none) none=some r:=e
 obtain⟨hx,e1⟩:=bh e
 clear e
 have hx:=ic.1 hx
 subst hx
 have e:=e1
 clear e1
 rw[aH]at e
 obtain⟨ad,had,e⟩:=e
 obtain⟨hsp,e⟩:=bh e
 obtain⟨hoff,e⟩:=bh e
 have hoff:=ES hoff
 rw[aH]at e
 obtain⟨⟨y,⟨E2,⟨T,sz,low,ws⟩⟩⟩,h3,e⟩:=e
 have e:(ob (wm y) fun pv=>ob (hook ds.g ad.block pv (rdT T sz)) fun fx=>ob (doFx fx ⟨T,sz,low,ws⟩) fun h=>oW P fn E2 h)=some r:=e
 simp only[aH]at e
 obtain⟨pv,hpv,fx,hfx,h4,hdo,e⟩:=e
 obtain⟨hgo,hhk⟩:=hhook _ _ _ _ _ _ hfx
 obtain⟨d1,d2,_⟩:=xQ hdo
 have d1:h4.H=fx.apply (toH T sz):=d1
 obtain⟨v,rfl,hfin⟩:=wu e
 have had:=j5 had
 rw[eW hsp,hoff]at had
 refine⟨AC.Ei (n:=ad.block) hf hb hn ho hd hg hgo fun σ w _=> ?_,((hev.gr h2).trans (hev.gr h3)).trans d2⟩
 have J:=hev.ok h2 (Q:=fun x a' H'=>x= .normal/\bq a' (.tmp ds.t)= .pointer (some ⟨ad.block,0,none⟩)/\ ∀D σ' w',HR σ' H' w'->W ⟨P,fn.ntmps,D,σ',H',w'⟩ ds.rest (AZ P fn ds.g ad.block (OpR.of false v h4.H)) a' H') hE.less fun a' ha'=>by
  refine⟨rfl,?_,fun D σ' w' _=> ?_⟩
  ·show ae a' ds.t=_
   rcases ha' ds.t with hh|hh
   ·rw[show(St.mk E1 h1).E=E1 from rfl,had]at hh;cases hh
   ·rw[<-hh];exact had
  ·have J2:=hev.ok h3 (Q:=AZ P fn ds.g ad.block (OpR.of false v h4.H)) ha' fun a2 ha2=>by
    have hres:=hfin a2 ha2
    rcases zP hpv with ⟨rfl,hy⟩|⟨u,rfl,rfl⟩
    ·rcases hy with rfl|rfl
     ·exact⟨h4.H,by rw[d1];exact hhk,hres⟩
     ·exact⟨h4.H,by rw[d1];exact hhk,hres⟩
    ·exact⟨hhk.1,h4.H,by rw[d1];exact hhk.2,hres⟩
   have J2: ∀K:oq P fn.ntmps,W K.1 ds.rest _ a' h1.H:=J2
   exact J2 ⟨⟨P,fn.ntmps,D,σ',h1.H,w'⟩,rfl,rfl⟩
 have J: ∀K:oq P fn.ntmps,W K.1 ds.c0 _ (dD 0 args) h.H:=J
 exact J ⟨⟨P,fn.ntmps,[],σ,h.H,w⟩,rfl,rfl⟩
theorem yL{P:Program}(hm:P.follows .mixedOrders=true)(hbo: ∀(f:FuncId) (fn:Func) (c:Code),P.funcs[f]? =some fn->fn.body=some c->aO P f){hook:Hook}(hhook:Ba P hook){ext:dZ}(hext:fH P ext){md:FuncId->Nat}(hmd: ∀f,md f≠2){fuel:Nat}:
 ∀d,fH P (oI P hook ext md fuel d)
 | 0=>fun _ _ _ _ _ _ _ (e:none=_)=>by cases e
 |d+1=>by
  intro f args T sz pn v h e
  have ih:=yL hm hbo hhook hext hmd (fuel:=fuel) d
  have hev:=Ao hm ih fuel
  have e:oe (ext f args T sz) (fun r=>some r) (ob (jP P.funcs.toList f) fun fn=>ob fn.body fun c=>bb (Nat.ble (fQ args) fn.ntmps) (ob (yw 0 args .nil) fun E=>oe (qE c)
   (fun ds=>xi P hook (evC P (oI P hook ext md fuel d) fuel) fn ds E ⟨T,sz,sz,[]⟩) (xV P (evC P (oI P hook ext md fuel d) fuel) (md f) fn c E ⟨T,sz,sz,[]⟩)) none)=some ⟨pn,v,h⟩:=e
  cases hx:ext f args T sz with
  |some r=>
   rw[hx,bX]at e
   cases e
   exact hext _ _ _ _ _ _ _ hx
  |none=>
   rw[hx,cc]at e
   rw[aH]at e
   obtain⟨fn,hfn,e⟩:=e
   rw[aH]at e
   obtain⟨c,hc,e⟩:=e
   obtain⟨hle,e⟩:=bh e
   have hle:=EL hle
   rw[dX]at hle
   rw[aH]at e
   obtain⟨E,hE,e⟩:=e
   have hE:=CQ hE
   rw[eE]at hfn
   have hfn:P.funcs[f]? =some fn:=by rw[<-hfn];simp
   have fin: ∀r:eM,AC P f args (toH T sz) (OpR.of r.pan r.v r.h.H)/\Gr ⟨T,sz,sz,[]⟩ r.h->aO P f/\AC P f args (toH T sz) (OpR.of r.pan r.v r.h.H)/\KpL r.h.low (toH T sz) r.h.H/\KpW r.h.ws (toH T sz) r.h.H:=fun r hr=>⟨hbo f fn c hfn hc,hr.1,hr.2.low _ (KpL.refl _ _),hr.2.ws _ (KpW.refl _ _)⟩
   cases hds:qE c with
   |some ds=>
    rw[hds,bX]at e
    exact fin _ (Cv hev hhook hds hfn hc hle hE e)
   |none=>
    rw[hds,cc]at e
    exact fin _ (Ck hev (hmd f) hfn hc hle hE e)
theorem AC.Ej{P:Program}{f:FuncId}{v:Value}{H':AH}(hp:plain v=true)(h:AC P f [] [] (.val v H'))(H:AH):AC P f [] H (.val v H):=by
 intro σ w args' ha hr
 have h0:HR (fun _=>none) [] w:={dom:=fun _ _ h=>(by cases h),obj:=fun _ _ h=>(by cases h),inj:=fun _ _ _ _ h=>(by cases h)}
 have ha0:Rs (fun _=>none) [] args':=⟨ha.1,fun i v v' e=>by simp at e⟩
 refine(h _ w args' ha0 h0).mono fun e w' hh=> ?_
 obtain⟨σ',he,_,hx⟩:=hh
 have hk: ∀b,b<w.heap.size->w'.heap[b]? =w.heap[b]? :=fun b hb=>hx.frame b hb fun n x h=>by cases h
 refine⟨σ,?_,?_,?_⟩
 ·cases e with
  |returned v'=>
   have he:VR σ' v v':=he
   exact Bel.plain (k:=0) hp σ' v' he|>.mono fun n x h=>by rw[bG]at h;omega
  |panicked c=>exact he.elim
  |outgrown=>exact he.elim
 ·exact⟨fun n x hn=>⟨(hr.dom n x hn).1,EV (hr.dom n x hn).2 hx.size⟩,fun n x hn=>(hr.obj n x hn).keep (fun _ _ h=>h) (hk _ (hr.dom n x hn).2),hr.inj⟩
 ·exact⟨fun _ _ h=>h,fun _ _ h=> .inl h,EJ _,hx.size,hx.os,hx.tape,hx.output,fun b hb _=>hk b hb,fun n x hn h _=>⟨n,x,hn,h,rfl⟩,fun n x hn h _=>⟨n,x,hn,h,rfl⟩⟩
theorem Bel.tuple{l:List Value}(h:l.all Ev.plain=true):Bel 0 (.tuple ⟨l⟩):=by
 refine Bel.of (σ:=fun _=>none) (v':= .tuple ⟨l⟩) (.tuple rfl fun i v v' a b=> ?_) (by simp)
 rw[a]at b
 cases b
 have:l[i]? =some v:=by simpa using a
 exact cT _ (EI.1 h v (EE this))
noncomputable def xD(r:Option eM):Bool:=Option.rec (motive:=fun _=>Bool) false (fun r=>eM.rec (motive:=fun _=>Bool) (fun pn v _=>bb pn false (Option.rec (motive:=fun _=>Bool) false (fun b=>b) (mf v))) r) r
theorem Cl{r:Option eM}(h:xD r=true): ∃hp,r=some ⟨false,.bool true,hp⟩:=by
 cases r with
 |none=>cases h
 |some r=>
  obtain⟨pn,v,hp⟩:=r
  replace h:bb pn false (Option.rec (motive:=fun _=>Bool) false (fun b=>b) (mf v))=true:=h
  rw[bH]at h
  split at h
  ·cases h
  ·rename_i hpn
   have hpn:pn=false:=by cases pn<;>simp_all
   subst hpn
   cases hv:mf v with
   |none=>rw[hv]at h;cases h
   |some b=>
    rw[hv]at h
    have h:b=true:=h
    subst h
    rw[mz hv]
    exact⟨hp,rfl⟩
def Up(R:Nat->Nat->Prop)(v u:Value):Prop:= ∀σ τ:Ren,(∀n n',R n n'-> ∀x,σ n=some x->τ n'=some x)-> ∀v',VR σ v v'->VR τ u v'
def UpO(R:Nat->Nat->Prop)(o o':AO):Prop:=(∀σ τ:Ren,(∀n n',R n n'-> ∀x,σ n=some x->τ n'=some x)-> ∀w x,OR σ w x o->OR τ w x o')/\(o'.rw=true->o.rw=true)/\(o'.live=true->o.live=true)
theorem Up.junk{R:Nat->Nat->Prop}{v:Value}:Up R v undef:=fun _ _ _ _ _=> .junk _
theorem Up.plain{R:Nat->Nat->Prop}{v:Value}(h:Ev.plain v=true):Up R v v:=fun σ _ _ v' hv=>(Bel.plain (k:=0) h σ v' hv).mono fun n x hx=>by rw[bG]at hx;omega
theorem Up.ptr{R:Nat->Nat->Prop}{n n' i:Nat}(h:R n n'):Up R (.pointer (some ⟨n,i,none⟩)) (.pointer (some ⟨n',i,none⟩)):=by
 intro σ τ hs v' hv
 cases hv with
 |ptr hn=>exact .ptr (hs _ _ h _ hn)
theorem Up.sl{R:Nat->Nat->Prop}{n n' i l c:Nat}(h:R n n'):Up R (.slice (some ⟨n,i,none⟩) l c) (.slice (some ⟨n',i,none⟩) l c):=by
 intro σ τ hs v' hv
 cases hv with
 |sl hn hc=>exact .sl (hs _ _ h _ hn) hc
theorem Up.slNil{R:Nat->Nat->Prop}:Up R (.slice none 0 0) (.slice none 0 0):=by
 intro σ τ hs v' hv
 cases hv;exact .slNil
theorem UpO.dead{R:Nat->Nat->Prop}{o:AO}:UpO R o .dead:=⟨fun _ _ _ _ _ _=>trivial,(fun h=>by cases h),(fun h=>by cases h)⟩
theorem UpO.cells{R:Nat->Nat->Prop}{c c':List Value}{e:TypeId}(hl:c'.length=c.length)(h: ∀(i:Nat) (v u:Value),c[i]? =some v->c'[i]? =some u->Up R v u):UpO R (.cells c e) (.cells c' e):=by
 refine⟨fun σ τ hs w x ho=> ?_,fun _=>rfl,fun _=>rfl⟩
 obtain⟨h1,cs,h2,h3,h4,h5⟩:=ho
 refine⟨h1,cs,h2,by omega,h4,fun i u v' hu hv'=> ?_⟩
 have hi:i<c.length:=by have:=(Ey.1 hu).1;omega
 exact h i c[i] u (Ex hi) hu σ τ hs v' (h5 i _ v' (Ex hi) hv')
structure View(H:AH)(ι:List Nat)(S:AH):Prop where
 len:S.length=ι.length
 nd:ι.Nodup
 lt: ∀n∈ι,n<H.length
 obj: ∀j n,ι[j]? =some n->at_ S j= .dead\/UpO (fun n n'=>ι[n']? =some n) (at_ H n) (at_ S j)
def RUp(H:AH)(ι:List Nat)(n n':Nat):Prop:=ι[n]? =some n'\/(ι.length<=n/\n'=H.length+(n-ι.length))
structure Back(H:AH)(ι:List Nat)(S S2 H3:AH):Prop where
 len:H3.length=H.length+(S2.length-ι.length)
 old: ∀n,n<H.length->(∀j,ι[j]? =some n->at_ S j= .dead)->at_ H3 n=at_ H n
 upd: ∀j n,ι[j]? =some n->at_ S j≠ .dead->UpO (RUp H ι) (at_ S2 j) (at_ H3 n)
 new: ∀j,ι.length<=j->j<S2.length->UpO (RUp H ι) (at_ S2 j) (at_ H3 (H.length+(j-ι.length)))
theorem nd_inj{ι:List Nat}(h:ι.Nodup){i j n:Nat}(hi:ι[i]? =some n)(hj:ι[j]? =some n):i=j:=by
 have h1:=(Ey.1 hi).1
 exact(Hq h1 h).1 (by rw[hi,hj])
def oC(σ:Ren)(ι:List Nat):Ren:=fun j=>match ι[j]? with|some n=>σ n|none=>none
theorem cV{σ:Ren}{ι:List Nat}{j:Nat}{x:Loc}:oC σ ι j=some x↔ ∃n,ι[j]? =some n/\σ n=some x:=by
 unfold oC
 cases h:ι[j]? with
 |none=>simp
 |some n=>simp
theorem View.hr{σ:Ren}{H:AH}{w:World}{ι:List Nat}{S:AH}(h:View H ι S)(hr:HR σ H w):HR (oC σ ι) S w:=by
 have hsub: ∀n n',ι[n']? =some n-> ∀x,σ n=some x->oC σ ι n'=some x:=fun n n' hn x hx=>cV.2 ⟨n,hn,hx⟩
 refine⟨fun j x hx=> ?_,fun j x hx=> ?_,fun j k x y hx hy hne hrw hlv=> ?_⟩
 ·obtain⟨n,hn,hx⟩:=cV.1 hx
  exact⟨by rw[h.len];exact(Ey.1 hn).1,(hr.dom n x hx).2⟩
 ·obtain⟨n,hn,hx⟩:=cV.1 hx
  rcases h.obj j n hn with e|e
  ·rw[e];trivial
  ·exact e.1 σ _ hsub w x (hr.obj n x hx)
 ·obtain⟨n,hn,hx⟩:=cV.1 hx
  obtain⟨m,hm,hy⟩:=cV.1 hy
  refine hr.inj n m x y hx hy (fun e=>hne (nd_inj h.nd hn (by rw[hm,e]))) ?_ ?_
  ·rcases h.obj j n hn with e|e
   ·rw[e]at hrw;cases hrw
   ·exact e.2.1 hrw
  ·rcases h.obj k m hm with e|e
   ·rw[e]at hlv;cases hlv
   ·exact e.2.2 hlv
theorem View.rw{H:AH}{ι:List Nat}{S:AH}(h:View H ι S){j n:Nat}(hn:ι[j]? =some n)(hr:(at_ S j).rw=true):(at_ H n).rw=true:=by
 rcases h.obj j n hn with e|e
 ·rw[e]at hr;cases hr
 ·exact e.2.1 hr
theorem View.live{H:AH}{ι:List Nat}{S:AH}(h:View H ι S){j n:Nat}(hn:ι[j]? =some n)(hr:(at_ S j).live=true):(at_ H n).live=true:=by
 rcases h.obj j n hn with e|e
 ·rw[e]at hr;cases hr
 ·exact e.2.2 hr
def wide(σ σ2:Ren)(H:AH)(ι:List Nat):Ren:=fun n=>if n<H.length then σ n else σ2 (ι.length+(n-H.length))
theorem Cg{σ:Ren}{H:AH}{w:World}{ι:List Nat}{S:AH}(h:View H ι S)(hr:HR σ H w){σ2:Ren}{S2:AH}{w2:World}(hr2:HR σ2 S2 w2)(ex:Ext (oC σ ι) S w σ2 S2 w2){H3:AH}(hb:Back H ι S S2 H3):
 (∀n n',RUp H ι n n'-> ∀x,σ2 n=some x->wide σ σ2 H ι n'=some x)/\HR (wide σ σ2 H ι) H3 w2/\Ext σ H w (wide σ σ2 H ι) H3 w2:=by
 have hlen:ι.length<=S2.length:=by have:=ex.len;rw[h.len]at this;exact this
 have hstand: ∀j n x,ι[j]? =some n->σ2 j=some x->σ n=some x:=by
  intro j n x hn hx
  have hj:=(Ey.1 hn).1
  rcases ex.new j x hx with e|⟨_,e⟩
  ·obtain⟨n',hn',hx'⟩:=cV.1 e
   rw[hn]at hn';cases hn';exact hx'
  ·rw[h.len]at e;omega
 have hup: ∀n n',RUp H ι n n'-> ∀x,σ2 n=some x->wide σ σ2 H ι n'=some x:=by
  rintro n n' (hn|⟨hn,rfl⟩) x hx
  ·unfold wide
   rw[if_pos (h.lt n' (EE hn))]
   exact hstand n n' x hn hx
  ·unfold wide
   rw[if_neg (by omega),show ι.length+(H.length+(n-ι.length) -H.length)=n by omega];exact hx
 have hsub: ∀n x,σ n=some x->wide σ σ2 H ι n=some x:=fun n x hx=>by unfold wide;rw[if_pos (hr.dom n x hx).1];exact hx
 have hcase: ∀n x,wide σ σ2 H ι n=some x->(n<H.length/\σ n=some x/\at_ H3 n=at_ H n/\(∀j,ι[j]? =some n->at_ S j= .dead))\/(∃j,σ2 j=some x/\UpO (RUp H ι) (at_ S2 j) (at_ H3 n)/\RUp H ι j n/\(ι[j]? =some n->at_ S j≠ .dead)):=by
  intro n x hx
  by_cases hn:n<H.length
  ·unfold wide at hx
   rw[if_pos hn]at hx
   by_cases hd: ∀j,ι[j]? =some n->at_ S j= .dead
   ·exact .inl ⟨hn,hx,hb.old n hn hd,hd⟩
   ·simp only[Classical.not_forall]at hd
    obtain⟨j,hj,hd⟩:=hd
    exact .inr ⟨j,ex.sub j x (cV.2 ⟨n,hj,hx⟩),hb.upd j n hj hd,.inl hj,fun _=>hd⟩
  ·have hx':=hx
   unfold wide at hx
   rw[if_neg hn]at hx
   have hd:=(hr2.dom _ x hx).1
   refine .inr ⟨_,hx,?_,.inr ⟨by omega,by omega⟩,fun e=> ?_⟩
   ·have:=hb.new (ι.length+(n-H.length)) (by omega) hd
    rw[show H.length+(ι.length+(n-H.length) -ι.length)=n by omega]at this
    exact this
   ·have:=(Ey.1 e).1;omega
 have hne: ∀n x,n<H.length->σ n=some x->(∀j,ι[j]? =some n->at_ S j= .dead)->(at_ H n).live=true-> ∀j y,oC σ ι j=some y->(at_ S j).rw=true->y.1≠x.1:=by
  intro n x hn hx hd hl j y hy hrw
  obtain⟨m,hm,hy⟩:=cV.1 hy
  refine hr.inj m n y x hy hx (fun e=> ?_) (h.rw hm hrw) hl
  subst e
  rw[hd j hm]at hrw;cases hrw
 have hne2: ∀n x,n<H.length->σ n=some x->(∀j,ι[j]? =some n->at_ S j= .dead)->(at_ H n).rw=true-> ∀j y,oC σ ι j=some y->(at_ S j).live=true->x.1≠y.1:=by
  intro n x hn hx hd hl j y hy hrw
  obtain⟨m,hm,hy⟩:=cV.1 hy
  refine hr.inj n m x y hx hy (fun e=> ?_) hl (h.live hm hrw)
  subst e
  rw[hd j hm]at hrw;cases hrw
 refine⟨hup,⟨fun n x hx=> ?_,fun n x hx=> ?_,fun n m x y hx hy hnm hrw hlv=> ?_⟩,⟨hsub,fun n x hx=> ?_,by rw[hb.len];omega,ex.size,ex.os,ex.tape,ex.output,fun b hbl hfr=> ?_,fun n x hx hrw hlt=> ?_,fun n x hx hlv hlt=> ?_⟩⟩
 ·rcases hcase n x hx with ⟨h1,h2,_⟩|⟨j,h1,_,h3,_⟩
  ·exact⟨by rw[hb.len];omega,EV (hr.dom n x h2).2 ex.size⟩
  ·have hd:=hr2.dom j x h1
   refine⟨?_,hd.2⟩
   rw[hb.len]
   rcases h3 with h3|⟨h3,rfl⟩
   ·have:=h.lt n (EE h3);omega
   ·omega
 ·rcases hcase n x hx with ⟨h1,h2,h3,h4⟩|⟨j,h1,h2,_,_⟩
  ·rw[h3]
   cases hl:(at_ H n).live with
   |false=>
    cases ha:at_ H n with
    |dead=>trivial
    |_=>rw[ha]at hl;cases hl
   |true=>
    refine(hr.obj n x h2).keep hsub (ex.frame x.1 (hr.dom n x h2).2 fun j y hy hrw=>hne n x h1 h2 h4 hl j y hy hrw)
  ·exact h2.1 σ2 _ hup w2 x (hr2.obj j x h1)
 ·rcases hcase n x hx with ⟨h1,h2,h3,h4⟩|⟨j,h1,h2,h3,_⟩
  ·rcases hcase m y hy with ⟨k1,k2,k3,k4⟩|⟨i,k1,k2,k3,_⟩
   ·rw[h3]at hrw;rw[k3]at hlv
    exact hr.inj n m x y h2 k2 hnm hrw hlv
   ·rw[h3]at hrw
    replace hlv:=k2.2.2 hlv
    by_cases hlt:y.1<w.heap.size
    ·obtain⟨q,z,q1,q2,q3⟩:=ex.lvm i y k1 hlv hlt
     rw[<-q3]
     exact hne2 n x h1 h2 h4 hrw q z q1 q2
    ·have:=(hr.dom n x h2).2;omega
  ·replace hrw:=h2.2.1 hrw
   rcases hcase m y hy with ⟨k1,k2,k3,k4⟩|⟨i,k1,k2,k3,_⟩
   ·rw[k3]at hlv
    by_cases hlt:x.1<w.heap.size
    ·obtain⟨q,z,q1,q2,q3⟩:=ex.rwm j x h1 hrw hlt
     rw[<-q3]
     exact hne m y k1 k2 k4 hlv q z q1 q2
    ·have:=(hr.dom m y k2).2;omega
   ·replace hlv:=k2.2.2 hlv
    refine hr2.inj j i x y h1 k1 (fun e=>hnm ?_) hrw hlv
    subst e
    rcases h3 with h3|⟨h3,rfl⟩
    ·rcases k3 with k3|⟨k3,_⟩
     ·rw[h3]at k3;cases k3;rfl
     ·have:=(Ey.1 h3).1;omega
    ·rcases k3 with k3|⟨_,rfl⟩
     ·have:=(Ey.1 k3).1;omega
     ·rfl
 ·by_cases hn:n<H.length
  ·left;unfold wide at hx;rw[if_pos hn]at hx;exact hx
  ·right
   refine⟨?_,by omega⟩
   cases hs:σ n with
   |none=>rfl
   |some y=>exact absurd (hr.dom n y hs).1 hn
 ·refine ex.frame b hbl fun j y hy hrw=> ?_
  obtain⟨n,hn,hy⟩:=cV.1 hy
  exact hfr n y hy (h.rw hn hrw)
 ·rcases hcase n x hx with ⟨h1,h2,h3,h4⟩|⟨j,h1,h2,h3,_⟩
  ·rw[h3]at hrw;exact⟨n,x,h2,hrw,rfl⟩
  ·replace hrw:=h2.2.1 hrw
   obtain⟨q,z,q1,q2,q3⟩:=ex.rwm j x h1 hrw hlt
   obtain⟨m,hm,hz⟩:=cV.1 q1
   exact⟨m,z,hz,h.rw hm q2,q3⟩
 ·rcases hcase n x hx with ⟨h1,h2,h3,h4⟩|⟨j,h1,h2,h3,_⟩
  ·rw[h3]at hlv;exact⟨n,x,h2,hlv,rfl⟩
  ·replace hlv:=h2.2.2 hlv
   obtain⟨q,z,q1,q2,q3⟩:=ex.lvm j x h1 hlv hlt
   obtain⟨m,hm,hz⟩:=cV.1 q1
   exact⟨m,z,hz,h.live hm q2,q3⟩
theorem W.view{K:Cx}{c:Code}{Q Qs:AX->Env->AH->Prop}{a a1:Env}{H:AH}{ι:List Nat}{S:AH}(h:View H ι S)(ha: ∀t,Up (fun n n'=>ι[n']? =some n) (ae a t) (ae a1 t))(run: ∀K':Cx,K'.P=K.P->K'.n=K.n->W K' c Qs a1 S)(hq: ∀x a2 S2,Qs x a2 S2->(∀v,x≠ .panic v)/\ ∃a3 H3,Back H ι S S2 H3/\(∀t,Up (RUp H ι) (ae a2 t) (ae a3 t))/\Q x a3 H3):W K c Q a H:=by
 intro σ act w hi
 have hsub: ∀n n',ι[n']? =some n-> ∀x,σ n=some x->oC σ ι n'=some x:=fun n n' hn x hx=>cV.2 ⟨n,hn,hx⟩
 refine wp_mono (run ⟨K.P,K.n,K.D,oC σ ι,S,w⟩ rfl rfl (oC σ ι) act w ⟨h.hr hi.hr,⟨hi.ar.len,fun t=>ha t σ _ hsub _ (hi.ar.get t)⟩,hi.df,Ext.refl _ _ _⟩) fun e act' w' hp=> ?_
 obtain⟨x,a2,S2,σ2,q,hx,hi2⟩:=hp
 obtain⟨hnp,a3,H3,hb,hu,hQ⟩:=hq x a2 S2 q
 obtain⟨b1,b2,b3⟩:=Cg h hi.hr hi2.hr hi2.ex hb
 refine⟨x,a3,H3,wide σ σ2 H ι,hQ,?_,b2,⟨hi2.ar.len,fun t=>hu t σ2 _ b1 _ (hi2.ar.get t)⟩,hi2.df,hi.ex.trans b3⟩
 cases x with
 |panic v=>exact absurd rfl (hnp v)
 |normal=>cases e<;>exact hx
 |exit i=>cases e<;>exact hx
 |ret=>cases e<;>exact hx
end Go.Ev
