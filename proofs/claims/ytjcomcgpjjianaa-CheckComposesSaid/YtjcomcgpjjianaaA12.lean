import Derived.Test.YtjcomcgpjjianaaA9
set_option linter.all false
set_option maxHeartbeats 16000000
set_option maxRecDepth 8000
open Go.Value renaming int→O
open Go.IntKind renaming i64→U
namespace Go.Ev
def fen:Option Nat->Fence
 |none=>Fence.wide
 |some l=>Fence.wide.inRound l
theorem uF(rd:Option Nat):(fen rd).fn=fun _=>True:=by cases rd<;>rfl
theorem wD(rd:Option Nat):(fen rd).depth=none:=by cases rd<;>rfl
theorem za(rd:Option Nat){n:Nat}{P:Program}{f:FuncId}{args:Array Value}{w:World}{R:Ending->World->Prop}(h:Calls P f args w R):CallsIn (fen rd) n P f args w R:=by
 cases rd with
 |none=>exact callsIn_wide.2 h
 |some l=>exact CallsIn.inRound l (callsIn_wide.2 h)
theorem Bz(rd:Option Nat){n:Nat}{P:Program}{row:String}{args:Array Value}{w:World}{R:Value->World->Prop}(h:Rows P row args w R):RowsIn (fen rd) n P row args w R:=by
 intro c cs _
 obtain⟨v,w',h1,h2⟩:=h c cs
 cases rd with
 |none=>exact⟨v,w',h1,stepsIn_wide.2 h2⟩
 |some l=>exact⟨v,w',h1,stepsIn_wide.2 h2⟩
theorem um(rd:Option Nat){P:Program}{o:Oper}{a:Act}{w:World}{K:Act->World->Prop}{Q:Exit->Act->World->Prop}(hd: ∀c,o.op≠ .defer c)(h:o.wp P a w K Q):o.wpIn (fen rd) 0 P a w K Q:=by
 refine⟨fun f _=>by rw[uF];trivial,?_⟩
 rw[Oper.semAt_eq _ _ _ hd]
 unfold Oper.wp at h
 generalize (execOp a.eval o).run P w=r at h
 have hn:(fen rd).depth.isSome=true->1<=0:=by rw[wD];intro h;cases h
 cases r with
 |ok x w'=>
  cases x<;>simp only[Oper.upon]at h<;>simp only[Oper.uponIn]
  all_goals first|exact h|exact h.elim|exact⟨hn,za rd h⟩|exact⟨hn,Bz rd h⟩
 |halt x w'=>cases x<;>simp only[Oper.upon]at h<;>simp only[Oper.uponIn]<;>first|exact h|exact h.elim
def V(rd:Option Nat)(K:Cx)(c:Code)(Q:AX->Env->AH->Prop)(a:Env)(H:AH):Prop:= ∀σ act w,In K a H σ act w->c.wpIn (fen rd) 0 K.P (qR K Q) act w
def L(rd:Option Nat)(K:Cx)(ops:Array Oper)(rest:List Oper)(Q:AX->Env->AH->Prop)(a:Env)(H:AH):Prop:= ∀σ act w,In K a H σ act w->wpListIn (fen rd) 0 K.P ops (qR K Q) rest act w
theorem yJ{K:Cx}{Q:AX->Env->AH->Prop}: ¬LetsOut (qR K Q):=by
 rintro⟨a,w,x,a',H,σ,_,hx,_⟩
 cases x<;>exact hx
section
variable {rd:Option Nat}{K:Cx}{Q:AX->Env->AH->Prop}{a:Env}{H:AH}
theorem V.toW{c:Code}(h:V none K c Q a H):W K c Q a H:=fun σ act w hi=>wpIn_wide.1 (h σ act w hi)
theorem V.mono{c:Code}{Q':AX->Env->AH->Prop}(h:V rd K c Q a H)(hq: ∀x a H,Q x a H->Q' x a H):V rd K c Q' a H:=fun σ act w hi=>wpIn_mono (h σ act w hi) fun _ _ _ ⟨x,a,H,σ',q,rest⟩=>⟨x,a,H,σ',hq _ _ _ q,rest⟩
theorem V.less{c:Code}{a':Env}(hl: ∀t,ae a' t=undef\/ae a' t=ae a t)(h:V rd K c Q a' H):V rd K c Q a H:=fun σ act w hi=>h σ act w ⟨hi.hr,hi.ar.less hl,hi.df,hi.ex⟩
theorem V.skip(h:Q .normal a H):V rd K .skip Q a H:=fun σ _ _ hi=>wpIn_skip ⟨.normal,a,H,σ,h,trivial,hi⟩
theorem V.ret(h:Q .ret a H):V rd K .ret Q a H:=fun σ _ _ hi=>wpIn_ret ⟨.ret,a,H,σ,h,trivial,hi⟩
theorem V.exit{id:Nat}(h:Q (.exit id) a H):V rd K (.exit id) Q a H:=fun σ _ _ hi=>wpIn_exit ⟨.exit id,a,H,σ,h,rfl,hi⟩
theorem V.seq{x y:Code}(h:V rd K x (AX.then (V rd K y Q) Q) a H):V rd K (.seq x y) Q a H:=by
 intro σ act w hi
 refine wpIn_seq (wpIn_mono (h σ act w hi) fun e act' w' hp=> ?_)
 obtain⟨x,a',H',σ',q,hx,hi'⟩:=hp
 cases x<;>cases e<;>first|exact hx.elim|skip
 ·exact q σ' act' w' hi'
 ·exact⟨_,a',H',σ',q,hx,hi'⟩
 ·exact⟨_,a',H',σ',q,hx,hi'⟩
 ·exact⟨_,a',H',σ',q,hx,hi'⟩
theorem V.cond{c:Operand}{x y:Code}{t:Bool}(hc:bq a c= .bool t)(h:V rd K (if t=true then x else y) Q a H):V rd K (.cond c x y) Q a H:=by
 intro σ act w hi
 have hv:=hi.ar.eval c
 rw[hc]at hv
 generalize hx:act.eval c=v at hv
 cases hv
 exact wpIn_cond hx (h σ act w hi)
theorem V.block{id:Nat}{c:Code}(h:V rd K c (AX.inBlock id Q) a H):V rd K (.block id c) Q a H:=by
 intro σ act w hi
 refine wpIn_block (wpIn_mono (h σ act w hi) fun e act' w' hp=> ?_)
 obtain⟨x,a',H',σ',q,hx,hi'⟩:=hp
 cases x<;>cases e<;>first|exact hx.elim|skip
 ·exact⟨_,a',H',σ',q,hx,hi'⟩
 ·rename_i i j
  have hx:i=j:=hx
  subst hx
  simp only[AX.inBlock]at q
  simp only[Exit.inBlock]
  split
  ·rename_i e;rw[if_pos e]at q;exact⟨_,a',H',σ',q,trivial,hi'⟩
  ·rename_i e;rw[if_neg e]at q;exact⟨_,a',H',σ',q,rfl,hi'⟩
 ·exact⟨_,a',H',σ',q,hx,hi'⟩
 ·exact⟨_,a',H',σ',q,hx,hi'⟩
theorem V.loop{c:Code}(I:Nat->Env->AH->Prop)(n:Nat)(h₀:I n a H)(round: ∀n a H,I n a H->V rd K c (AX.then (fun a' H'=> ∃m,m<n/\I m a' H') Q) a H):V rd K (.loop c) Q a H:=by
 intro σ act w hi
 classical
 let J:Act->World->Prop:=fun act w=> ∃n a H σ,I n a H/\In K a H σ act w
 have hμ: ∀act w,J act w-> ∃n,(∃a H σ,I n a H/\In K a H σ act w)/\ ∀m,m<n-> ¬ ∃a H σ,I m a H/\In K a H σ act w:=by
  intro act w hj
  obtain⟨n,hn⟩:=hj
  induction n using Nat.strongRecOn with
  |_ n ih=>
   by_cases hx: ∃m,m<n/\ ∃a H σ,I m a H/\In K a H σ act w
   ·obtain⟨m,hm,hh⟩:=hx;exact ih m hm hh
   ·exact⟨n,hn,fun m hm hh=>hx ⟨m,hm,hh⟩⟩
 let μ:Act->World->Nat:=fun act w=>if hj:J act w then Classical.choose (hμ act w hj)else 0
 refine wpIn_loop J μ ⟨n,a,H,σ,h₀,hi⟩ fun act w hj=> ?_
 have hs:=Fm (hμ act w hj)
 have hμe:μ act w=Classical.choose (hμ act w hj):=dif_pos hj
 rw[<-hμe]at hs
 obtain⟨⟨a1,H1,σ1,hI,hin⟩,_⟩:=hs
 refine wpIn_mono (round _ a1 H1 hI σ1 act w hin) fun e act' w' hp=> ?_
 obtain⟨x,a',H',σ',q,hx,hi'⟩:=hp
 cases x<;>cases e<;>first|exact hx.elim|skip
 ·obtain⟨m,hm,hI'⟩:=q
  have hj':J act' w':=⟨m,a',H',σ',hI',hi'⟩
  refine⟨hj',?_⟩
  have hs':=Fm (hμ act' w' hj')
  have hμe':μ act' w'=Classical.choose (hμ act' w' hj'):=dif_pos hj'
  rw[<-hμe']at hs'
  have: ¬m<μ act' w':=fun hlt=>hs'.2 m hlt ⟨a',H',σ',hI',hi'⟩
  show μ act' w'<μ act w
  omega
 ·exact⟨_,a',H',σ',q,hx,hi'⟩
 ·exact⟨_,a',H',σ',q,hx,hi'⟩
 ·exact⟨_,a',H',σ',q,hx,hi'⟩
theorem V.region{id:Nat}{ops:Array Oper}(h:L rd K ops ops.toList Q a H):V rd K (.region id ops false) Q a H:=fun σ act w hi=>wpIn_region_list (h σ act w hi)
theorem L.nil{ops:Array Oper}(h:Q .normal a H):L rd K ops [] Q a H:=fun σ _ _ hi=>wpListIn_nil ⟨.normal,a,H,σ,h,trivial,hi⟩
theorem qs{P:Program}{C:Orc}{ρ:Operand->Value}{op:Op}{r:OpR}(h:cH P C H ρ op=some r): ∀c,op≠ .defer c:=by
 intro c e;subst e;cases h
theorem L.op{ops:Array Oper}{rest:List Oper}{o:Oper}{v:Value}{H':AH}(hw:aJ ops a o=some true)(hs:bO K.P a H o.op (.val v H'))(h:L rd K ops rest Q (aB K.n a o.dst v) H'):L rd K ops (o::rest) Q a H:=by
 intro σ act w hi
 obtain⟨C,hC,he⟩:=hs
 refine wpListIn_step fun k hk=> ?_
 rw[if_pos (cu hi.ar hw)]
 refine um rd (qs he) (iJ hC hi.hr hi.ar he k _ ?_)
 intro v' w' σ' hv hr' hx'
 exact hk _ _ (h σ' _ w' ⟨hr',(hi.ar.mono hx'.sub).put o.dst hv,by rw[dq];exact hi.df,hi.ex.trans hx'⟩)
theorem L.pan{ops:Array Oper}{rest:List Oper}{o:Oper}{v:Value}{H':AH}(hw:aJ ops a o=some true)(hs:bO K.P a H o.op (.pan v H'))(h:Q (.panic v) a H'):L rd K ops (o::rest) Q a H:=by
 intro σ act w hi
 obtain⟨C,hC,he⟩:=hs
 refine wpListIn_step fun k hk=> ?_
 rw[if_pos (cu hi.ar hw)]
 refine um rd (qs he) (iJ hC hi.hr hi.ar he k _ ?_)
 intro v' w' σ' hv hr' hx'
 exact⟨.panic v,a,H',σ',h,⟨v',rfl,hv⟩,hr',hi.ar.mono hx'.sub,hi.df,hi.ex.trans hx'⟩
theorem L.past{ops:Array Oper}{rest:List Oper}{o:Oper}(hw:aJ ops a o=some false)(h:L rd K ops rest Q (aB K.n a o.dst gone) H):L rd K ops (o::rest) Q a H:=by
 intro σ act w hi
 refine wpListIn_step fun k hk=> ?_
 rw[if_neg (by rw[cu hi.ar hw];simp)]
 exact⟨fun f _=>by rw[uF];trivial,hk _ _ (h σ _ w ⟨hi.hr,hi.ar.put o.dst .gone,by rw[dq];exact hi.df,hi.ex⟩)⟩
theorem L.less{ops:Array Oper}{rest:List Oper}{a':Env}(hl: ∀t,ae a' t=undef\/ae a' t=ae a t)(h:L rd K ops rest Q a' H):L rd K ops rest Q a H:=fun σ act w hi=>h σ act w ⟨hi.hr,hi.ar.less hl,hi.df,hi.ex⟩
end
theorem nL(rd:Option Nat){P:Program}{ops:Array Oper}{Q:Exit->Act->World->Prop}(hd: ∀(i:Nat) (o:Oper),ops[i]? =some o-> ∀c,o.op≠ .defer c)(hq: ¬LetsOut Q): ∀(fuel:Nat) (l:Array Bool) (a:Act) (w:World),wpAny P .any ops Q fuel l a w->wpAnyIn (fen rd) 0 P .any ops Q fuel l a w
 | 0,_,_,_,h=>h
 |fuel+1,l,a,w,h=>by
  refine⟨h.1,fun i hi=> ?_⟩
  have h2:=h.2 i hi
  unfold wpOp at h2
  unfold wpOpIn
  cases ho:ops[i]? with
  |none=>rw[ho]at h2;exact nL rd hd hq fuel _ _ _ h2
  |some o=>
   rw[ho]at h2
   simp only at h2⊢
   by_cases hw:Region.wanted o (yielded ops a.tmps)=true
   ·rw[if_pos hw]at h2⊢
    rcases h2 with h2|h2
    ·exact um rd (hd i o ho) (Oper.wp_mono (fun a w=>nL rd hd hq fuel _ a w) h2)
    ·exact absurd h2.2 hq
   ·rw[if_neg hw]at h2⊢
    exact⟨fun f _=>by rw[uF];trivial,nL rd hd hq fuel _ _ _ h2⟩
theorem V.ofWa{rd:Option Nat}{K:Cx}{ops:List Oper}{Q:AX->Env->AH->Prop}{a:Env}{H:AH}{id:Nat}(hm:K.P.follows .mixedOrders=true)(hd:(ops.all fun o=>match o.op with| .defer _=>false|_=>true)=true)(h:Wa K ops Q a H):
 V rd K (.region id ops.toArray true) Q a H:=by
 intro σ act w hi
 refine wpIn_region_any hm (nL rd (fun i o ho c hc=> ?_) yJ _ _ _ _ (h σ act w hi))
 rw[EX]at ho
 have:=EI.1 hd o (EE ho)
 rw[hc]at this
 cases this
def pEnv(m:Nat):Env->List (Tmp×Value)->Env
 |e,[]=>e
 |e,(t,v)::l=>pEnv m (aB m e (some t) v) l
theorem BN{σ:Ren}{m:Nat}: ∀(ps:List Tmp) (args args':List Value) (env:Env) (tm:Array Value),Rs σ args args'->AR σ m env {tmps:=tm,defers:=[]}->AR σ m (pEnv m env (ps.zip args)) {tmps:=(ps.zip args').foldl (fun tmps (t,a)=>tmps.setIfInBounds t a) tm,defers:=[]}
 | [],_,_,_,_,_,h=>h
 |_::_,[],[],_,_,_,h=>h
 |p::ps,v::args,v'::args',env,tm,hr,h=>by
  have h0:VR σ v v':=hr.2 0 v v' rfl rfl
  have ht:Rs σ args args':=⟨by simpa using hr.1,fun i u u' a b=>hr.2 (i+1) u u' (by simpa using a) (by simpa using b)⟩
  simp only[List.zip_cons_cons,pEnv,List.foldl_cons]
  exact BN ps args args' _ _ ht (h.put (some p) h0)
 |_::_,[],_::_,_,_,hr,_=>absurd hr.1 (by simp)
 |_::_,_::_,[],_,_,hr,_=>absurd hr.1 (by simp)
theorem uY{σ:Ren}{H:AH}{w:World}(hr:HR σ H w){n b s:Nat}(hn:σ n=some (b,0,s)){st:LoopState}{pend:Option Code}{ps:Array Tmp}{assign body:Code}{m:Nat}{env:Env}(ha:at_ H n= .loop st pend ps assign body m env):
 ∃L:Loop,w.heap[b]? =some (.loop L)/\L.state=st/\L.pending=pend/\L.params=ps/\L.assign=assign/\L.body=body/\L.tmps.size=m/\(∀t,VR σ (ae env t) (L.tmps.getD t undef))/\ ∀(st':LoopState) (pend':Option Code),HR σ (H.set n (.loop st' pend' ps assign body m env)) (w.putObj b (.loop {L with state:=st',pending:=pend'}))/\Ext σ H w σ (H.set n (.loop st' pend' ps assign body m env)) (w.putObj b (.loop {L with state:=st',pending:=pend'})):=by
 have ho:=hr.obj n _ hn
 rw[ha]at ho
 obtain⟨_,L,h1,h2,h3,h4,h5,h6,h7,h8⟩:=ho
 have hb:b<w.heap.size:=(hr.dom n _ hn).2
 refine⟨L,h1,h2,h3,h4,h5,h6,h7,h8,fun st' pend'=> ?_⟩
 refine hr.update (x:=(b,0,s)) hn (by rw[ha];rfl) _ Ho rfl rfl rfl (fun c hc=>GB hc) ?_
 exact⟨rfl,_,World.putObj_heap_same hb,rfl,rfl,h4,h5,h6,h7,h8⟩
theorem L.yield{K:Cx}{Q:AX->Env->AH->Prop}{a:Env}{H:AH}{ops:Array Oper}{rest:List Oper}{o:Oper}{c:Call}{f:Operand}{nl:Nat}{pend:Option Code}{ps:Array Tmp}{assign body:Code}{m:Nat}{env:Env}(hw:aJ ops a o=some true)(ho:o.op= .call c)(hc:c.callee= .value f)(hf:bq a f= .chan (some nl))(hH:at_ H nl= .loop .ready pend ps assign body m env)(hsz:c.args.size=ps.size)(round: ∀σ w b s,HR σ H w->σ nl=some (b,0,s)->V (some b) ⟨K.P,m,[],σ,H,w⟩ assign (fun x a1 H1=>x= .normal/\at_ H1 nl= .loop .ready pend ps assign body m env/\V (some b) ⟨K.P,m,[],σ,H,w⟩ body (fun x a2 H2=>at_ H2 nl= .loop .busy pend ps assign body m env/\match x with
                                                                                                                                                                 | .normal=>L none K ops rest Q (aB K.n a o.dst (.bool true)) (H2.set nl (.loop .ready none ps assign body m env))
                                                                                                                                                                 | .exit i=>L none K ops rest Q (aB K.n a o.dst (.bool false)) (H2.set nl (.loop .done (some (.exit i)) ps assign body m env))
                                                                                                                                                                 | .ret=>L none K ops rest Q (aB K.n a o.dst (.bool false)) (H2.set nl (.loop .done (some .ret) ps assign body m env))
                                                                                                                                                                 | .panic _=>False) a1 (H1.set nl (.loop .busy pend ps assign body m env))) (pEnv m env (ps.toList.zip (c.args.toList.map (bq a)))) H):
 L none K ops (o::rest) Q a H:=by
 intro σ act w hi
 have hv:=hi.ar.eval f
 rw[hf]at hv
 generalize hfv:act.eval f=fv at hv
 cases hv with
 |yield hσ=>
 rename_i b s
 obtain⟨L0,hL,q1,q2,q3,q4,q5,q6,q7,_⟩:=uY hi.hr hσ hH
 refine wpListIn_step fun k hk=> ?_
 rw[if_pos (cu hi.ar hw)]
 refine⟨fun f _=>by rw[uF];trivial,?_⟩
 rw[Oper.semAt_eq _ _ _ (by rw[ho];intro c h;cases h)]
 have hrun:(execOp act.eval o).run K.P w= .ok (.round b L0.fn ((L0.params.zip (c.args.map act.eval)).foldl (fun tmps (t,a)=>tmps.setIfInBounds t a) L0.tmps) L0.assign L0.body) w:=by
  rw[execOp,ho]
  simp only[resolve,hc,hfv,Deferred.ofValue,ED,Sem.run_pure,Result.andThen_ok,invoke]
  have:=run_yield (P:=K.P) (args:= #[]++c.args.map act.eval) hL (by simp[q3,hsz])
  simpa using this
 rw[hrun,Oper.uponIn_round]
 refine⟨(by rw[wD];intro h;cases h),?_⟩
 have hz:((L0.params.zip (c.args.map act.eval)).foldl (fun tmps (t,a)=>tmps.setIfInBounds t a) L0.tmps)=(ps.toList.zip (c.args.toList.map act.eval)).foldl (fun tmps (t,a)=>tmps.setIfInBounds t a) L0.tmps:=by
  rw[q3,<-GV,Array.toList_zip,Ht]
 rw[hz,q4,q5]
 have har:=BN (m:=m) ps.toList _ _ env L0.tmps (hi.ar.evalL c.args.toList) ⟨q6,q7⟩
 refine roundIn_of_wpIn (F:=fen none) (n:=0-1) (by rw[uF];trivial) ?_
 refine wpIn_mono (round σ w b s hi.hr hσ σ _ w ⟨hi.hr,har,rfl,Ext.refl _ _ _⟩) fun e a1 w1 hp=> ?_
 obtain⟨x1,e1,H1,σ1,⟨rfl,hn1,hbody⟩,hx1,hi1⟩:=hp
 cases e<;>first|exact hx1.elim|skip
 have hσ1:σ1 nl=some (b,0,s):=hi1.ex.sub _ _ hσ
 obtain⟨L1,hL1,r1,_,_,_,_,_,_,r8⟩:=uY hi1.hr hσ1 hn1
 obtain⟨g1,g2⟩:=r8 .busy pend
 have hpd:L1.pending=pend:=by assumption
 refine⟨_,run_beginRound hL1 r1,?_⟩
 have hpe:({L1 with state:= .busy,pending:=pend}:Loop)={L1 with state:= .busy}:=by rw[<-hpd]
 rw[hpe]at g1 g2
 refine wpIn_mono (hbody σ1 a1 _ ⟨g1,hi1.ar,hi1.df,hi1.ex.trans g2⟩) fun e a2 w2 hp=> ?_
 obtain⟨x2,e2,H2,σ2,⟨hn2,hq⟩,hx2,hi2⟩:=hp
 have hσ2:σ2 nl=some (b,0,s):=hi2.ex.sub _ _ hσ
 obtain⟨L2,hL2,t1,_,_,_,_,_,_,t8⟩:=uY hi2.hr hσ2 hn2
 have fin: ∀(st:LoopState) (jump:Option Code) (bv:Bool),L none K ops rest Q (aB K.n a o.dst (.bool bv)) (H2.set nl (.loop st jump ps assign body m env))->k (act.put o.dst (.bool bv)) (w2.putObj b (.loop {L2 with state:=st,pending:=jump})):=by
  intro st jump bv hl
  obtain⟨u1,u2⟩:=t8 st jump
  have hx:=hi2.ex.trans u2
  exact hk _ _ (hl σ2 _ _ ⟨u1,(hi.ar.mono hx.sub).put o.dst (.bool bv),by rw[dq];exact hi.df,hi.ex.trans hx⟩)
 cases x2<;>cases e<;>first|exact hx2.elim|skip
 ·exact⟨_,_,run_endRound none hL2,fin .ready none true hq⟩
 ·rename_i i j
  have:i=j:=hx2
  subst this
  exact⟨_,_,run_endRound (some (.exit i)) hL2,fin .done (some (.exit i)) false hq⟩
 ·exact⟨_,_,run_endRound (some .ret) hL2,fin .done (some .ret) false hq⟩
 ·exact hq.elim
end Go.Ev
namespace Go.Ev
open Go.RowKit
def mark(b:Nat):Deferred:={target:= .collected b,args:= #[]}
def MkOk(w0:Nat)(ms:List Nat)(σ:Ren)(H:AH)(w:World):Prop:= ∀b∈ms,w0<=b/\w.heap[b]? =some (.deferred (some []))/\ ∀n x,σ n=some x->(at_ H n).live=true->x.1≠b
theorem Ae{o:AO}(h:o.rw=true):o.live=true:=by cases o<;>first|rfl|cases h
theorem MkOk.ext{w0:Nat}{ms:List Nat}{σ σ':Ren}{H H':AH}{w w':World}(h:MkOk w0 ms σ H w)(x:Ext σ H w σ' H' w'):MkOk w0 ms σ' H' w':=by
 intro b hb
 obtain⟨h1,h2,h3⟩:=h b hb
 have hlt:b<w.heap.size:=(Fh.1 h2).1
 refine⟨h1,?_,fun n y hn hl e=> ?_⟩
 ·rw[x.frame b hlt fun n y hn hr=>h3 n y hn (Ae hr)];exact h2
 ·obtain⟨m,z,q1,q2,q3⟩:=x.lvm n y hn hl (by omega)
  exact h3 m z q1 q2 (by omega)
structure InM(K:Cx)(ms:List Nat)(a:Env)(H:AH)(σ:Ren)(act:Act)(w:World):Prop where
 st:In {K with D:=ms.map mark++K.D} a H σ act w
 ok:MkOk K.w.heap.size ms σ H w
 nd:ms.Nodup
def PostM(K:Cx)(Q:AX->Env->AH->Prop):Exit->Act->World->Prop:=fun e act w=> ∃ms x a H σ,Q x a H/\XR σ x e/\InM K ms a H σ act w
def M(K:Cx)(c:Code)(Q:AX->Env->AH->Prop)(a:Env)(H:AH):Prop:= ∀ms σ act w,InM K ms a H σ act w->c.wp K.P (PostM K Q) act w
section
variable {K:Cx}{Q:AX->Env->AH->Prop}{a:Env}{H:AH}
theorem M.lift{c:Code}(h: ∀D σ w,HR σ H w->W ⟨K.P,K.n,D,σ,H,w⟩ c Q a H):M K c Q a H:=by
 intro ms σ act w ⟨hi,hm,hnd⟩
 refine wp_mono (h act.defers σ w hi.hr σ act w ⟨hi.hr,hi.ar,rfl,Ext.refl _ _ _⟩) ?_
 rintro e act' w' ⟨x,a',H',σ',q,hx,hi'⟩
 exact⟨ms,x,a',H',σ',q,hx,⟨hi'.hr,hi'.ar,hi'.df.trans hi.df,hi.ex.trans hi'.ex⟩,hm.ext hi'.ex,hnd⟩
theorem M.mono{c:Code}{Q':AX->Env->AH->Prop}(h:M K c Q a H)(hq: ∀x a H,Q x a H->Q' x a H):M K c Q' a H:=fun ms σ act w hi=>wp_mono (h ms σ act w hi) fun _ _ _ ⟨ms',x,a,H,σ',q,rest⟩=>⟨ms',x,a,H,σ',hq _ _ _ q,rest⟩
theorem M.less{c:Code}{a':Env}(hl: ∀t,ae a' t=undef\/ae a' t=ae a t)(h:M K c Q a' H):M K c Q a H:=fun ms σ act w hi=>h ms σ act w ⟨⟨hi.st.hr,hi.st.ar.less hl,hi.st.df,hi.st.ex⟩,hi.ok,hi.nd⟩
theorem M.skip(h:Q .normal a H):M K .skip Q a H:=fun ms σ _ _ hi=>wp_skip ⟨ms,.normal,a,H,σ,h,trivial,hi⟩
theorem M.ret(h:Q .ret a H):M K .ret Q a H:=fun ms σ _ _ hi=>wp_ret ⟨ms,.ret,a,H,σ,h,trivial,hi⟩
theorem M.exit{id:Nat}(h:Q (.exit id) a H):M K (.exit id) Q a H:=fun ms σ _ _ hi=>wp_exit ⟨ms,.exit id,a,H,σ,h,rfl,hi⟩
theorem M.seq{x y:Code}(h:M K x (AX.then (M K y Q) Q) a H):M K (.seq x y) Q a H:=by
 intro ms σ act w hi
 refine wp_seq (wp_mono (h ms σ act w hi) fun e act' w' hp=> ?_)
 obtain⟨ms',x,a',H',σ',q,hx,hi'⟩:=hp
 cases x<;>cases e<;>first|exact hx.elim|skip
 ·exact q ms' σ' act' w' hi'
 ·exact⟨ms',_,a',H',σ',q,hx,hi'⟩
 ·exact⟨ms',_,a',H',σ',q,hx,hi'⟩
 ·exact⟨ms',_,a',H',σ',q,hx,hi'⟩
theorem M.cond{c:Operand}{x y:Code}{t:Bool}(hc:bq a c= .bool t)(h:M K (if t=true then x else y) Q a H):M K (.cond c x y) Q a H:=by
 intro ms σ act w hi
 have hv:=hi.st.ar.eval c
 rw[hc]at hv
 generalize hx:act.eval c=v at hv
 cases hv
 exact wp_cond hx (h ms σ act w hi)
theorem M.block{id:Nat}{c:Code}(h:M K c (AX.inBlock id Q) a H):M K (.block id c) Q a H:=by
 intro ms σ act w hi
 refine wp_block (wp_mono (h ms σ act w hi) fun e act' w' hp=> ?_)
 obtain⟨ms',x,a',H',σ',q,hx,hi'⟩:=hp
 cases x<;>cases e<;>first|exact hx.elim|skip
 ·exact⟨ms',_,a',H',σ',q,hx,hi'⟩
 ·rename_i i j
  have hx:i=j:=hx
  subst hx
  simp only[AX.inBlock]at q
  simp only[Exit.inBlock]
  split
  ·rename_i e;rw[if_pos e]at q;exact⟨ms',_,a',H',σ',q,trivial,hi'⟩
  ·rename_i e;rw[if_neg e]at q;exact⟨ms',_,a',H',σ',q,rfl,hi'⟩
 ·exact⟨ms',_,a',H',σ',q,hx,hi'⟩
 ·exact⟨ms',_,a',H',σ',q,hx,hi'⟩
theorem M.loop{c:Code}(I:Nat->Env->AH->Prop)(n:Nat)(h₀:I n a H)(round: ∀n a H,I n a H->M K c (AX.then (fun a' H'=> ∃m,m<n/\I m a' H') Q) a H):M K (.loop c) Q a H:=by
 intro ms σ act w hi
 classical
 let J:Act->World->Prop:=fun act w=> ∃n ms a H σ,I n a H/\InM K ms a H σ act w
 have hμ: ∀act w,J act w-> ∃n,(∃ms a H σ,I n a H/\InM K ms a H σ act w)/\ ∀m,m<n-> ¬ ∃ms a H σ,I m a H/\InM K ms a H σ act w:=by
  intro act w hj
  obtain⟨n,hn⟩:=hj
  induction n using Nat.strongRecOn with
  |_ n ih=>
   by_cases hx: ∃m,m<n/\ ∃ms a H σ,I m a H/\InM K ms a H σ act w
   ·obtain⟨m,hm,hh⟩:=hx;exact ih m hm hh
   ·exact⟨n,hn,fun m hm hh=>hx ⟨m,hm,hh⟩⟩
 let μ:Act->World->Nat:=fun act w=>if hj:J act w then Classical.choose (hμ act w hj)else 0
 refine wp_loop J μ ⟨n,ms,a,H,σ,h₀,hi⟩ fun act w hj=> ?_
 have hs:=Fm (hμ act w hj)
 have hμe:μ act w=Classical.choose (hμ act w hj):=dif_pos hj
 rw[<-hμe]at hs
 obtain⟨⟨ms1,a1,H1,σ1,hI,hin⟩,_⟩:=hs
 refine wp_mono (round _ a1 H1 hI ms1 σ1 act w hin) fun e act' w' hp=> ?_
 obtain⟨ms',x,a',H',σ',q,hx,hi'⟩:=hp
 cases x<;>cases e<;>first|exact hx.elim|skip
 ·obtain⟨m,hm,hI'⟩:=q
  have hj':J act' w':=⟨m,ms',a',H',σ',hI',hi'⟩
  refine⟨hj',?_⟩
  have hs':=Fm (hμ act' w' hj')
  have hμe':μ act' w'=Classical.choose (hμ act' w' hj'):=dif_pos hj'
  rw[<-hμe']at hs'
  have: ¬m<μ act' w':=fun hlt=>hs'.2 m hlt ⟨ms',a',H',σ',hI',hi'⟩
  show μ act' w'<μ act w
  omega
 ·exact⟨ms',_,a',H',σ',q,hx,hi'⟩
 ·exact⟨ms',_,a',H',σ',q,hx,hi'⟩
 ·exact⟨ms',_,a',H',σ',q,hx,hi'⟩
theorem HR.lay{σ:Ren}{H:AH}{w:World}(h:HR σ H w)(o:Obj):HR σ H (w.alloc o)/\Ext σ H w σ H (w.alloc o):=by
 have hk: ∀c,c<w.heap.size->(w.alloc o).heap[c]? =w.heap[c]? :=fun c hc=>GA w o c hc
 have hs:(w.alloc o).heap.size=w.heap.size+1:=by simp
 refine⟨⟨fun n x hn=> ?_,fun n x hn=> ?_,h.inj⟩,⟨fun _ _ h=>h,fun _ _ h=> .inl h,EJ _,by omega,rfl,rfl,rfl,fun b hb _=>hk b hb,fun n x hn hr _=>⟨n,x,hn,hr,rfl⟩,fun n x hn hr _=>⟨n,x,hn,hr,rfl⟩⟩⟩
 ·have:=h.dom n x hn;exact⟨this.1,by omega⟩
 ·exact(h.obj n x hn).keep (fun _ _ h=>h) (hk _ (h.dom n x hn).2)
theorem dark_ok{σ₀ σ:Ren}{H₀ H:AH}{w₀ w:World}(h:HR σ H w)(ex:Ext σ₀ H₀ w₀ σ H w){b:Nat}(o:Obj)(hb:w₀.heap.size<=b)(hn: ∀n x,σ n=some x->(at_ H n).live=true->x.1≠b):
 HR σ H (w.putObj b o)/\Ext σ₀ H₀ w₀ σ H (w.putObj b o):=by
 have hs:(w.putObj b o).heap.size=w.heap.size:=Ho
 have hk: ∀c,c≠b->(w.putObj b o).heap[c]? =w.heap[c]? :=fun c hc=>GB hc
 refine⟨⟨fun n x hx=> ?_,fun n x hx=> ?_,h.inj⟩,⟨ex.sub,ex.new,ex.len,by rw[hs];exact ex.size,ex.os,ex.tape,ex.output,fun c hc hx=> ?_,ex.rwm,ex.lvm⟩⟩
 ·have:=h.dom n x hx;exact⟨this.1,by omega⟩
 ·have ho:=h.obj n x hx
  have hl:=hn n x hx
  cases ha:at_ H n with
  |dead=>trivial
  |loop=>rw[ha]at ho hl;exact ho.keep (fun _ _ h=>h) (hk _ (hl rfl))
  |cells c e=>rw[ha]at ho hl;exact ho.keep (fun _ _ h=>h) (hk _ (hl rfl))
  |ro c=>rw[ha]at ho hl;exact ho.keep (fun _ _ h=>h) (hk _ (hl rfl))
  |map es=>rw[ha]at ho hl;exact ho.keep (fun _ _ h=>h) (hk _ (hl rfl))
 ·rw[hk c (by omega)]
  exact ex.frame c hc hx
def wi(Q:AX->Env->AH->Prop)(a:Env)(H:AH):Option Code->Prop
 |none=>Q .normal a H
 |some .ret=>Q .ret a H
 |some (.exit i)=>Q (.exit i) a H
 |_=>False
theorem M.rangeFunc{g:Operand}{ps:Array Tmp}{assign body:Code}{gf:FuncId}{first cap:Array Value}{v:Value}{H2:AH}{st:LoopState}{pend:Option Code}{ps':Array Tmp}{as' bd':Code}{m':Nat}{env' env:Env}(hl: ∀t,ae env t=undef\/ae env t=ae a t)(hg:bq a g= .func (.func gf) first cap)(hb:aO K.P gf)(hc:AC K.P gf (first.toList++[.chan (some H.length)]++cap.toList) (H++[.loop .ready none ps assign body K.n env]) (.val v H2))(hat:at_ H2 H.length= .loop st pend ps' as' bd' m' env')(hst:st≠ .busy)(h:wi Q a (H2.set H.length .dead) pend):M K (.rangeFunc g ps assign body) Q a H:=by
 intro ms σ act w ⟨hi,hm,hnd⟩
 refine(wpIn_wide (n:=0)).1 (wpIn_rangeFunc fun fnid _=> ?_)
 have hv:=hi.ar.eval g
 rw[hg]at hv
 generalize hgv:act.eval g=gv at hv
 cases hv with
 |func _ f1 f2 f3 f4=>
 rename_i first' cap'
 obtain⟨fn,b1,b2,b3⟩:=hb
 obtain⟨r0,x0⟩:=hi.hr.lay (.deferred (some []))
 let L:Loop:={state:= .ready,pending:=none,fn:=fnid,tmps:=act.tmps,params:=ps,assign,body,defers:=w.heap.size}
 have hs1:(w.alloc (.deferred (some []))).heap.size=w.heap.size+1:=by simp
 obtain⟨r1,x1⟩:=r0.alloc (.loop .ready none ps assign body K.n env) (.loop L) 1
  ⟨rfl,L,World.alloc_heap_new _ _,rfl,rfl,rfl,rfl,rfl,hi.ar.len,fun t=>((hi.ar.less hl).get t).mono (r0.sub_upd _)⟩
 refine⟨w.heap.size+1,[mark w.heap.size],(w.alloc (.deferred (some []))).alloc (.loop L),{target:= .fn (.func gf) cap',args:=first'++ #[.func (.yield (w.heap.size+1)) #[] #[]]},(w.alloc (.deferred (some []))).alloc (.loop L),gf,(first'++ #[.func (.yield (w.heap.size+1)) #[] #[]])++cap',(w.alloc (.deferred (some []))).alloc (.loop L),run_enterLoop_outer fnid act.tmps ps assign body,?_,fun _ _=>trivial,?_,(fun h=>by cases h),?_⟩
 ·simp only[resolve,rangeCall,hgv,Deferred.ofValue,ED,Sem.run_pure]
  simp[Act.eval]
 ·simp only[invoke,callFunc,ED,run_program,Result.andThen_ok,b1]
  simp only[b3,b2,EO,if_false,Sem.run_pure]
 ·refine callsIn_wide.2 ?_
  have hσ1:upd σ H.length ((w.alloc (.deferred (some []))).heap.size,0,1) H.length=some (w.heap.size+1,0,1):=by rw[dI,hs1]
  have hsub: ∀n x,σ n=some x->upd σ H.length ((w.alloc (.deferred (some []))).heap.size,0,1) n=some x:=x1.sub
  have hargs:Rs (upd σ H.length ((w.alloc (.deferred (some []))).heap.size,0,1)) (first.toList++[.chan (some H.length)]++cap.toList) (first'.toList++[.func (.yield (w.heap.size+1)) #[] #[]]++cap'.toList):=by
   have q1:Rs σ first.toList first'.toList:=⟨by simpa using f1,fun i v v' x y=>f2 i v v' (by simpa using x) (by simpa using y)⟩
   have q2:Rs σ cap.toList cap'.toList:=⟨by simpa using f3,fun i v v' x y=>f4 i v v' (by simpa using x) (by simpa using y)⟩
   exact((q1.mono hsub).append (Rs.cons (.yield hσ1) (Rs.nil _))).append (q2.mono hsub)
  have hcall:=hc _ _ _ hargs r1
  have hae:(first'.toList++[Value.func (.yield (w.heap.size+1)) #[] #[]]++cap'.toList).toArray=(first'++ #[.func (.yield (w.heap.size+1)) #[] #[]])++cap':=by apply F9;simp
  rw[hae]at hcall
  refine hcall.mono fun e w3 hh=> ?_
  obtain⟨σ3,he,r3,x3⟩:=hh
  cases e with
  |panicked ch=>exact he.elim
  |outgrown=>exact he.elim
  |returned v'=>
   have hσ3:=x3.sub _ _ hσ1
   have ho:=r3.obj _ _ hσ3
   rw[show(OpR.val v H2).heap=H2 from rfl]at ho r3 x3
   rw[hat]at ho
   obtain⟨_,L',g1,g2,g3,_⟩:=ho
   obtain⟨r4,x4⟩:=r3.update (w':=w3.putObj (w.heap.size+1) (.loop {L' with state:= .exhausted})) hσ3 (by rw[hat];rfl) .dead Ho rfl rfl rfl (fun c hc=>GB hc) trivial
   have hxx:=(((x0.trans x1).trans x3).trans x4)
   have hin:InM K (w.heap.size::ms) a (H2.set H.length .dead) σ3 {act with defers:=[mark w.heap.size]++act.defers} (w3.putObj (w.heap.size+1) (.loop {L' with state:= .exhausted})):=by
    refine⟨⟨r4,⟨hi.ar.len,fun t=>(hi.ar.get t).mono hxx.sub⟩,?_,hi.ex.trans hxx⟩,?_,?_⟩
    ·show [mark w.heap.size]++act.defers=_
     rw[hi.df];rfl
    ·intro b hb
     rcases EG.1 hb with rfl|hb
     ·have h0:MkOk K.w.heap.size [w.heap.size] (upd σ H.length ((w.alloc (.deferred (some []))).heap.size,0,1)) (H++[.loop .ready none ps assign body K.n env]) ((w.alloc (.deferred (some []))).alloc (.loop L)):=by
       intro b hb
       have hb:b=w.heap.size:=by simpa using hb
       subst hb
       refine⟨hi.ex.size,?_,fun n x hn _=> ?_⟩
       ·rw[GA _ _ _ (by omega)]
        exact World.alloc_heap_new _ _
       ·by_cases e:n=H.length
        ·subst e;rw[hσ1]at hn;cases hn;simp
        ·rw[kC _ e]at hn
         have:=(hi.hr.dom n x hn).2
         omega
      exact(h0.ext (x3.trans x4)) _ (by simp)
     ·exact(hm.ext hxx) b hb
    ·refine Gj.2 ⟨fun hb=> ?_,hnd⟩
     have:=(Fh.1 (hm _ hb).2.1).1
     omega
   refine⟨pend,w3.putObj (w.heap.size+1) (.loop {L' with state:= .exhausted}),?_,?_⟩
   ·rw[<-g3];exact run_endLoop g1 (by rw[g2];exact hst)
   ·cases pend with
    |none=>exact⟨_,.normal,a,_,σ3,h,trivial,hin⟩
    |some c=>
     cases c with
     |ret=>exact wpIn_ret ⟨_,.ret,a,_,σ3,h,trivial,hin⟩
     |exit i=>exact wpIn_exit ⟨_,.exit i,a,_,σ3,h,rfl,hin⟩
     |_=>exact h.elim
end
theorem lr{P:Program}{fn:Func}{tmps:Array Value}{R:Ending->World->Prop}{u:FrameMode}(hu:u≠ .run): ∀(ms:List Nat) (w:World),ms.Nodup->(∀b∈ms,w.heap[b]? =some (.deferred (some [])))->LeavesIn Fence.wide 0 P fn tmps R [] u (ms.foldl (fun w b=>w.putObj b (.deferred none)) w)->LeavesInM Fence.wide 0 P fn tmps R (ms.map mark) u w
 | [],_,_,_,h=>h
 |b::ms,w,hn,hw,h=>by
  refine⟨hu,.inl ⟨b,w.putObj b (.deferred none),rfl,run_takeDeferred (hw b (by simp)),?_⟩⟩
  obtain⟨h1,h2⟩:=Gj.1 hn
  refine lr hu ms _ h2 (fun c hc=> ?_) h
  rw[GB (fun e=>h1 (by subst e;exact hc))]
  exact hw c (by simp[hc])
theorem yH{σ₀ σ:Ren}{H₀ H:AH}{w₀:World}: ∀(ms:List Nat) (w:World),HR σ H w->Ext σ₀ H₀ w₀ σ H w->(∀b∈ms,w₀.heap.size<=b/\ ∀n x,σ n=some x->(at_ H n).live=true->x.1≠b)->HR σ H (ms.foldl (fun w b=>w.putObj b (.deferred none)) w)/\Ext σ₀ H₀ w₀ σ H (ms.foldl (fun w b=>w.putObj b (.deferred none)) w)
 | [],_,h,x,_=>⟨h,x⟩
 |b::ms,w,h,x,hm=>by
  obtain⟨h1,h2⟩:=hm b (by simp)
  obtain⟨r,y⟩:=dark_ok h x (.deferred none) h1 h2
  exact yH ms _ r y fun c hc=>hm c (by simp[hc])
end Go.Ev
