import Derived.Test.YtjcomcgpjjianaaA7
set_option linter.all false
set_option maxHeartbeats 16000000
set_option maxRecDepth 8000
open Go.Value renaming int→O
open Go.IntKind renaming i64→U
namespace Go.Ev
def dD:Nat->List Value->Env
 |_,[]=>[]
 |i,v::r=>(i,v)::dD (i+1) r
theorem oZ: ∀(l:List Value) (i t:Nat),ae (dD i l) t=if i<=t then(l[t-i]?).getD undef else undef
 | [],i,t=>by simp[dD,ae]
 |v::l,i,t=>by
  simp only[dD,ae]
  rw[oZ l (i+1) t]
  by_cases e:i=t
  ·subst e;simp
  ·rw[if_neg e]
   by_cases h:i+1<=t
   ·rw[if_pos h,if_pos (by omega),show t-i=(t-(i+1))+1 by omega,List.getElem?_cons_succ]
   ·rw[if_neg h]
    by_cases h2:i<=t
    ·omega
    ·rw[if_neg h2]
def kh(P:Program)(a:Env)(H:AH):ResultVar->Option Value
 | .tmp t=>some (ae a t)
 | .cell c t=>dQ P H t (ae a c)
def fg(P:Program)(fn:Func)(a:Env)(H:AH):Option Value:=match fn.results.toList with
 | [r]=>kh P a H r
 | [r,s]=>match kh P a H r,kh P a H s with|some v,some u=>some (.tuple #[v,u])|_,_=>none
 | [r,s,q]=>match kh P a H r,kh P a H s,kh P a H q with|some v,some u,some w=>some (.tuple #[v,u,w])|_,_,_=>none
 | []=>some (.tuple #[])
 |_=>none
theorem iZ{P:Program}{σ:Ren}{n:Nat}{a:Env}{act:Act}{H:AH}{w:World}(hr:HR σ H w)(h:AR σ n a act){r:ResultVar}{v:Value}(hv:kh P a H r=some v):
 ∃v',(match r with| .tmp t=>(pure (act.tmps.getD t undef):Sem Value)| .cell a t=>do loadVar t (<-asAddr (act.tmps.getD a undef))).run P w= .ok v' w/\VR σ v v':=by
 cases r with
 |tmp t=>cases hv;exact⟨_,by simp,h.get t⟩
 |cell c t=>
  obtain⟨v',h1,h2⟩:=vw (P:=P) hr (h.get c) hv
  refine⟨v',?_,h2⟩
  have hx:=h.get c
  simp only[kh]at hv
  unfold dQ at hv
  split at hv
  ·rename_i hp
   rw[hp]at hx
   show Sem.run P (do loadVar t (<-asAddr (act.tmps.getD c undef))) w=_
   generalize act.tmps.getD c undef=y at hx h1⊢
   cases hx
   exact h1
  ·cases hv
theorem run_one{P:Program}{w:World}{f:ResultVar->Sem Value}{r:ResultVar}{x:Value}(h:(f r).run P w= .ok x w):
 (do let vs<- #[r].mapM f;pure (if h:vs.size=1 then vs[0]else .tuple vs):Sem Value).run P w= .ok x w:=by simp[h]
theorem run_two{P:Program}{w:World}{f:ResultVar->Sem Value}{r s:ResultVar}{x y:Value}(h:(f r).run P w= .ok x w)(h':(f s).run P w= .ok y w):
 (do let vs<- #[r,s].mapM f;pure (if h:vs.size=1 then vs[0]else .tuple vs):Sem Value).run P w= .ok (.tuple #[x,y]) w:=by simp[h,h']
theorem C3{P:Program}{w:World}{f:ResultVar->Sem Value}{r s q:ResultVar}{x y z:Value}(h:(f r).run P w= .ok x w)(h':(f s).run P w= .ok y w)(h'':(f q).run P w= .ok z w):
 (do let vs<- #[r,s,q].mapM f;pure (if h:vs.size=1 then vs[0]else .tuple vs):Sem Value).run P w= .ok (.tuple #[x,y,z]) w:=by simp[h,h',h'']
theorem mO{P:Program}{fn:Func}{σ:Ren}{n:Nat}{a:Env}{act:Act}{H:AH}{w:World}(hr:HR σ H w)(h:AR σ n a act){v:Value}(hv:fg P fn a H=some v):
 ∃v',(results fn act.tmps).run P w= .ok v' w/\VR σ v v':=by
 unfold fg at hv
 unfold results
 split at hv
 ·rename_i r ht
  have hrs:fn.results= #[r]:=by apply F9;simpa using ht
  obtain⟨v',h1,h2⟩:=iZ (P:=P) hr h hv
  refine⟨v',?_,h2⟩
  rw[hrs]
  exact run_one h1
 ·rename_i r s ht
  have hrs:fn.results= #[r,s]:=by apply F9;simpa using ht
  split at hv
  ·rename_i x y hx hy
   cases hv
   obtain⟨x',h1,h2⟩:=iZ (P:=P) hr h hx
   obtain⟨y',h3,h4⟩:=iZ (P:=P) hr h hy
   refine⟨.tuple #[x',y'],?_,.tuple rfl fun i p p' q q'=> ?_⟩
   ·rw[hrs]
    exact run_two h1 h3
   ·match i with
    | 0=>simp at q q';subst q;subst q';exact h2
    | 1=>simp at q q';subst q;subst q';exact h4
    |i+2=>simp at q
  ·cases hv
 ·rename_i r s q ht
  have hrs:fn.results= #[r,s,q]:=by apply F9;simpa using ht
  split at hv
  ·rename_i x y z hx hy hz
   cases hv
   obtain⟨x',h1,h2⟩:=iZ (P:=P) hr h hx
   obtain⟨y',h3,h4⟩:=iZ (P:=P) hr h hy
   obtain⟨z',h5,h6⟩:=iZ (P:=P) hr h hz
   refine⟨.tuple #[x',y',z'],?_,.tuple rfl fun i p p' q q'=> ?_⟩
   ·rw[hrs]
    exact C3 h1 h3 h5
   ·match i with
    | 0=>simp at q q';subst q;subst q';exact h2
    | 1=>simp at q q';subst q;subst q';exact h4
    | 2=>simp at q q';subst q;subst q';exact h6
    |i+3=>simp at q
  ·cases hv
 ·rename_i ht
  cases hv
  have hrs:fn.results= #[]:=by apply F9;simpa using ht
  refine⟨.tuple #[],?_,.junk _⟩
  rw[hrs];simp
 ·cases hv
def Ends(P:Program)(fn:Func)(H:AH)(r:OpR):AX->Env->AH->Prop
 | .normal,a,H'| .ret,a,H'=> ∃v Hr G,fg P fn a H'=some v/\r= .val v Hr/\H'=Hr++G/\H.length<=Hr.length/\Bel Hr.length v/\ ∀n,n<Hr.length->(n<H.length/\at_ Hr n=at_ H n)\/bC Hr.length (at_ Hr n)
 | .panic v,_,H'=> ∃Hr G,r= .pan v Hr/\H'=Hr++G/\H.length<=Hr.length/\Bel Hr.length v/\ ∀n,n<Hr.length->(n<H.length/\at_ Hr n=at_ H n)\/bC Hr.length (at_ Hr n)
 |_,_,_=>False
theorem Bel.le{k l:Nat}{v:Value}(h:Bel k v)(hl:k<=l):Bel l v:=fun σ v' hv=>(h σ v' hv).mono (fw hl)
theorem xI{σ₀ σ:Ren}{H Hr G:AH}{w₀ w:World}(hr₀:HR σ₀ H w₀)(hr:HR σ (Hr++G) w)(ex:Ext σ₀ H w₀ σ (Hr++G) w)(hl:H.length<=Hr.length)(hb: ∀n,n<Hr.length->(n<H.length/\at_ Hr n=at_ H n)\/bC Hr.length (at_ Hr n)):HR (cut σ Hr.length) Hr w/\Ext σ₀ H w₀ (cut σ Hr.length) Hr w:=by
 have hat: ∀n,n<Hr.length->at_ (Hr++G) n=at_ Hr n:=fun n h=>ag h
 refine⟨⟨fun n x h=> ?_,fun n x h=> ?_,fun n m x y hn hm hne hrw hlv=> ?_⟩,⟨fun n x h=> ?_,fun n x h=>ex.new n x (bG.1 h).2,hl,ex.size,ex.os,ex.tape,ex.output,ex.frame,fun n x h hrw hlt=> ?_,fun n x h hrw hlt=> ?_⟩⟩
 ·rw[bG]at h;exact⟨h.1,(hr.dom n x h.2).2⟩
 ·rw[bG]at h
  have ho:=hr.obj n x h.2
  rw[hat n h.1]at ho
  rcases hb n h.1 with ⟨h1,h2⟩|h2
  ·rcases ex.new n x h.2 with h3|⟨_,h3⟩
   ·have hbo:bC H.length (at_ H n):=bC.of (hr₀.obj n x h3) fun k y hk=>(hr₀.dom k y hk).1
    rw[h2]at ho⊢
    exact(hbo σ w x ho).keep (fw hl) rfl
   ·omega
  ·exact h2 σ w x ho
 ·rw[bG]at hn hm
  exact hr.inj n m x y hn.2 hm.2 hne (by rw[hat n hn.1];exact hrw) (by rw[hat m hm.1];exact hlv)
 ·exact bG.2 ⟨EV (hr₀.dom n x h).1 hl,ex.sub n x h⟩
 ·rw[bG]at h
  exact ex.rwm n x h.2 (by rw[hat n h.1];exact hrw) hlt
 ·rw[bG]at h
  exact ex.lvm n x h.2 (by rw[hat n h.1];exact hrw) hlt
theorem AB(n:Nat)(args:Array Value)(h:args.size<=n):(args++Array.replicate (n-args.size) undef).size=n:=by simp;omega
theorem kS{σ:Ren}{n:Nat}{args args':List Value}(h:Rs σ args args')(hn:args.length<=n):
 AR σ n (dD 0 args) {tmps:=args'.toArray++Array.replicate (n-args'.toArray.size) undef,defers:=[]}:=by
 have hl:=h.1
 refine⟨AB n _ (by simp;omega),fun t=> ?_⟩
 rw[oZ]
 simp only[FT,if_true,Nat.sub_zero]
 cases e:args[t]? with
 |none=>exact .junk _
 |some v=>
  obtain⟨v',h1,h2⟩:=h.get e
  have:(args'.toArray++Array.replicate (n-args'.toArray.size) undef).getD t undef=v':=by
   have ht:t<args'.length:=(Ey.1 h1).1
   rw[EZ,Array.getElem?_append_left (by simpa using ht)]
   simp[h1]
  simp only[this]
  exact h2
theorem AC.of{P:Program}{f:FuncId}{fn:Func}{c:Code}{args:List Value}{H:AH}{r:OpR}{N:Nat}(hf:P.funcs[f]? =some fn)(hb:fn.body=some c)(hN:fn.ntmps=N)(hn:args.length<=N)(h: ∀σ w,HR σ H w->W ⟨P,N,[],σ,H,w⟩ c (Ends P fn H r) (dD 0 args) H):AC P f args H r:=by
 subst hN
 intro σ w args' ha hr
 refine calls_of_wp hf hb ?_
 refine wp_mono (h σ w hr σ _ w ⟨hr,kS ha hn,rfl,Ext.refl _ _ _⟩) fun e act' w' hp=> ?_
 obtain⟨x,a',H',σ',q,hx,hi⟩:=hp
 have hval: ∀v Hr G,fg P fn a' H'=some v->r= .val v Hr->H'=Hr++G->H.length<=Hr.length->Bel Hr.length v->(∀n,n<Hr.length->(n<H.length/\at_ Hr n=at_ H n)\/bC Hr.length (at_ Hr n))->act'.defers=[]/\ ∃v,(results fn act'.tmps).run P w'= .ok v w'/\ ∃σ',EndR σ' r (.returned v)/\HR σ' r.heap w'/\Ext σ H w σ' r.heap w':=by
  intro v Hr G h1 h2 h3 h4 h5 h6
  subst h2;subst h3
  obtain⟨v',g1,g2⟩:=mO (P:=P) hi.hr hi.ar h1
  obtain⟨d1,d2⟩:=xI hr hi.hr hi.ex h4 h6
  exact⟨hi.df,v',g1,_,h5 _ _ g2,d1,d2⟩
 cases x<;>cases e<;>first|exact hx.elim|skip
 ·obtain⟨v,Hr,G,h1,h2,h3,h4,h5,h6⟩:=q;exact hval v Hr G h1 h2 h3 h4 h5 h6
 ·exact q.elim
 ·obtain⟨v,Hr,G,h1,h2,h3,h4,h5,h6⟩:=q;exact hval v Hr G h1 h2 h3 h4 h5 h6
 ·obtain⟨Hr,G,h2,h3,h4,h5,h6⟩:=q
  subst h2;subst h3
  obtain⟨v',rfl,g2⟩:=hx
  obtain⟨d1,d2⟩:=xI hr hi.hr hi.ex h4 h6
  exact⟨hi.df,_,⟨v',rfl,h5 _ _ g2⟩,d1,d2⟩
theorem Bel.int(k:Nat)(j:IntKind)(n:Int):Bel k (.int j n):=by intro σ v h;cases h;exact .int _ _
theorem Bel.bool(k:Nat)(b:Bool):Bel k (.bool b):=by intro σ v h;cases h;exact .bool _
theorem Bel.junk(k:Nat):Bel k undef:=fun _ _ _=> .junk _
theorem bF(H:AH)(o:AO)(l:AH):at_ (H++o::l) H.length=o:=by unfold at_;simp
theorem aq(H l:AH)(k:Nat):at_ (H++l) (H.length+k)=at_ l k:=by
 unfold at_;rw[FK (by omega)];simp
theorem at_zero(o:AO)(l:AH):at_ (o::l) 0=o:=rfl
theorem lF(o:AO)(l:AH)(k:Nat):at_ (o::l) (k+1)=at_ l k:=rfl
theorem g9(H:AH)(o x:AO)(l:AH):(H++o::l).set H.length x=H++x::l:=by
 rw[F5 _ _ (EJ _)];simp
theorem bV(H l:AH)(x:AO)(k:Nat):(H++l).set (H.length+k) x=H++l.set k x:=by
 rw[F5 _ _ (by omega)];simp
theorem len_app(H l:AH):(H++l).length=H.length+l.length:=Ez
theorem dH(H l:AH)(i:Nat):aj (H++l) H.length i=aj l 0 i:=by
 unfold aj aP
 have:=aq H l 0
 rw[Nat.add_zero]at this;rw[this]
theorem bU(H l:AH)(k i:Nat):aj (H++l) (H.length+k) i=aj l k i:=by
 unfold aj aP;rw[aq]
theorem oT(o:AO)(l:AH)(k i:Nat):aj (o::l) (k+1) i=aj l k i:=rfl
theorem Ay(c:List Value)(e:TypeId)(l:AH)(i:Nat):aj (.cells c e::l) 0 i=c[i]? :=rfl
theorem ed(H l:AH)(i k:Nat):ak (H++l) H.length i k=ak l 0 i k:=by
 unfold ak aP
 have:=aq H l 0
 rw[Nat.add_zero]at this;rw[this]
theorem aF(H l:AH)(m i k:Nat):ak (H++l) (H.length+m) i k=ak l m i k:=by
 unfold ak aP;rw[aq]
theorem gF(o:AO)(l:AH)(m i k:Nat):ak (o::l) (m+1) i k=ak l m i k:=rfl
theorem oQ(c:List Value)(e:TypeId)(l:AH)(i k:Nat):ak (.cells c e::l) 0 i k=if i+k<=c.length then some ((c.drop i).take k)else none:=rfl
theorem cG{H:AH}{n i k:Nat}{l:List Value}(h:ak H n i k=some l){j:Nat}(hj:j<k):aj H n (i+j)=l[j]? :=by
 unfold ak at h
 simp only[EN]at h
 obtain⟨c,hc,h⟩:=h
 split at h
 ·cases h
  unfold aj
  rw[hc,Option.bind_some,GC,if_pos hj,GD]
 ·cases h
theorem bL{H:AH}{n i k:Nat}{l:List Value}(h:ak H n i k=some l){j m:Nat}(hj:j+m<=k):ak H n (i+j) m=some ((l.drop j).take m):=by
 unfold ak at h⊢
 simp only[EN]at h
 obtain⟨c,hc,h⟩:=h
 split at h
 ·cases h
  rw[hc,Option.bind_some,if_pos (by omega)]
  congr 1
  rw[List.drop_take,List.take_take,List.drop_drop]
  congr 1
  omega
 ·cases h
theorem aw{H G:AH}{n i:Nat}{v:Value}(h:aj H n i=some v):aj (H++G) n i=some v:=by
 have hn:n<H.length:=by
  by_cases e:n<H.length
  ·exact e
  ·unfold aj aP at h;rw[dW (by omega)]at h;simp at h
 unfold aj aP at*
 rw[ag hn];exact h
theorem aD{H G:AH}{n i k:Nat}{l:List Value}(h:ak H n i k=some l):ak (H++G) n i k=some l:=by
 have hn:n<H.length:=by
  by_cases e:n<H.length
  ·exact e
  ·unfold ak aP at h;rw[dW (by omega)]at h;simp at h
 unfold ak aP at*
 rw[ag hn];exact h
theorem Du(P:Program)(op:BinOp)(t:TypeId)(k:IntKind)(a b:Int):dx P op t (.int k a) (.int k b)=fu op k a b:=by
 unfold dx;simp
def wb:Op->Bool
 | .call {callee:= .builtin _,..}=>false
 | .call _=>true
 | .panic _=>true
 |_=>false
inductive Rn where
 |go (a:Env) (H:AH)
 |stop (o:Oper) (a:Env) (H:AH)
 |bad
def rnOf(n:Nat)(dst:Option Tmp)(a:Env):Option OpR->Rn
 |some (.val v H')=> .go (aB n a dst v) H'
 |_=> .bad
def rnBy(P:Program)(n:Nat)(o:Oper)(a:Env)(H:AH):Option Bool->Rn
 |some true=>if wb o.op=true then .stop o a H else rnOf n o.dst a (cH P noC H (bq a) o.op)
 |some false=> .go (aB n a o.dst gone) H
 |none=> .bad
def mD(P:Program)(n:Nat)(ops:Array Oper):List Oper->Rn->Option (List Oper×Env×AH)
 |r,.stop o a H=>some (o::r,a,H)
 | [],.go a H=>some ([],a,H)
 |o::r,.go a H=>mD P n ops r (rnBy P n o a H (aJ ops a o))
 |_,.bad=>none
theorem tX{P:Program}{n:Nat}{ops:Array Oper}(r:List Oper)(o:Oper)(a:Env)(H:AH):mD P n ops r (.stop o a H)=some (o::r,a,H):=by cases r<;>rfl
theorem rB{P:Program}{n:Nat}{ops:Array Oper}(r:List Oper):mD P n ops r .bad=none:=by cases r<;>rfl
theorem Wl.seg{K:Cx}{ops:Array Oper}{Q:AX->Env->AH->Prop}{r':List Oper}{a':Env}{H':AH}: ∀{r:List Oper} {a:Env} {H:AH},mD K.P K.n ops r (.go a H)=some (r',a',H')->Wl K ops r' Q a' H'->Wl K ops r Q a H:=by
 intro r
 induction r with
 |nil=>intro a H h hw;cases h;exact hw
 |cons o r ih=>
  intro a H h hw
  simp only[mD]at h
  cases hg:aJ ops a o with
  |none=>rw[hg]at h;simp only[rnBy,rB]at h;cases h
  |some g=>
   rw[hg]at h
   cases g with
   |false=>exact Wl.past hg (ih h hw)
   |true=>
    simp only[rnBy]at h
    split at h
    ·rw[tX]at h;cases h;exact hw
    ·cases he:cH K.P noC H (bq a) o.op with
     |none=>rw[he]at h;simp only[rnOf,rB]at h;cases h
     |some e=>
      rw[he]at h
      cases e with
      |pan v H1=>simp only[rnOf,rB]at h;cases h
      |val v H1=>exact Wl.op hg (bO.ev he) (ih h hw)
def qM:Op->Kd
 | .store .. | .mapUpdate .. | .insert .. | .mapEntry .. | .entryStore .. => .eff
 | .call {callee:= .builtin .len,..}=> .still
 | .call _=> .eff
 | .load .. | .lookup .. => .loud
 |_=> .still
def mo(q:Nat->Bool)(ops:List Oper):List Kd:=(List.range ops.length).map fun i=>match ops[i]? with|some o=>if q i=true then .loud else qM o.op|none=> .eff
def noEx(ops:List Oper)(ks:List Kd):Bool:=(List.range ops.length).all fun e=> !(cg ks e).isEff||((exN ops ks e).isEmpty&&(exJ ops ks e).isEmpty)
def tK(q:Nat->Bool)(ops:List Oper):Bool:=(List.range ops.length).all fun i=> !q i||(match ops[i]? with|some o=>wb o.op|none=>true)
def kf(q:Nat->Bool)(ops:List Oper):Bool:=chk ops (mo q ops)&&noEx ops (mo q ops)&&tK q ops
def sx(q:Nat->Bool)(i:Nat)(op:Op):Kd:=if q i=true then .loud else qM op
def Dl(K:Cx)(ops:List Oper)(q:Nat->Bool)(rest:List Oper)(Q:AX->Env->AH->Prop)(a:Env)(H:AH):Prop:=kf q ops=true->ops.drop (ops.length-rest.length)=rest-> ∀ls,Dr K ops (mo q ops) Q (ops.length-rest.length) ls rest a H
theorem Xc.none{ops:List Oper}{ks:List Kd}{e:Nat}{ls:List Nat}{H H':AH}(h:exN ops ks e=[]/\exJ ops ks e=[]):Xc ops ks e ls H H':=⟨by rw[h.1];simp,by rw[h.2];simp⟩
section
variable {K:Cx}{ops:List Oper}{q:Nat->Bool}{Q:AX->Env->AH->Prop}{a:Env}{H:AH}{o:Oper}{r:List Oper}
theorem mQ{i:Nat}(h:ops.drop i=o::r):ops[i]? =some o/\i<ops.length/\ops.drop (i+1)=r:=by
 have h1:(ops.drop i)[0]? =some o:=by rw[h];rfl
 rw[GD,Nat.add_zero]at h1
 refine⟨h1,(Ey.1 h1).1,?_⟩
 have:(ops.drop i).drop 1=r:=by rw[h];rfl
 rwa [List.drop_drop]at this
theorem vI(h:ops.drop (ops.length-(o::r).length)=o::r):ops.length-r.length=ops.length-(o::r).length+1/\ops.drop (ops.length-r.length)=r:=by
 obtain⟨_,h2,h3⟩:=mQ h
 have hl:(ops.drop (ops.length-(o::r).length)).length=(o::r).length:=by rw[h]
 simp only[Hc,List.length_cons]at hl h2⊢
 have e:ops.length-r.length=ops.length-(r.length+1)+1:=by omega
 refine⟨e,?_⟩
 rw[e];simpa using h3
theorem kd_eq{i:Nat}(h:ops.drop i=o::r):cg (mo q ops) i=sx q i o.op:=by
 obtain⟨h1,h2,_⟩:=mQ h
 unfold cg mo
 rw[EF,EM,EW h2]
 simp only[Option.map_some,h1,Option.getD_some,sx]
theorem Cc(hc:kf q ops=true){e:Nat}(he:e<ops.length)(hk:(cg (mo q ops) e).isEff=true):exN ops (mo q ops) e=[]/\exJ ops (mo q ops) e=[]:=by
 unfold kf at hc
 simp only[EC]at hc
 have h2:=hc.1.2
 unfold noEx at h2
 rw[EI]at h2
 have:=h2 e (by simpa using he)
 rw[hk]at this
 simpa using this
theorem W.drawnBy{id:Nat}(q:Nat->Bool)(hm:K.P.follows .mixedOrders=true)(hc:kf q ops=true)(h:Dl K ops q ops Q a H):W K (.region id ops.toArray true) Q a H:=by
 have h0:=h hc (by simp) []
 rw[F8]at h0
 unfold kf at hc
 simp only[EC]at hc
 exact W.drawn _ hm hc.1.1 h0
theorem Dl.nil(h:Q .normal a H):Dl K ops q [] Q a H:=fun _ _ _=>h
theorem Dl.op{v:Value}{H':AH}(hw:aJ ops.toArray a o=some true)(hs:DS K.P a H o.op v H' (sx q (ops.length-(r.length+1)) o.op))(h:Dl K ops q r Q (aB K.n a o.dst v) H'):Dl K ops q (o::r) Q a H:=by
 intro hx hl ls
 obtain⟨_,h2,_⟩:=mQ hl
 obtain⟨h4,h5⟩:=vI hl
 have:=h hx h5 (ls++[H.length])
 rw[h4]at this
 exact Dr.op hw (by rw[kd_eq hl];exact hs) (fun hk=>Xc.none (Cc hx h2 hk)) this
theorem Dl.past(hw:aJ ops.toArray a o=some false)(h:Dl K ops q r Q (aB K.n a o.dst gone) H):Dl K ops q (o::r) Q a H:=by
 intro hx hl ls
 obtain⟨h4,h5⟩:=vI hl
 have:=h hx h5 (ls++[H.length])
 rw[h4]at this
 exact Dr.past hw this
theorem Dl.DX{v:Value}{H':AH}(hw:aJ ops.toArray a o=some true)(hs:bO K.P a H o.op (.pan v H'))(hk:(sx q (ops.length-1) o.op).isLoud=true)(h:kG ops Q v a H'):Dl K ops q [o] Q a H:=fun _ hl _=>Dr.pan hw hs (by rw[kd_eq hl];exact hk) h
theorem Dl.pan{v:Value}{H':AH}(hw:aJ ops.toArray a o=some true)(hs:bO K.P a H o.op (.pan v H'))(hk:(sx q (ops.length-1) o.op).isLoud=true)(h:Q (.panic v) [] H'):Dl K ops q [o] Q a H:=Dl.DX hw hs hk (kG.none h)
theorem Dl.quiet{v:Value}{aC:AH}(hk:q (ops.length-(r.length+1))=true)(hw:aJ ops.toArray a o=some true)(hs:bO K.P a H o.op (.val v (H++aC)))(h:Dl K ops q r Q (aB K.n a o.dst v) (H++aC)):
 Dl K ops q (o::r) Q a H:=Dl.op hw (by rw[sx,if_pos hk];exact⟨hs,aC,rfl⟩) h
theorem Dl.still{v:Value}(hk:q (ops.length-(r.length+1))=true)(hw:aJ ops.toArray a o=some true)(hs:bO K.P a H o.op (.val v H))(h:Dl K ops q r Q (aB K.n a o.dst v) H):
 Dl K ops q (o::r) Q a H:=Dl.op hw (by rw[sx,if_pos hk];exact⟨hs,[],by simp⟩) h
theorem Dl.eff{v:Value}{H':AH}(hk:sx q (ops.length-(r.length+1)) o.op= .eff)(hw:aJ ops.toArray a o=some true)(hs:bO K.P a H o.op (.val v H'))(hl:H.length<=H'.length)(h:Dl K ops q r Q (aB K.n a o.dst v) H'):
 Dl K ops q (o::r) Q a H:=Dl.op hw (by rw[hk];exact⟨hs,hl⟩) h
end
def du(ρ:Operand->Value)(H:AH)(op:Op):Kd->Option OpR->Option OpR
 | .still,r=>if iV ρ op=true then r else none
 | .loud,r=>match op with| .load .. | .lookup .. =>r|_=>none
 | .eff,some (.val v H')=>if H.length<=H'.length then some (.val v H')else none
 |_,_=>none
def rnByD(P:Program)(n:Nat)(o:Oper)(a:Env)(H:AH):Option Bool->Rn
 |some true=>if wb o.op=true then .stop o a H else rnOf n o.dst a (du (bq a) H o.op (qM o.op) (cH P noC H (bq a) o.op))
 |some false=> .go (aB n a o.dst gone) H
 |none=> .bad
def lj(P:Program)(n:Nat)(ops:Array Oper):List Oper->Rn->Option (List Oper×Env×AH)
 |r,.stop o a H=>some (o::r,a,H)
 | [],.go a H=>some ([],a,H)
 |o::r,.go a H=>lj P n ops r (rnByD P n o a H (aJ ops a o))
 |_,.bad=>none
theorem rF{P:Program}{n:Nat}{ops:Array Oper}(r:List Oper)(o:Oper)(a:Env)(H:AH):lj P n ops r (.stop o a H)=some (o::r,a,H):=by cases r<;>rfl
theorem pg{P:Program}{n:Nat}{ops:Array Oper}(r:List Oper):lj P n ops r .bad=none:=by cases r<;>rfl
theorem okBy_ok{P:Program}{a:Env}{H:AH}{op:Op}{v:Value}{H':AH}(h:du (bq a) H op (qM op) (cH P noC H (bq a) op)=some (.val v H')):DS P a H op v H' (qM op):=by
 cases hk:qM op with
 |still=>
  rw[hk]at h
  simp only[du]at h
  split at h
  ·rename_i hs;exact⟨h,hs⟩
  ·cases h
 |loud=>
  rw[hk]at h
  simp only[du]at h
  split at h
  ·refine⟨bO.ev h,[],?_⟩
   rw[(lM h).2];simp
  ·refine⟨bO.ev h,[],?_⟩
   rw[(lM h).2];simp
  ·cases h
 |one n=>rw[hk]at h;simp only[du]at h;cases h
 |eff=>
  rw[hk]at h
  cases he:cH P noC H (bq a) op with
  |none=>rw[he]at h;simp only[du]at h;cases h
  |some e=>
   rw[he]at h
   cases e with
   |pan v H1=>simp only[du]at h;cases h
   |val v H1=>
    simp only[du]at h
    split at h
    ·rename_i hl;cases h;exact⟨bO.ev he,hl⟩
    ·cases h
theorem Dl.seg{K:Cx}{ops:List Oper}{q:Nat->Bool}{Q:AX->Env->AH->Prop}{r':List Oper}{a':Env}{H':AH}: ∀{r:List Oper} {a:Env} {H:AH},lj K.P K.n ops.toArray r (.go a H)=some (r',a',H')->Dl K ops q r' Q a' H'->Dl K ops q r Q a H:=by
 intro r
 induction r with
 |nil=>intro a H h hw;cases h;exact hw
 |cons o r ih=>
  intro a H h hw hx hl ls
  have hkd:wb o.op=false->sx q (ops.length-(r.length+1)) o.op=qM o.op:=by
   intro hst
   obtain⟨h1,h2,_⟩:=mQ hl
   unfold kf at hx
   simp only[EC]at hx
   have hq:=hx.2
   unfold tK at hq
   rw[EI]at hq
   have:=hq _ (by simpa using h2)
   simp only[List.length_cons]at h1
   simp only[List.length_cons,h1,hst]at this
   unfold sx
   cases hqi:q (ops.length-(r.length+1))with
   |false=>simp
   |true=>rw[hqi]at this;simp at this
  revert hx hl ls
  show Dl K ops q (o::r) Q a H
  simp only[lj]at h
  cases hg:aJ ops.toArray a o with
  |none=>rw[hg]at h;simp only[rnByD,pg]at h;cases h
  |some g=>
   rw[hg]at h
   cases g with
   |false=>exact Dl.past hg (ih h hw)
   |true=>
    simp only[rnByD]at h
    split at h
    ·rw[rF]at h;cases h;exact hw
    ·rename_i hst
     cases he:du (bq a) H o.op (qM o.op) (cH K.P noC H (bq a) o.op)with
     |none=>rw[he]at h;simp only[rnOf,pg]at h;cases h
     |some e=>
      rw[he]at h
      cases e with
      |pan v H1=>simp only[rnOf,pg]at h;cases h
      |val v H1=>exact Dl.op hg (by rw[hkd (by simpa using hst)];exact okBy_ok he) (ih h hw)
theorem Bel.plain{k:Nat}{v:Value}(h:plain v=true):Bel k v:=Bel.of (σ:=fun _=>none) (cT _ h) (by simp)
theorem Ends.quiet{P:Program}{fn:Func}{H G:AH}{a:Env}{v:Value}(h:fg P fn a (H++G)=some v)(hp:Ev.plain v=true):Ends P fn H (.val v H) .ret a (H++G):=⟨v,H,G,h,rfl,rfl,EJ _,Bel.plain hp,fun n hn=> .inl ⟨hn,rfl⟩⟩
theorem Ends.still{P:Program}{fn:Func}{H:AH}{a:Env}{v:Value}(h:fg P fn a H=some v)(hp:Ev.plain v=true):Ends P fn H (.val v H) .ret a H:=⟨v,H,[],h,rfl,by simp,EJ _,Bel.plain hp,fun n hn=> .inl ⟨hn,rfl⟩⟩
theorem Ends.DL{t:TypeId}{P:Program}{fn:Func}{H G:AH}{a:Env}{v:Value}(hp:Ev.plain v=true):Ends P fn H (.pan (.iface t v) H) (.panic (.iface t v)) a (H++G):=⟨H,G,rfl,rfl,EJ _,Bel.of (σ:=fun _=>none) (.iface t (cT _ hp)) (by simp),fun n hn=> .inl ⟨hn,rfl⟩⟩
theorem Ends.Ef{t:TypeId}{P:Program}{fn:Func}{H:AH}{a:Env}{v:Value}(hp:Ev.plain v=true):Ends P fn H (.pan (.iface t v) H) (.panic (.iface t v)) a H:=⟨H,[],rfl,by simp,EJ _,Bel.of (σ:=fun _=>none) (.iface t (cT _ hp)) (by simp),fun n hn=> .inl ⟨hn,rfl⟩⟩
section
variable {P:Program}{H:AH}{ts:Array TypeId}{x:Value}{e:TypeId}{it:TypeInfo}{z:Value}{m:Nat}{l:List Value}
theorem fk(h0:ts[0]?.bind P.underlying=some (.slice e))(hi:P.info? e=some it)(hz:it.zero=some z)(hzs:z.cells.size=it.size)(hs:0<it.size)(hn:aC P H it ts[1]? x=some (m,l))(ho:l.all one=true){n i len c:Nat}{old:List Value}(hb:(len+m)*it.bytes<=140737488355328)(hb2:len+m<=9223372036854775807)(hc:c<unk)(hlen:len<=c)(hg:c<len+m)(hold:ak H n i (len*it.size)=some old):
 bD P H ts (.slice (some ⟨n,i,none⟩) len c) x=some (.slice (some ⟨H.length,0,none⟩) (len+m) (unk+it.size),H++[.cells (old++l) e]):=by
 unfold bD
 simp only[h0,hi,hz,hn]
 rw[if_pos ⟨hzs,hs,ho⟩]
 rw[if_pos ⟨hb,hb2⟩,if_neg (by omega),if_pos hc,if_neg (by omega),if_pos hlen,hold]
 rfl
theorem lT(h0:ts[0]?.bind P.underlying=some (.slice e))(hi:P.info? e=some it)(hz:it.zero=some z)(hzs:z.cells.size=it.size)(hs:0<it.size)(hn:aC P H it ts[1]? x=some (m,l))(ho:l.all one=true){n len:Nat}{cont:List Value}(hb:(len+m)*it.bytes<=140737488355328)(hb2:len+m<=9223372036854775807)(hat:at_ H n= .cells cont e)(hl:cont.length=len*it.size):
 bD P H ts (.slice (some ⟨n,0,none⟩) len (unk+it.size)) x=some (.slice (some ⟨H.length,0,none⟩) (len+m) (unk+it.size),H.set n .dead++[.cells (cont++l) e]):=by
 unfold bD
 simp only[h0,hi,hz,hn]
 rw[if_pos ⟨hzs,hs,ho⟩]
 rw[if_pos ⟨hb,hb2⟩,if_pos trivial,hat]
 simp only[hl,and_self,if_true]
theorem lA(h0:ts[0]?.bind P.underlying=some (.slice e))(hi:P.info? e=some it)(hz:it.zero=some z)(hzs:z.cells.size=it.size)(hs:0<it.size)(hn:aC P H it ts[1]? x=some (m,l))(ho:l.all one=true)(hm:m≠0)(hb:m*it.bytes<=140737488355328)(hb2:m<=9223372036854775807):
 bD P H ts (.slice none 0 0) x=some (.slice (some ⟨H.length,0,none⟩) m (unk+it.size),H++[.cells l e]):=by
 unfold bD
 simp only[h0,hi,hz,hn]
 rw[if_pos ⟨hzs,hs,ho⟩]
 rw[if_neg hm,if_pos ⟨hb,hb2⟩]
theorem oH(h0:ts[0]?.bind P.underlying=some (.slice e))(hi:P.info? e=some it)(hz:it.zero=some z)(hzs:z.cells.size=it.size)(hs:0<it.size)(hn:aC P H it ts[1]? x=some (0,[])){n i c:Nat}{cont:List Value}{e':TypeId}(hc:c<unk)(hat:at_ H n= .cells cont e')(hi0:i<=cont.length):
 bD P H ts (.slice (some ⟨n,i,none⟩) 0 c) x=some (.slice (some ⟨n,i,none⟩) 0 c,H.set n (.cells cont e')):=by
 unfold bD
 simp only[h0,hi,hz,hn]
 rw[if_pos ⟨hzs,hs,rfl⟩]
 rw[if_pos ⟨by omega,by omega⟩,if_neg (by omega),if_pos hc,if_pos (by omega),hat]
 simp only[setAll]
 rw[if_pos (by omega)]
theorem lJ{d:TypeDesc}{t:TypeId}(hu:P.underlying t=some d)(hd: ∀k,d≠ .int k){n i k c:Nat}{cs:List Value}(hr:ak H n i (k*it.size)=some cs):
 aC P H it (some t) (.slice (some ⟨n,i,none⟩) k c)=some (k,cs):=by
 unfold aC
 simp only[Option.bind_some,hu]
 cases d<;>first|exact absurd rfl (hd _)|simp only[hr,Option.map_some]
end
theorem Bel.sl{k n i len c:Nat}(h:n<k):Bel k (.slice (some ⟨n,i,none⟩) len c):=by
 intro σ v' hv
 cases hv with
 |sl hn hc=>exact .sl (bG.2 ⟨h,hn⟩) hc
theorem bC.plain{k:Nat}{c:List Value}{e:TypeId}(h:c.all Ev.plain=true):bC k (.cells c e):=by
 intro σ w x ho
 obtain⟨g0,cs,g1,g2,g3,g4⟩:=ho
 exact⟨g0,cs,g1,g2,g3,fun i v v' a b=>Bel.plain (EI.1 h v (EE a)) _ _ (g4 i v v' a b)⟩
def dS:AO->Bool
 | .cells c _=>c.all Ev.plain
 | .ro c=>c.all Ev.plain
 | .map es=>es.all fun p=>Ev.plain p.2
 | .loop .. =>false
 | .dead=>true
theorem cQ{o:AO}(h:dS o=true)(k:Nat):bC k o:=by
 cases o with
 |cells c e=>exact bC.plain h
 |ro c=>
  intro σ w x ho i v hi
  obtain⟨v',h1,h2⟩:=ho i v hi
  exact⟨v',h1,Bel.plain (EI.1 h v (EE hi)) _ _ h2⟩
 |map es=>
  intro σ w x ho
  obtain⟨g0,ents,g1,g2,g3⟩:=ho
  refine⟨g0,ents,g1,g2,fun i a v e p q=> ?_⟩
  obtain⟨q1,q2,q3⟩:=g3 i a v e p q
  exact⟨q1,Bel.plain (EI.1 h (a,v) (EE p)) _ _ q2,q3⟩
 |loop=>cases h
 |dead=>intro σ w x _;trivial
def cP(G:AH):Prop:=G.all dS=true
theorem cP.nil:cP []:=rfl
theorem cP.app{G G':AH}(h:cP G)(h':cP G'):cP (G++G'):=by unfold cP at*;rw[Hx,h,h'];rfl
theorem cP.set{G:AH}(h:cP G)(i:Nat){o:AO}(ho:dS o=true):cP (G.set i o):=by
 unfold cP at*
 rw[EI]at*
 intro x hx
 rcases List.mem_or_eq_of_mem_set hx with hx|rfl
 ·exact h x hx
 ·exact ho
theorem cP.at{G:AH}(h:cP G)(m:Nat):dS (at_ G m)=true:=by
 unfold at_
 cases hx:G[m]? with
 |none=>rfl
 |some o=>exact EI.1 h o (EE hx)
theorem cP.bel{H G:AH}(h:cP G)(k:Nat): ∀n,n<(H++G).length->(n<H.length/\at_ (H++G) n=at_ H n)\/bC k (at_ (H++G) n):=by
 intro n hn
 by_cases hlt:n<H.length
 ·exact .inl ⟨hlt,ag hlt⟩
 ·refine .inr ?_
  have:n=H.length+(n-H.length):=by omega
  rw[this,aq]
  exact cQ (h.at _) k
theorem Ends.junk{P:Program}{fn:Func}{H G:AH}{a:Env}{v:Value}(h:fg P fn a (H++G)=some v)(hb:Bel (H++G).length v)(hj:cP G):Ends P fn H (.val v (H++G)) .ret a (H++G):=⟨v,_,[],h,rfl,by simp,by simp,hb,hj.bel _⟩
def bA(G:AH)(b:Nat)(e:TypeId)(sz:Nat)(v:Value)(len:Nat)(cont:List Value):Prop:=(v= .slice none 0 0/\len=0/\cont=[])\/ ∃i C,v= .slice (some ⟨b+i,0,none⟩) len C/\i<G.length/\at_ G i= .cells cont e/\cont.length=len*sz/\((C=len/\len<unk)\/C=unk+sz)
theorem bA.more{G:AH}{b:Nat}{e:TypeId}{sz:Nat}{v:Value}{len:Nat}{cont:List Value}(h:bA G b e sz v len cont)(G':AH):bA (G++G') b e sz v len cont:=by
 rcases h with h|⟨i,C,h1,h2,h3,h4⟩
 ·exact .inl h
 ·exact .inr ⟨i,C,h1,by rw[Ez];omega,by rw[ag h2];exact h3,h4⟩
def bA.DJ(b:Nat)(v:Value)(j:Nat):Prop:= ∀len C,v≠ .slice (some ⟨b+j,0,none⟩) len C
theorem bA.set{G:AH}{b:Nat}{e:TypeId}{sz:Nat}{v:Value}{len:Nat}{cont:List Value}(h:bA G b e sz v len cont){j:Nat}(hj:bA.DJ b v j)(o:AO):bA (G.set j o) b e sz v len cont:=by
 rcases h with h|⟨i,C,h1,h2,h3,h4⟩
 ·exact .inl h
 ·refine .inr ⟨i,C,h1,by rw[EA];exact h2,?_,h4⟩
  rw[af (fun e=>hj len C (by rw[e];exact h1))];exact h3
theorem bA.append{P:Program}{H G:AH}{ts:Array TypeId}{e:TypeId}{it:TypeInfo}{z v:Value}{len:Nat}{cont el:List Value}(h0:ts[0]?.bind P.underlying=some (.slice e))(hi:P.info? e=some it)(hz:it.zero=some z)(hzs:z.cells.size=it.size)(hs:0<it.size){d:TypeDesc}{t:TypeId}(h1:ts[1]? =some t)(hu:P.underlying t=some d)(hd: ∀k,d≠ .int k)(hel:el.length=it.size)(ho:el.all one=true)(hb:(len+1)*it.bytes<=140737488355328)(hb2:len+1<=9223372036854775807)(hg:bA G H.length e it.size v len cont):
 ∃v' G',bD P (H++(G++[.cells el e])) ts v (.slice (some ⟨H.length+G.length,0,none⟩) 1 1)=some (v',H++G')/\bA G' H.length e it.size v' (len+1) (cont++el)/\G'.length=G.length+2/\(∀j,j<G.length->bA.DJ H.length v j->at_ G' j=at_ G j)/\(∀j,j<G.length->bA.DJ H.length v' j)/\(cP G->el.all Ev.plain=true->cont.all Ev.plain=true->cP G')/\v'= .slice (some ⟨H.length+(G.length+1),0,none⟩) (len+1) (unk+it.size)/\(el.all Ev.plain=true->cont.all Ev.plain=true-> ∀k,(k<G.length/\at_ G' k=at_ G k)\/dS (at_ G' k)=true):=by
 have hn:aC P (H++(G++[.cells el e])) it ts[1]? (.slice (some ⟨H.length+G.length,0,none⟩) 1 1)=some (1,el):=by
  rw[h1]
  refine lJ hu hd ?_
  rw[aF,<-Nat.add_zero G.length,aF,oQ,if_pos (by omega),Hj,<-hel,F4,Fp]
 have hlen:(H++(G++[AO.cells el e])).length=H.length+(G.length+1):=by simp
 have hother: ∀j,j<G.length->bA.DJ H.length (.slice (some ⟨H.length+(G.length+1),0,none⟩) (len+1) (unk+it.size)) j:=by
  intro j hj l C he
  simp only[Fw,ER,F3]at he
  omega
 have hjunk: ∀G1:AH,cP G1->el.all Ev.plain=true->cont.all Ev.plain=true->cP (G1++[.cells el e,.cells (cont++el) e]):=by
  intro G1 h1 h2 h3
  refine h1.app ?_
  unfold cP
  simp only[List.all_cons,List.all_nil,dS,h2,Hx,h3,Ha,Hn]
 have hlast: ∀G1:AH,G1.length=G.length->(∀k,k<G.length->at_ G1 k=at_ G k\/at_ G1 k= .dead)->el.all Ev.plain=true->cont.all Ev.plain=true-> ∀k,(k<G.length/\at_ (G1++[.cells el e,.cells (cont++el) e]) k=at_ G k)\/dS (at_ (G1++[.cells el e,.cells (cont++el) e]) k)=true:=by
  intro G1 hl1 hsame he hc k
  by_cases hk:k<G.length
  ·rw[ag (by omega)]
   rcases hsame k hk with h|h
   ·exact .inl ⟨hk,h⟩
   ·exact .inr (by rw[h];rfl)
  ·refine .inr ?_
   obtain⟨j,rfl⟩: ∃j,k=G1.length+j:=⟨k-G1.length,by omega⟩
   rw[aq]
   match j with
   | 0=>exact he
   | 1=>show(cont++el).all Ev.plain=true;rw[Hx,hc,he];rfl
   |j+2=>rfl
 rcases hg with ⟨rfl,rfl,rfl⟩|⟨i,C,rfl,h2,h3,h4,h5⟩
 ·have:=lA (P:=P) (H:=H++(G++[.cells el e])) h0 hi hz hzs hs hn ho (by omega) (by omega) (by omega)
  refine⟨_,G++[.cells el e,.cells ([]++el) e],this.trans ?_,.inr ⟨G.length+1,_,rfl,by simp,?_,by simp[hel],.inr rfl⟩,by simp,fun j hj _=>ag hj,?_,hjunk G,?_,hlast G rfl fun _ _=> .inl rfl⟩
  ·rw[hlen,EH,EH];rfl
  ·rw[aq];rfl
  ·exact hother
  ·rfl
 ·rcases h5 with ⟨rfl,h5⟩|rfl
  ·have hold:ak (H++(G++[.cells el e])) (H.length+i) 0 (C*it.size)=some cont:=by
    rw[aF]
    have:at_ (G++[AO.cells el e]) i= .cells cont e:=by rw[ag h2];exact h3
    unfold ak aP
    rw[this]
    simp only[Option.bind_some]
    rw[if_pos (by omega),<-h4,F4,Fp]
   have:=fk (P:=P) (H:=H++(G++[.cells el e])) h0 hi hz hzs hs hn ho hb (by omega) h5 (EJ _) (by omega) hold
   refine⟨_,G++[.cells el e,.cells (cont++el) e],this.trans ?_,.inr ⟨G.length+1,_,rfl,by simp,?_,by rw[Ez,h4,hel,FX,Hj],.inr rfl⟩,by simp,fun j hj _=>ag hj,?_,hjunk G,?_,hlast G rfl fun _ _=> .inl rfl⟩
   ·rw[hlen,EH,EH];rfl
   ·rw[aq];rfl
   ·exact hother
   ·rfl
  ·have hat:at_ (H++(G++[AO.cells el e])) (H.length+i)= .cells cont e:=by rw[aq,ag h2];exact h3
   have:=lT (P:=P) (H:=H++(G++[.cells el e])) h0 hi hz hzs hs hn ho hb (by omega) hat h4
   refine⟨_,G.set i .dead++[.cells el e,.cells (cont++el) e],this.trans ?_,.inr ⟨G.length+1,_,rfl,by simp,?_,by rw[Ez,h4,hel,FX,Hj],.inr rfl⟩,by simp,?_,?_,fun hj=>hjunk _ (hj.set i rfl),?_,hlast _ EA fun k hk=> ?_⟩
   ·rw[hlen,bV,Gq _ _ h2,EH,EH];rfl
   ·have hq:=aq (G.set i AO.dead) [.cells el e,.cells (cont++el) e] 1;rw[EA]at hq;rw[hq];rfl
   ·intro j hj ho
    rw[ag (by rw[EA];exact hj)]
    exact af (fun e=>ho len _ (by rw[e])) _
   ·exact hother
   ·rfl
   ·by_cases e:i=k
    ·subst e;exact .inr (au hk _)
    ·exact .inl (af e _)
structure Xc' where
 P:Program
 n:Nat
 H:AH
def X(k:Xc')(c:Code)(Q:AX->Env->AH->Prop)(a:Env)(H:AH):Prop:= ∃x a' H',Q x a' H'/\ ∀D σ w,HR σ k.H w-> ∀Q':AX->Env->AH->Prop,Q' x a' H'->W ⟨k.P,k.n,D,σ,k.H,w⟩ c Q' a H
def Xl(k:Xc')(ops:Array Oper)(rest:List Oper)(Q:AX->Env->AH->Prop)(a:Env)(H:AH):Prop:= ∃x a' H',Q x a' H'/\ ∀D σ w,HR σ k.H w-> ∀Q':AX->Env->AH->Prop,Q' x a' H'->Wl ⟨k.P,k.n,D,σ,k.H,w⟩ ops rest Q' a H
def Xd(k:Xc')(ops:List Oper)(q:Nat->Bool)(rest:List Oper)(Q:AX->Env->AH->Prop)(a:Env)(H:AH):Prop:= ∃x a' H',Q x a' H'/\ ∀D σ w,HR σ k.H w-> ∀Q':AX->Env->AH->Prop,Q' x a' H'->Dl ⟨k.P,k.n,D,σ,k.H,w⟩ ops q rest Q' a H
section
variable {k:Xc'}{Q:AX->Env->AH->Prop}{a:Env}{H:AH}
theorem X.mono{c:Code}{Q':AX->Env->AH->Prop}(h:X k c Q a H)(hq: ∀x a H,Q x a H->Q' x a H):X k c Q' a H:=by
 obtain⟨x,a',H',q,hw⟩:=h
 exact⟨x,a',H',hq _ _ _ q,hw⟩
theorem X.skip(h:Q .normal a H):X k .skip Q a H:=⟨_,_,_,h,fun _ _ _ _ _ hq=>W.skip hq⟩
theorem X.ret(h:Q .ret a H):X k .ret Q a H:=⟨_,_,_,h,fun _ _ _ _ _ hq=>W.ret hq⟩
theorem X.exit{id:Nat}(h:Q (.exit id) a H):X k (.exit id) Q a H:=⟨_,_,_,h,fun _ _ _ _ _ hq=>W.exit hq⟩
theorem X.seq{x y:Code}(h:X k x (AX.then (X k y Q) Q) a H):X k (.seq x y) Q a H:=by
 obtain⟨x1,a1,H1,q,hw⟩:=h
 cases x1 with
 |normal=>
  obtain⟨x2,a2,H2,q2,hw2⟩:=q
  exact⟨x2,a2,H2,q2,fun D σ w hr Q' hq=>W.seq (hw D σ w hr _ (hw2 D σ w hr Q' hq))⟩
 |exit i=>exact⟨_,a1,H1,q,fun D σ w hr Q' hq=>W.seq (hw D σ w hr _ hq)⟩
 |ret=>exact⟨_,a1,H1,q,fun D σ w hr Q' hq=>W.seq (hw D σ w hr _ hq)⟩
 |panic v=>exact⟨_,a1,H1,q,fun D σ w hr Q' hq=>W.seq (hw D σ w hr _ hq)⟩
theorem X.cond{c:Operand}{x y:Code}{t:Bool}(hc:bq a c= .bool t)(h:X k (if t=true then x else y) Q a H):X k (.cond c x y) Q a H:=by
 obtain⟨x1,a1,H1,q,hw⟩:=h
 exact⟨x1,a1,H1,q,fun D σ w hr Q' hq=>W.cond hc (hw D σ w hr Q' hq)⟩
theorem X.block{id:Nat}{c:Code}(h:X k c (AX.inBlock id Q) a H):X k (.block id c) Q a H:=by
 obtain⟨x1,a1,H1,q,hw⟩:=h
 cases x1 with
 |normal=>exact⟨_,a1,H1,q,fun D σ w hr Q' hq=>W.block (hw D σ w hr _ hq)⟩
 |exit i=>
  simp only[AX.inBlock]at q
  by_cases e:i=id
  ·rw[if_pos e]at q
   refine⟨_,a1,H1,q,fun D σ w hr Q' hq=>W.block (hw D σ w hr _ ?_)⟩
   simp only[AX.inBlock]
   rw[if_pos e];exact hq
  ·rw[if_neg e]at q
   refine⟨_,a1,H1,q,fun D σ w hr Q' hq=>W.block (hw D σ w hr _ ?_)⟩
   simp only[AX.inBlock]
   rw[if_neg e];exact hq
 |ret=>exact⟨_,a1,H1,q,fun D σ w hr Q' hq=>W.block (hw D σ w hr _ hq)⟩
 |panic v=>exact⟨_,a1,H1,q,fun D σ w hr Q' hq=>W.block (hw D σ w hr _ hq)⟩
inductive ug(k:Xc')(c:Code)(x2:AX)(a2:Env)(H2:AH):Nat->Env->AH->Prop
 |last {a:Env} {H:AH}:(∀D σ w,HR σ k.H w-> ∀Q':AX->Env->AH->Prop,Q' x2 a2 H2->W ⟨k.P,k.n,D,σ,k.H,w⟩ c Q' a H)->ug k c x2 a2 H2 0 a H
 |more {m:Nat} {a a1:Env} {H H1:AH}:(∀D σ w,HR σ k.H w-> ∀Q':AX->Env->AH->Prop,Q' .normal a1 H1->W ⟨k.P,k.n,D,σ,k.H,w⟩ c Q' a H)->ug k c x2 a2 H2 m a1 H1->ug k c x2 a2 H2 (m+1) a H
theorem X.loop{c:Code}(I:Nat->Env->AH->Prop)(n:Nat)(h₀:I n a H)(round: ∀n a H,I n a H->X k c (AX.then (fun a' H'=> ∃m,m<n/\I m a' H') Q) a H):X k (.loop c) Q a H:=by
 have key: ∀n a H,I n a H-> ∃x2 a2 H2 r,Q x2 a2 H2/\x2≠ .normal/\ug k c x2 a2 H2 r a H:=by
  intro n
  induction n using Nat.strongRecOn with
  |_ n ih=>
   intro a H hI
   obtain⟨x1,a1,H1,q,hw⟩:=round n a H hI
   cases x1 with
   |normal=>
    obtain⟨m,hm,hI'⟩:=q
    obtain⟨x2,a2,H2,r,q2,hne,hr⟩:=ih m hm a1 H1 hI'
    exact⟨x2,a2,H2,r+1,q2,hne,.more hw hr⟩
   |exit i=>exact⟨_,a1,H1,0,q,by simp,.last hw⟩
   |ret=>exact⟨_,a1,H1,0,q,by simp,.last hw⟩
   |panic v=>exact⟨_,a1,H1,0,q,by simp,.last hw⟩
 obtain⟨x2,a2,H2,r,q2,hne,hr⟩:=key n a H h₀
 refine⟨x2,a2,H2,q2,fun D σ w hh Q' hq=>W.loop (ug k c x2 a2 H2) r hr fun m a H hR=> ?_⟩
 cases hR with
 |last h=>
  refine h D σ w hh _ ?_
  cases x2 with
  |normal=>exact absurd rfl hne
  |exit i=>exact hq
  |ret=>exact hq
  |panic v=>exact hq
 |more h h'=>exact h D σ w hh _ ⟨_,GL _,h'⟩
theorem X.less{c:Code}{a':Env}(hl: ∀t,ae a' t=undef\/ae a' t=ae a t)(h:X k c Q a' H):X k c Q a H:=by
 obtain⟨x1,a1,H1,q,hw⟩:=h
 exact⟨x1,a1,H1,q,fun D σ w hr Q' hq=>W.less hl (hw D σ w hr Q' hq)⟩
section
variable {ops:Array Oper}{rest:List Oper}{o:Oper}
theorem X.region{id:Nat}(h:Xl k ops ops.toList Q a H):X k (.region id ops false) Q a H:=by
 obtain⟨x1,a1,H1,q,hw⟩:=h
 exact⟨x1,a1,H1,q,fun D σ w hr Q' hq=>W.region (hw D σ w hr Q' hq)⟩
theorem Xl.nil(h:Q .normal a H):Xl k ops [] Q a H:=⟨_,_,_,h,fun _ _ _ _ _ hq=>Wl.nil hq⟩
theorem Xl.op{v:Value}{H':AH}(hw:aJ ops a o=some true)(hs:bO k.P a H o.op (.val v H'))(h:Xl k ops rest Q (aB k.n a o.dst v) H'):Xl k ops (o::rest) Q a H:=by
 obtain⟨x1,a1,H1,q,hww⟩:=h
 exact⟨x1,a1,H1,q,fun D σ w hr Q' hq=>Wl.op hw hs (hww D σ w hr Q' hq)⟩
theorem Xl.pan{v:Value}{H':AH}(hw:aJ ops a o=some true)(hs:bO k.P a H o.op (.pan v H'))(h:Q (.panic v) a H'):Xl k ops (o::rest) Q a H:=⟨_,_,_,h,fun _ _ _ _ _ hq=>Wl.pan hw hs hq⟩
theorem Xl.past(hw:aJ ops a o=some false)(h:Xl k ops rest Q (aB k.n a o.dst gone) H):Xl k ops (o::rest) Q a H:=by
 obtain⟨x1,a1,H1,q,hww⟩:=h
 exact⟨x1,a1,H1,q,fun D σ w hr Q' hq=>Wl.past hw (hww D σ w hr Q' hq)⟩
theorem Xl.seg{r r':List Oper}{a':Env}{H':AH}(he:mD k.P k.n ops r (.go a H)=some (r',a',H'))(h:Xl k ops r' Q a' H'):Xl k ops r Q a H:=by
 obtain⟨x1,a1,H1,q,hww⟩:=h
 exact⟨x1,a1,H1,q,fun D σ w hr Q' hq=>Wl.seg he (hww D σ w hr Q' hq)⟩
end
section
variable {ops:List Oper}{q:Nat->Bool}{o:Oper}{r:List Oper}
theorem X.drawnBy{id:Nat}(q:Nat->Bool)(hm:k.P.follows .mixedOrders=true)(hc:kf q ops=true)(h:Xd k ops q ops Q a H):X k (.region id ops.toArray true) Q a H:=by
 obtain⟨x1,a1,H1,q',hw⟩:=h
 exact⟨x1,a1,H1,q',fun D σ w hr Q' hq=>W.drawnBy q hm hc (hw D σ w hr Q' hq)⟩
theorem Xd.nil(h:Q .normal a H):Xd k ops q [] Q a H:=⟨_,_,_,h,fun _ _ _ _ _ hq=>Dl.nil hq⟩
theorem Xd.past(hw:aJ ops.toArray a o=some false)(h:Xd k ops q r Q (aB k.n a o.dst gone) H):Xd k ops q (o::r) Q a H:=by
 obtain⟨x1,a1,H1,q',hww⟩:=h
 exact⟨x1,a1,H1,q',fun D σ w hr Q' hq=>Dl.past hw (hww D σ w hr Q' hq)⟩
theorem Xd.pan{v:Value}{H':AH}(hw:aJ ops.toArray a o=some true)(hs:bO k.P a H o.op (.pan v H'))(hk:(sx q (ops.length-1) o.op).isLoud=true)(h:Q (.panic v) [] H'):Xd k ops q [o] Q a H:=⟨_,_,_,h,fun _ _ _ _ _ hq=>Dl.pan hw hs hk hq⟩
theorem Xd.quiet{v:Value}{aC:AH}(hk:q (ops.length-(r.length+1))=true)(hw:aJ ops.toArray a o=some true)(hs:bO k.P a H o.op (.val v (H++aC)))(h:Xd k ops q r Q (aB k.n a o.dst v) (H++aC)):
 Xd k ops q (o::r) Q a H:=by
 obtain⟨x1,a1,H1,q',hww⟩:=h
 exact⟨x1,a1,H1,q',fun D σ w hr Q' hq=>Dl.quiet hk hw hs (hww D σ w hr Q' hq)⟩
theorem Xd.still{v:Value}(hk:q (ops.length-(r.length+1))=true)(hw:aJ ops.toArray a o=some true)(hs:bO k.P a H o.op (.val v H))(h:Xd k ops q r Q (aB k.n a o.dst v) H):
 Xd k ops q (o::r) Q a H:=by
 obtain⟨x1,a1,H1,q',hww⟩:=h
 exact⟨x1,a1,H1,q',fun D σ w hr Q' hq=>Dl.still hk hw hs (hww D σ w hr Q' hq)⟩
theorem Xd.eff{v:Value}{H':AH}(hk:sx q (ops.length-(r.length+1)) o.op= .eff)(hw:aJ ops.toArray a o=some true)(hs:bO k.P a H o.op (.val v H'))(hl:H.length<=H'.length)(h:Xd k ops q r Q (aB k.n a o.dst v) H'):
 Xd k ops q (o::r) Q a H:=by
 obtain⟨x1,a1,H1,q',hww⟩:=h
 exact⟨x1,a1,H1,q',fun D σ w hr Q' hq=>Dl.eff hk hw hs hl (hww D σ w hr Q' hq)⟩
theorem Xd.seg{r r':List Oper}{a':Env}{H':AH}(he:lj k.P k.n ops.toArray r (.go a H)=some (r',a',H'))(h:Xd k ops q r' Q a' H'):Xd k ops q r Q a H:=by
 obtain⟨x1,a1,H1,q',hww⟩:=h
 exact⟨x1,a1,H1,q',fun D σ w hr Q' hq=>Dl.seg he (hww D σ w hr Q' hq)⟩
end
end
def ACE(P:Program)(f:FuncId)(args:List Value)(H:AH)(R:OpR->Prop):Prop:= ∃r,R r/\AC P f args H r
def ij(P:Program)(fn:Func)(H:AH)(R:OpR->Prop)(x:AX)(a:Env)(H':AH):Prop:= ∃r,R r/\Ends P fn H r x a H'
theorem ACE.of{P:Program}{f:FuncId}{fn:Func}{c:Code}{args:List Value}{H:AH}{R:OpR->Prop}{N:Nat}(hf:P.funcs[f]? =some fn)(hb:fn.body=some c)(hN:fn.ntmps=N)(hn:args.length<=N)(h:X ⟨P,N,H⟩ c (ij P fn H R) (dD 0 args) H):ACE P f args H R:=by
 obtain⟨x,a',H',⟨r,hr,he⟩,hw⟩:=h
 exact⟨r,hr,AC.of hf hb hN hn fun σ w hh=>hw [] σ w hh _ he⟩
end Go.Ev
