import Derived.Test.YtjcomcgpjjianaaA13
set_option linter.all false
set_option maxHeartbeats 16000000
set_option maxRecDepth 8000
open Go.Value renaming int→O
open Go.IntKind renaming i64→U
namespace Go.Ev
def toH(T:Tri AO)(sz:Nat):AH:=(List.range sz).map fun n=>(T.get n).getD .dead
def Hp.H(h:Hp):AH:=toH h.T h.sz
theorem ez(T:Tri AO)(sz:Nat):(toH T sz).length=sz:=by simp[toH]
theorem rj(T:Tri AO)(sz n:Nat):at_ (toH T sz) n=rdT T sz n:=by
 unfold at_ toH rdT
 rw[bH,Tri.tget_eq,EM]
 by_cases h:n<sz
 ·have hb: ¬Nat.ble sz n=true:=fun e=>by have:=EL e;omega
  rw[if_neg hb,EW h]
  simp only[Option.map_some,Option.getD_some]
  cases T.get n<;>rfl
 ·rw[if_pos (FH (by omega)),Fd (by simpa using h)];rfl
theorem rd_at(T:Tri AO)(sz:Nat):rdT T sz=at_ (toH T sz):=by funext n;rw[rj]
theorem ext_at{H H':AH}(hl:H.length=H'.length)(h: ∀n,at_ H n=at_ H' n):H=H':=by
 apply Gx hl
 intro n h1 h2
 have:=h n
 unfold at_ at this
 rw[Ex h1,Ex h2]at this
 exact this
theorem dJ{H:AH}{n:Nat}(h:H.length<=n):at_ H n= .dead:=by unfold at_;rw[Fd h];rfl
theorem toH_push{T T':Tri AO}{sz:Nat}{o:AO}(h:T.tput 40 sz o=some T'):toH T' (sz+1)=toH T sz++[o]:=by
 refine ext_at (by simp[ez]) fun n=> ?_
 by_cases e:n<sz
 ·rw[ag (by rw[ez];exact e)]
  unfold at_ toH
  rw[EM,EM,EW (by omega),EW e]
  simp only[Option.map_some,Option.getD_some]
  rw[Tri.get_tput h,if_neg (by omega)]
 ·by_cases e':n=sz
  ·subst e'
   have:=aL (toH T n) o
   rw[ez]at this
   rw[this]
   unfold at_ toH
   rw[EM,EW (by omega)]
   simp only[Option.map_some,Option.getD_some]
   rw[Tri.get_tput h,if_pos rfl];rfl
  ·rw[dJ (by rw[ez];omega),dJ (by simp[ez];omega)]
theorem toH_set{T T':Tri AO}{sz n:Nat}{o:AO}(h:T.tput 40 n o=some T'):toH T' sz=(toH T sz).set n o:=by
 refine ext_at (by simp[ez]) fun m=> ?_
 by_cases e:m<sz
 ·have h1:at_ (toH T' sz) m=(T'.get m).getD .dead:=by
   unfold at_ toH;rw[EM,EW e];rfl
  rw[h1,Tri.get_tput h]
  by_cases e':m=n
  ·subst e'
   rw[if_pos rfl,au (by rw[ez];exact e)];rfl
  ·rw[if_neg e',af (Fg e')]
   unfold at_ toH;rw[EM,EW e];rfl
 ·rw[dJ (by rw[ez];omega),dJ (by simp[ez];omega)]
structure KpL(lo:Nat)(H₀ H:AH):Prop where
 len:H₀.length<=H.length
 same: ∀n,n<H₀.length->n<lo->at_ H n=at_ H₀ n
structure KpW(ws:List Nat)(H₀ H:AH):Prop where
 len:H₀.length<=H.length
 same: ∀n,n<H₀.length->n∉ws->at_ H n=at_ H₀ n
theorem KpL.refl(lo:Nat)(H:AH):KpL lo H H:=⟨EJ _,fun _ _ _=>rfl⟩
theorem KpW.refl(ws:List Nat)(H:AH):KpW ws H H:=⟨EJ _,fun _ _ _=>rfl⟩
structure Gr(h h':Hp):Prop where
 low: ∀H₀,KpL h.low H₀ h.H->KpL h'.low H₀ h'.H
 ws: ∀H₀,KpW h.ws H₀ h.H->KpW h'.ws H₀ h'.H
theorem Gr.refl(h:Hp):Gr h h:=⟨fun _ h=>h,fun _ h=>h⟩
theorem Gr.trans{a b c:Hp}(h:Gr a b)(k:Gr b c):Gr a c:=⟨fun H₀ x=>k.low H₀ (h.low H₀ x),fun H₀ x=>k.ws H₀ (h.ws H₀ x)⟩
theorem xh(a b:Nat):minN a b=min a b:=by
 unfold minN
 rw[bH]
 split
 ·rename_i h;have:=EL h;omega
 ·rename_i h
  have: ¬a<=b:=fun e=>h (FH e)
  omega
theorem mP{T:Tri AO}{sz low:Nat}{ws:List Nat}{o:AO}{h:Hp}(e:mG T sz low ws o=some h):h.H=toH T sz++[o]/\h.sz=sz+1/\h.low=low/\h.ws=ws:=by
 unfold mG at e
 rw[aH]at e
 obtain⟨T',h1,e⟩:=e
 rw[iD]at e
 cases e
 exact⟨toH_push h1,rfl,rfl,rfl⟩
theorem nS{T:Tri AO}{sz low n:Nat}{ws:List Nat}{o:AO}{h:Hp}(e:setT T sz low ws n o=some h):h.H=(toH T sz).set n o/\h.sz=sz/\h.low=min n low/\h.ws=n::ws:=by
 unfold setT at e
 rw[aH]at e
 obtain⟨T',h1,e⟩:=e
 rw[iD]at e
 cases e
 exact⟨toH_set h1,rfl,xh _ _,rfl⟩
theorem qt{T:Tri AO}{sz low:Nat}{ws:List Nat}{o:AO}{h:Hp}(e:mG T sz low ws o=some h):Gr ⟨T,sz,low,ws⟩ h:=by
 obtain⟨h1,h2,h3,h4⟩:=mP e
 refine⟨fun H₀ k=> ?_,fun H₀ k=> ?_⟩
 ·rw[h1,h3]
  have k:KpL low H₀ (toH T sz):=k
  exact⟨by have:=k.len;simp;omega,fun n hn hl=>by rw[ag (EV hn k.len)];exact k.same n hn hl⟩
 ·rw[h1,h4]
  have k:KpW ws H₀ (toH T sz):=k
  exact⟨by have:=k.len;simp;omega,fun n hn hl=>by rw[ag (EV hn k.len)];exact k.same n hn hl⟩
theorem uU{T:Tri AO}{sz low n:Nat}{ws:List Nat}{o:AO}{h:Hp}(e:setT T sz low ws n o=some h):Gr ⟨T,sz,low,ws⟩ h:=by
 obtain⟨h1,h2,h3,h4⟩:=nS e
 refine⟨fun H₀ k=> ?_,fun H₀ k=> ?_⟩
 ·rw[h1,h3]
  have k:KpL low H₀ (toH T sz):=k
  exact⟨by have:=k.len;simpa using this,fun m hm hl=>by rw[af (by omega)];exact k.same m hm (by omega)⟩
 ·rw[h1,h4]
  have k:KpW ws H₀ (toH T sz):=k
  refine⟨by have:=k.len;simpa using this,fun m hm hl=> ?_⟩
  simp only[EG,not_or]at hl
  rw[af (Fg hl.1)];exact k.same m hm hl.2
theorem xQ{fx:Fx}{h h':Hp}(e:doFx fx h=some h'):h'.H=fx.apply h.H/\Gr h h'/\(∀n,n<h.H.length->(wrOf fx).leaves n=true->at_ h'.H n=at_ h.H n)/\h.H.length<=h'.H.length/\(∀a b,(wrOf fx).leavesR a b=true-> ∀n,a<=n->n<b->n<h.H.length->at_ h'.H n=at_ h.H n):=by
 obtain⟨T,sz,low,ws⟩:=h
 cases fx with
 |none=>
  cases e
  exact⟨rfl,Gr.refl _,fun _ _ _=>rfl,EJ _,fun _ _ _ _ _ _ _=>rfl⟩
 |push o=>
  have e:mG T sz low ws o=some h':=e
  obtain⟨h1,_⟩:=mP e
  refine⟨h1,qt e,fun n hn _=> ?_,?_,fun a b _ n _ _ hn=> ?_⟩
  ·rw[h1];exact ag hn
  ·rw[h1];show(toH T sz).length<=_;simp
  ·rw[h1];exact ag hn
 |set n o=>
  have e:setT T sz low ws n o=some h':=e
  obtain⟨h1,_⟩:=nS e
  refine⟨h1,uU e,fun m hm hl=> ?_,?_,fun a b hl m ha hb hn=> ?_⟩
  ·have hl:(!(Nat.beq m n))=true:=hl
   have hne:m≠n:=fun e=>by subst e;simp at hl
   rw[h1];exact af (Fg hne) o
  ·rw[h1];show(toH T sz).length<=_;simp
  ·have hl:(Nat.blt n a||Nat.ble b n)=true:=hl
   have hne:m≠n:=by
    rintro rfl
    rcases Bool.or_eq_true_iff.1 hl with h|h
    ·have:=EL h;omega
    ·have:=EL h;omega
   rw[h1];exact af (Fg hne) o
 |setPush n o o'=>
  have e:(ob (setT T sz low ws n o) fun h=>Hp.rec (motive:=fun _=>Option Hp) (fun T sz low ws=>mG T sz low ws o') h)=some h':=e
  rw[aH]at e
  obtain⟨⟨T1,sz1,low1,ws1⟩,e1,e2⟩:=e
  have e2:mG T1 sz1 low1 ws1 o'=some h':=e2
  obtain⟨h1,_⟩:=nS e1
  obtain⟨h2,_⟩:=mP e2
  have h1:toH T1 sz1=(toH T sz).set n o:=h1
  have hlen:(toH T1 sz1).length=(toH T sz).length:=by rw[h1];simp
  refine⟨by rw[h2,h1];rfl,(uU e1).trans (qt e2),fun m hm hl=> ?_,?_,fun a b hl m ha hb hn=> ?_⟩
  ·have hl:(!(Nat.beq m n))=true:=hl
   have hne:m≠n:=fun e=>by subst e;simp at hl
   have hm:m<(toH T sz).length:=hm
   rw[h2,ag (by omega),h1];exact af (Fg hne) o
  ·rw[h2];show(toH T sz).length<=_;simp;omega
  ·have hl:(Nat.blt n a||Nat.ble b n)=true:=hl
   have hne:m≠n:=by
    rintro rfl
    rcases Bool.or_eq_true_iff.1 hl with h|h
    ·have:=EL h;omega
    ·have:=EL h;omega
   have hn:m<(toH T sz).length:=hn
   rw[h2,ag (by omega),h1];exact af (Fg hne) o
theorem wc(E:Tri Value)(t:Nat):gE E t=(E.get t).getD undef:=by
 unfold gE;rw[Tri.tget_eq];cases E.get t<;>rfl
def eY(E:Tri Value)(a:Env):Prop:= ∀t,ae a t=gE E t
def cZ(E:Tri Value)(a:Env):Prop:= ∀t,gE E t=undef\/gE E t=ae a t
theorem eY.less{E:Tri Value}{a:Env}(h:eY E a):cZ E a:=fun t=> .inr (h t).symm
theorem Au(f:Nat->Value)(N t:Nat):ae ((List.range N).map fun i=>(i,f i)) t=if t<N then f t else undef:=by
 have key: ∀(l:List Nat),ae (l.map fun i=>(i,f i)) t=if t∈l then f t else undef:=by
  intro l
  induction l with
  |nil=>rfl
  |cons i l ih=>
   simp only[Fv,ae]
   by_cases e:i=t
   ·subst e;simp
   ·rw[if_neg e,ih]
    by_cases h:t∈l
    ·rw[if_pos h,if_pos (by simp[h])]
    ·rw[if_neg h,if_neg (by simp[h,Fg e])]
 rw[key]
 simp
theorem jI(E:Tri Value): ∃a,eY E a:=by
 obtain⟨N,hN⟩:=E.bound
 refine⟨(List.range N).map fun i=>(i,gE E i),fun t=> ?_⟩
 rw[Au]
 split
 ·rfl
 ·rename_i h
  rw[wc,hN t (by omega)];rfl
theorem jZ{E E':Tri Value}{d:Nat}{v:Value}(h:E.tput 40 d v=some E')(t:Nat):gE E' t=if t=d then v else gE E t:=by
 rw[wc,wc,Tri.get_tput h]
 split<;>rfl
theorem iP{n:Nat}{E E':Tri Value}{dst:Option Tmp}{v:Value}(h:og n E dst v=some E'){a:Env}(ha:eY E a):eY E' (aB n a dst v):=by
 cases dst with
 |none=>cases h;exact ha
 |some d=>
  have h:bb (Nat.ble n d) (some E) (E.tput 40 d v)=some E':=h
  rw[bH]at h
  simp only[aB]
  split at h
  ·rename_i hd
   cases h
   have hd:=EL hd
   have hnd: ¬d<n:=Nat.not_lt.2 hd
   rw[if_neg hnd];exact ha
  ·rename_i hd
   have hd:d<n:=by
    rcases FZ d n with h|h
    ·exact h
    ·exact absurd (FH h) hd
   rw[if_pos hd]
   intro t
   rw[jZ h]
   simp only[ae]
   by_cases e:d=t
   ·rw[if_pos e,if_pos e.symm]
   ·rw[if_neg e,if_neg (Fg e)];exact ha t
theorem fJ{n:Nat}{E E':Tri Value}{dst:Option Tmp}{v:Value}(h:og n E dst v=some E'){t:Nat}(ht:dst≠some t):gE E' t=gE E t:=by
 cases dst with
 |none=>cases h;rfl
 |some d=>
  have h:bb (Nat.ble n d) (some E) (E.tput 40 d v)=some E':=h
  rw[bH]at h
  split at h
  ·cases h;rfl
  ·rw[jZ h,if_neg (fun e=>ht (by rw[e]))]
theorem gS{E:Tri Value}{a:Env}(h:eY E a):sy (gE E)=bq a:=by
 funext x
 cases x with
 |tmp t=>exact(h t).symm
 |_=>rfl
def OpR.of(pn:Bool)(v:Value)(H:AH):OpR:=if pn=true then .pan v H else .val v H
def fH(P:Program)(call:dZ):Prop:= ∀f args T sz pn v h,call f args T sz=some ⟨pn,v,h⟩->aO P f/\AC P f args (toH T sz) (OpR.of pn v h.H)/\KpL h.low (toH T sz) h.H/\KpW h.ws (toH T sz) h.H
theorem zg{P:Program}{T:Tri AO}{sz:Nat}{E:Tri Value}{a:Env}(ha:eY E a){op:Op}{v:Value}{fx:Fx}(h:kOp op P (rdT T sz) sz (gE E)=some (v,fx)):
 cH P noC (toH T sz) (bq a) op=some (.val v (fx.apply (toH T sz))):=by
 have h1:=kOp_ok h
 rw[rd_at,gS ha]at h1
 have h2:eT P (at_ (toH T sz)) (toH T sz).length (bq a) op=some (v,fx):=by rw[ez];exact h1
 exact evOpR_ok h2
structure LJ(P:Program)(n:Nat)(ops:Array Oper)(yl:gB)(J:List Oper->Env->AH->Prop)(Qp:Value->Env->AH->Prop):Prop where
 op: ∀{o r a H v H'},aJ ops a o=some true->bO P a H o.op (.val v H')->J r (aB n a o.dst v) H'->J (o::r) a H
 pan: ∀{o r a H v H'},aJ ops a o=some true->bO P a H o.op (.pan v H')->Qp v a H'->J (o::r) a H
 past: ∀{o r a H},aJ ops a o=some false->J r (aB n a o.dst gone) H->J (o::r) a H
 yl: ∀{h nl args b h'},yl h nl args=some (b,h')->Gr h h'/\ ∀{o c f r a},aJ ops a o=some true->o.op= .call c->c.callee= .value f->bq a f= .chan (some nl)->args=c.args.toList.map (bq a)->J r (aB n a o.dst (.bool b)) h'.H->J (o::r) a h.H
def EndJ(J:List Oper->Env->AH->Prop)(Qp:Value->Env->AH->Prop)(tail:List Oper)(x:AX)(E:Tri Value)(H:AH):Prop:=match x with
 | .normal=> ∀a,eY E a->J tail a H
 | .panic v=> ∀a,eY E a->Qp v a H
 |_=>True
theorem qk{n:Nat}{dst:Option Tmp}{ih:Tri Value->Hp->Option Rn3}{E:Tri Value}{k:Kd}{w:Wr}{z:Nat}{v:Value}{h:Hp}{r:Rn3}(e:pN n dst ih E k w z v h=some r):
 ∃E1 r',og n E dst v=some E1/\ih E1 h=some r'/\r=⟨⟨k,w,z⟩::r'.tr,r'.x,r'.E,r'.h⟩:=by
 unfold pN at e
 simp only[aH]at e
 obtain⟨E1,h1,r',h2,h3⟩:=e
 cases h3
 exact⟨E1,r',h1,h2,rfl⟩
theorem qa(a b:List Nat):et a b=a++b:=by
 induction a with
 |nil=>rfl
 |cons x a ih=>show x::et a b=_;rw[ih];rfl
theorem BZ{T T':Tri AO}{sz sz' low low' l:Nat}{ws ws':List Nat}(hl:l=min low' low)(h1:KpL low' (toH T sz) (toH T' sz'))(h2:KpW ws' (toH T sz) (toH T' sz')):Gr ⟨T,sz,low,ws⟩ ⟨T',sz',l,et ws' ws⟩:=by
 refine⟨fun H₀ k=> ?_,fun H₀ k=> ?_⟩
 ·have k:KpL low H₀ (toH T sz):=k
  exact⟨Fz k.len h1.len,fun n hn hlt=>by
   have hlt:n<l:=hlt
   show at_ (toH T' sz') n=_
   rw[h1.same n (EV hn k.len) (by omega)];exact k.same n hn (by omega)⟩
 ·have k:KpW ws H₀ (toH T sz):=k
  refine⟨Fz k.len h1.len,fun n hn hlt=> ?_⟩
  have hlt:n∉et ws' ws:=hlt
  rw[qa,EY,not_or]at hlt
  show at_ (toH T' sz') n=_
  rw[h2.same n (EV hn k.len) hlt.1];exact k.same n hn hlt.2
inductive OneR(P:Program)(yl:gB)(n:Nat)(ops:Array Oper)(o:Oper)(ih:Tri Value->Hp->Option Rn3)(E:Tri Value)(h:Hp)(r:Rn3):Prop
 |past (hw:awL ops (gE E) o.guard=some false) (E1:Tri Value) (r':Rn3) (hp:og n E o.dst gone=some E1) (hr:ih E1 h=some r') (e:r=⟨⟨.still,.no,h.sz⟩::r'.tr,r'.x,r'.E,r'.h⟩)
 |gen (hw:awL ops (gE E) o.guard=some true) (v:Value) (fx:Fx) (hk:kOp o.op P (rdT h.T h.sz) h.sz (gE E)=some (v,fx)) (h1:Hp) (hf:doFx fx h=some h1) (E1:Tri Value) (r':Rn3) (hp:og n E o.dst v=some E1) (hr:ih E1 h1=some r')
  (e:r=⟨⟨kdD (gE E) o.op fx,wrOf fx,h.sz⟩::r'.tr,r'.x,r'.E,r'.h⟩)
 |call (hw:awL ops (gE E) o.guard=some true) (v:Value) (h1:Hp) (hs: ∀a,eY E a->bO P a h.H o.op (.val v h1.H)) (hg:Gr h h1) (k:Kd) (w:Wr)
  (hk:(k= .loud/\w= .no/\ ∃aC,h1.H=h.H++aC)\/(k= .eff/\ ∃lo,w= .from lo/\KpL lo h.H h1.H)) (E1:Tri Value) (r':Rn3) (hp:og n E o.dst v=some E1) (hr:ih E1 h1=some r')
  (e:r=⟨⟨k,w,h.sz⟩::r'.tr,r'.x,r'.E,r'.h⟩)
 |pan (hw:awL ops (gE E) o.guard=some true) (v:Value) (h1:Hp) (hs: ∀a,eY E a->bO P a h.H o.op (.pan v h1.H)) (hg:Gr h h1) (e:r=⟨[⟨.eff,.from 0,h.sz⟩],.panic v,E,h1⟩)
 |yield (hw:awL ops (gE E) o.guard=some true) (c:Call) (f:Operand) (ho:o.op= .call c) (hc:c.callee= .value f) (nl:Nat) (hf:sy (gE E) f= .chan (some nl)) (b:Bool) (h1:Hp)
  (hy:yl h nl (c.args.toList.map (sy (gE E)))=some (b,h1)) (E1:Tri Value) (r':Rn3) (hp:og n E o.dst (.bool b)=some E1) (hr:ih E1 h1=some r') (e: ∃t,r=⟨t::r'.tr,r'.x,r'.E,r'.h⟩)
theorem BJ{P:Program}{yl:gB}{n:Nat}{ops:Array Oper}{o:Oper}{ih:Tri Value->Hp->Option Rn3}{E:Tri Value}{h:Hp}{r:Rn3}(hw:awL ops (gE E) o.guard=some true)(e:runG P n o ih E h=some r):OneR P yl n ops o ih E h r:=by
 obtain⟨T,sz,low,ws⟩:=h
 have e:(ob (kOp o.op P (rdT T sz) sz (gE E)) fun r=>Prod.rec (motive:=fun _=>Option Rn3) (fun v fx=>ob (doFx fx ⟨T,sz,low,ws⟩) fun h=>pN n o.dst ih E (kdD (gE E) o.op fx) (wrOf fx) sz v h) r)=some r:=e
 rw[aH]at e
 obtain⟨⟨v,fx⟩,h1,e⟩:=e
 have e:(ob (doFx fx ⟨T,sz,low,ws⟩) fun h=>pN n o.dst ih E (kdD (gE E) o.op fx) (wrOf fx) sz v h)=some r:=e
 rw[aH]at e
 obtain⟨h2,h3,e⟩:=e
 obtain⟨E1,r',q1,q2,q3⟩:=qk e
 exact .gen hw v fx h1 h2 h3 E1 r' q1 q2 q3
theorem sU{P:Program}{call:dZ}(hcall:fH P call){yl:gB}{n:Nat}{ops:Array Oper}{o:Oper}{ih:Tri Value->Hp->Option Rn3}{E:Tri Value}{h:Hp}{r:Rn3}(e:runO P call yl n ops o ih E h=some r):
 OneR P yl n ops o ih E h r:=by
 unfold runO at e
 rw[aH]at e
 obtain⟨w,hw,e⟩:=e
 rw[bH]at e
 split at e
 ·rename_i hwt
  subst hwt
  cases hc:opC o.op with
  |none=>
   rw[hc,cc]at e
   cases hp:opP o.op with
   |none=>rw[hp,cc]at e;exact BJ hw e
   |some x=>
    rw[hp,bX]at e
    obtain⟨h1,h2⟩:=bh e
    obtain⟨t,u,h3⟩:=CP h1
    cases h2
    refine .pan hw _ h (fun a ha=> ?_) (Gr.refl _) rfl
    rw[opP_eq hp]
    rw[cO]at h3
    rw[cO,gS ha]at*
    exact bO.ev (by simp only[cH,h3])
  |some c=>
   rw[hc,bX]at e
   have hop:=opC_eq hc
   cases hf:ceF c.callee with
   |none=>rw[hf,cc]at e;exact BJ hw e
   |some f=>
    rw[hf,bX]at e
    have hcf:=ceF_eq hf
    unfold runK at e
    rw[aH]at e
    obtain⟨args,hargs,e⟩:=e
    have hargs:=yC hargs
    cases hv:vFun (aX (gE E) f)with
    |some gfc=>
     obtain⟨g,first,cap⟩:=gfc
     obtain⟨T,sz,low,ws⟩:=h
     rw[hv,bX]at e
     have e:(ob (call g (sB (sB first args) cap) T sz) fun r=>eM.rec (motive:=fun _=>Option Rn3) (fun pn v h'=>Hp.rec (motive:=fun _=>Option Rn3) (fun T' sz' low' ws'=>
      nn (minN low' low) fun l=>bb pn (some ⟨[⟨.eff,.from 0,sz⟩],.panic v,E,⟨T',sz',l,et ws' ws⟩⟩)
       (bb (Nat.ble sz low') (pN n o.dst ih E .loud .no sz v ⟨T',sz',l,et ws' ws⟩) (pN n o.dst ih E .eff (.from low') sz v ⟨T',sz',l,et ws' ws⟩))) h') r)=some r:=e
     rw[aH]at e
     obtain⟨⟨pn,v,⟨T',sz',low',ws'⟩⟩,hcl,e⟩:=e
     have e:(nn (minN low' low) fun l=>bb pn (some (⟨[⟨.eff,.from 0,sz⟩],.panic v,E,⟨T',sz',l,et ws' ws⟩⟩:Rn3))
      (bb (Nat.ble sz low') (pN n o.dst ih E .loud .no sz v ⟨T',sz',l,et ws' ws⟩) (pN n o.dst ih E .eff (.from low') sz v ⟨T',sz',l,et ws' ws⟩)))=some r:=e
     rw[iD,xh]at e
     obtain⟨hb,hac,hkl,hkw⟩:=hcall _ _ _ _ _ _ _ hcl
     have hkl:KpL low' (toH T sz) (toH T' sz'):=hkl
     have hkw:KpW ws' (toH T sz) (toH T' sz'):=hkw
     have hgr:=BZ (low:=low) (ws:=ws) rfl hkl hkw
     rw[sM,sM]at hac
     have hstep: ∀a,eY E a->bO P a (toH T sz) o.op (OpR.of pn v (toH T' sz')):=by
      intro a ha
      rw[hop]
      have hfv:=BI hv
      rw[cO,gS ha]at hfv
      rw[hargs,gS ha]at hac
      exact bO.call hcf hfv hb hac
     rw[bH]at e
     cases pn with
     |true=>
      rw[if_pos rfl]at e
      cases e
      simp only[OpR.of,if_true]at hstep
      exact .pan hw v ⟨T',sz',min low' low,et ws' ws⟩ hstep hgr rfl
     |false=>
      simp only[OpR.of,EO,if_false]at hstep
      rw[if_neg (by simp),bH]at e
      split at e
      ·rename_i hle
       have hle:=EL hle
       obtain⟨E1,r',q1,q2,q3⟩:=qk e
       refine .call hw v ⟨T',sz',min low' low,et ws' ws⟩ hstep hgr .loud .no (.inl ⟨rfl,rfl,(toH T' sz').drop (toH T sz).length,?_⟩) E1 r' q1 q2 q3
       show toH T' sz'=toH T sz++_
       have hpre:(toH T' sz').take (toH T sz).length=toH T sz:=by
        refine ext_at (by rw[GN];have:=hkl.len;omega) fun m=> ?_
        by_cases hm:m<(toH T sz).length
        ·have h1:at_ ((toH T' sz').take (toH T sz).length) m=at_ (toH T' sz') m:=by unfold at_;rw[GC,if_pos hm]
         rw[h1,hkl.same m hm (by rw[ez]at hm;exact EV hm hle)]
        ·rw[dJ (by rw[GN];omega),dJ (by omega)]
       conv=>lhs;rw[<-Hd (toH T sz).length (toH T' sz'),hpre]
      ·obtain⟨E1,r',q1,q2,q3⟩:=qk e
       exact .call hw v ⟨T',sz',min low' low,et ws' ws⟩ hstep hgr .eff (.from low') (.inr ⟨rfl,low',rfl,hkl⟩) E1 r' q1 q2 q3
    |none=>
     rw[hv,cc]at e
     simp only[aH]at e
     obtain⟨nl,hnl,⟨b,h1⟩,hy,e⟩:=e
     have e:pN n o.dst ih E .eff (.from 0) 0 (.bool b) h1=some r:=e
     obtain⟨E1,r',q1,q2,q3⟩:=qk e
     have hnl:=Ch hnl
     rw[cO]at hnl
     rw[hargs]at hy
     exact .yield hw c f hop hcf nl hnl b h1 hy E1 r' q1 q2 ⟨_,q3⟩
 ·rename_i hwf
  have hwf:w=false:=by cases w<;>simp_all
  subst hwf
  obtain⟨E1,r',q1,q2,q3⟩:=qk e
  exact .past hw E1 r' q1 q2 q3
theorem fS{P:Program}{call:dZ}(hcall:fH P call){yl:gB}{n:Nat}{ops:Array Oper}{J:List Oper->Env->AH->Prop}{Qp:Value->Env->AH->Prop}(hj:LJ P n ops yl J Qp): ∀(l:List Oper) (E:Tri Value) (h:Hp) (r:Rn3),qC P call yl n ops l E h=some r->Gr h r.h/\ ∀tail a,eY E a->EndJ J Qp tail r.x r.E r.h.H->J (l++tail) a h.H
 | [],E,h,r,e=>by cases e;exact⟨Gr.refl _,fun tail a ha hq=>hq a ha⟩
 |o::l,E,h,r,e=>by
  have e:runO P call yl n ops o (qC P call yl n ops l) E h=some r:=e
  have one:=sU hcall e
  cases one with
  |past hw E1 r' hp hr e=>
   obtain⟨g,q⟩:=fS hcall hj l E1 h r' hr
   subst e
   exact⟨g,fun tail a ha hq=>hj.past (lP (fun t=>ha t) hw) (q tail _ (iP hp ha) hq)⟩
  |gen hw v fx hk h1 hf E1 r' hp hr e=>
   obtain⟨g,q⟩:=fS hcall hj l E1 h1 r' hr
   obtain⟨d1,d2,_⟩:=xQ hf
   subst e
   refine⟨d2.trans g,fun tail a ha hq=>hj.op (lP (fun t=>ha t) hw) (bO.ev (zg ha hk)) ?_⟩
   have:=q tail _ (iP hp ha) hq
   rw[d1]at this
   exact this
  |call hw v h1 hs hg k w hk E1 r' hp hr e=>
   obtain⟨g,q⟩:=fS hcall hj l E1 h1 r' hr
   subst e
   exact⟨hg.trans g,fun tail a ha hq=>hj.op (lP (fun t=>ha t) hw) (hs a ha) (q tail _ (iP hp ha) hq)⟩
  |pan hw v h1 hs hg e=>
   subst e
   exact⟨hg,fun tail a ha hq=>hj.pan (lP (fun t=>ha t) hw) (hs a ha) (hq a ha)⟩
  |yield hw c f ho hc nl hf b h1 hy E1 r' hp hr e=>
   obtain⟨g,q⟩:=fS hcall hj l E1 h1 r' hr
   obtain⟨t,e⟩:=e
   subst e
   obtain⟨y1,y2⟩:=hj.yl hy
   refine⟨y1.trans g,fun tail a ha hq=>y2 (lP (fun t=>ha t) hw) ho hc (by rw[<-gS ha];exact hf) (by rw[gS ha]) (q tail _ (iP hp ha) hq)⟩
theorem fM{P:Program}{call:dZ}(hcall:fH P call){yl:gB}{n:Nat}{ops:Array Oper}: ∀(l:List Oper) (E:Tri Value) (h:Hp) (r:Rn3),qC P call yl n ops l E h=some r-> ∀t,t∉fU l->gE r.E t=gE E t
 | [],E,h,r,e,t,_=>by cases e;rfl
 |o::l,E,h,r,e,t,ht=>by
  have e:runO P call yl n ops o (qC P call yl n ops l) E h=some r:=e
  have ht1:o.dst≠some t:=by
   intro hd;apply ht
   simp only[fU,FB]
   exact⟨o,by simp,hd⟩
  have ht2:t∉fU l:=by
   intro hd;apply ht
   simp only[fU,FB]at hd⊢
   obtain⟨p,hp,hq⟩:=hd
   exact⟨p,by simp[hp],hq⟩
  have one:=sU hcall e
  cases one with
  |past hw E1 r' hp hr e=>subst e;rw[show gE r'.E t=_ from fM hcall l E1 h r' hr t ht2,fJ hp ht1]
  |gen hw v fx hk h1 hf E1 r' hp hr e=>subst e;rw[show gE r'.E t=_ from fM hcall l E1 h1 r' hr t ht2,fJ hp ht1]
  |call hw v h1 hs hg k w hk E1 r' hp hr e=>subst e;rw[show gE r'.E t=_ from fM hcall l E1 h1 r' hr t ht2,fJ hp ht1]
  |pan hw v h1 hs hg e=>subst e;rfl
  |yield hw c f ho hc nl hf b h1 hy E1 r' hp hr e=>obtain⟨u,e⟩:=e;subst e;rw[show gE r'.E t=_ from fM hcall l E1 h1 r' hr t ht2,fJ hp ht1]
end Go.Ev
