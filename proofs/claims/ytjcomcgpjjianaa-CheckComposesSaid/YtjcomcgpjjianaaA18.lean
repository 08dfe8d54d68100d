import Derived.Test.YtjcomcgpjjianaaA17
set_option linter.all false
set_option maxHeartbeats 16000000
set_option maxRecDepth 8000
open Go.Value renaming int→O
open Go.IntKind renaming i64→U
namespace Go.Ev
def wpUp(P:Program)(ops:Array Oper)(pan:Bool)(Q:Exit->Act->World->Prop):Nat->Array Bool->Act->World->Prop
 | 0,l,a,w=>Region.ready .any ops l=[]/\Q .normal a w
 |fuel+1,l,a,w=>(Region.ready .any ops l=[]->Q .normal a w)/\
  ∀i∈Region.ready .any ops l,if pan=true/\i+1=ops.size then wpOp P ops Q i (fun _ _=>False) a w else wpOp P ops Q i (wpUp P ops pan Q fuel (l.setIfInBounds i true)) a w
namespace Tr
variable {T:Tr}{Q:AX->Env->AH->Prop}{K:Cx}
theorem up_ok(g:Good T K.P Q)(hn:T.n=K.n): ∀(fuel:Nat) (l:Array Bool) (σ:Ren) (act:Act) (w:World),l.size=T.m->left (lists l) T.m<=fuel->nB T.ops (lists l)->T.Inv K (lists l) σ act w->(T.pan=true->lists l (T.m-1)=false)->wpUp K.P T.ops.toArray T.pan (qR K Q) fuel l act w:=by
 intro fuel
 have hdone: ∀(l:Array Bool) (σ:Ren) (act:Act) (w:World),l.size=T.m->T.Inv K (lists l) σ act w->(T.pan=true->lists l (T.m-1)=false)->(∀i,i<T.m->lists l i=true)->qR K Q .normal act w:=by
  intro l σ act w _ hi hpan hall
  have hp:T.pan=false:=by
   cases e:T.pan with
   |false=>rfl
   |true=>
    have h0:=g.some e
    have:=hall (T.m-1) (by omega)
    rw[hpan e]at this;cases this
  have hH:=BY hall
  refine⟨.normal,T.a T.m,T.H T.m,σ,g.done hp,trivial,⟨hH▸hi.hr,⟨hi.sz,fun t=> ?_⟩,hi.df,hH▸hi.ex⟩⟩
  have h1:=(kV (S:=lists l) (f:=fun k=>ae (T.a k) t) (mI g t) (EJ _) (fun j hj _=>hall j hj) fun j hj hjm _=>by omega).1
  have h2:=hi.tm t
  rw[h1]at h2
  exact h2.mono fun k z hk=>(bG.1 hk).2
 induction fuel with
 |zero=>
  intro l σ act w hs hf _ hi hpan
  have hall:=qN (S:=lists l) T.m (by omega)
  refine⟨?_,hdone l σ act w hs hi hpan hall⟩
  cases hr:Region.ready .any T.ops.toArray l with
  |nil=>rfl
  |cons i r=>
   obtain⟨o,_,h1,h2,_⟩:=mem_ready (T:=T) hs (i:=i) (by rw[hr];simp)
   rw[hall i h1]at h2;cases h2
 |succ fuel ih=>
  intro l σ act w hs hf hcl hi hpan
  refine⟨fun hr=>hdone l σ act w hs hi hpan (wK g hs hr),fun i hir=> ?_⟩
  obtain⟨o,ho,him,hno,hd⟩:=mem_ready (T:=T) hs hir
  have x:Next T (lists l) i o:=⟨hcl,ho,hno,hd,him⟩
  have hoa:T.ops.toArray[i]? =some o:=by rw[EX];exact ho
  have har:=pre_ar g hn x hi
  have hhr:=pre_hr g x hi
  have hex:=pre_ex g x hi
  have hset:=lists_set (l:=l) (i:=i) (by omega)
  have hcl':nB T.ops (ins (lists l) i):=by
   intro j p hj hp k hk
   unfold ins at hj⊢
   split
   ·rfl
   ·split at hj
    ·rename_i e;subst e;rw[ho]at hp;cases hp;exact hd k hk
    ·exact hcl j p hj hp k hk
  have hleft:left (ins (lists l) i) T.m<=fuel:=by have:=uV hno T.m him;omega
  have hsz:T.ops.toArray.size=T.m:=by simp[Tr.m]
  rcases g.op i o ho with ⟨hp,hlast⟩|⟨hnl,⟨hw,hst,hlen,hG,hU,ha⟩|⟨hw,hH,ha⟩⟩
  ·rw[if_pos ⟨hp,by rw[hsz];exact hlast⟩]
   unfold wpOp
   simp only[hoa]
   obtain⟨hw,⟨C,hC,he⟩,hq⟩:=g.last i o ho hp hlast
   rw[if_pos (cu har hw)]
   refine .inl (iJ hC hhr har he _ _ fun v' w' σ' hv hr' hx'=> ?_)
   obtain⟨a',ha',hq⟩:=hq
   refine⟨.panic (T.v i),a',T.G i,σ',hq,⟨v',rfl,hv⟩,hr',⟨har.len,fun t=> ?_⟩,hi.df,hex.trans hx'⟩
   rcases ha' t with h0|⟨h0,h1⟩
   ·rw[h0];exact .junk _
   ·have hwr: ∀j,T.wrT t j=false:=by
     intro j
     unfold wrT dst
     cases hj:T.ops[j]? with
     |none=>rfl
     |some p=>
      have:=h1 p (EE hj)
      simp only[Option.bind_some]
      have hb:(p.dst==some t)=false:=by simpa using this
      rw[hb];rfl
    have hzero: ∀m,cY (T.wrT t) (lists l) m=0:=by
     intro m
     induction m with
     |zero=>rfl
     |succ m ihm=>simp only[cY,hwr m];simpa using ihm
    have hsame: ∀j,j<=T.m->ae (T.a j) t=ae (T.a 0) t:=by
     intro j
     induction j with
     |zero=>intro _;rfl
     |succ j ihj=>intro hj;rw[mI g t j (by omega) (hwr j),ihj (by omega)]
    have ht:=hi.tm t
    rw[hzero]at ht
    rw[h0,hsame i (by omega)]
    exact(ht.mono (fw (g.le 0 i (by omega) (by omega)))).mono hx'.sub
  ·rw[if_neg (by rw[hsz];exact hnl)]
   unfold wpOp
   simp only[hoa]
   obtain⟨C,hC,he⟩:=hst
   rw[if_pos (cu har hw)]
   refine .inl (iJ hC hhr har he _ _ fun v' w' σ' hv hr' hx'=> ?_)
   have s:Stepped T K.P Q K (lists l) i o σ act w σ' w' (T.G i):=⟨g,x,hi,hlen,hG,hU,hr',hx'⟩
   have hinv:=s.inv hn ha hv
   rw[<-hset]at hinv hcl' hleft
   refine ih _ _ _ _ (by simpa using hs) hleft hcl' hinv fun hp=> ?_
   rw[hset]
   unfold ins
   split
   ·rename_i e
    have h0:=g.some hp
    exact absurd ⟨hp,by omega⟩ hnl
   ·exact hpan hp
  ·rw[if_neg (by rw[hsz];exact hnl)]
   unfold wpOp
   simp only[hoa]
   rw[if_neg (by rw[cu har hw];simp)]
   have s:Stepped T K.P Q K (lists l) i o σ act w (cut σ (T.H i).length) w (dB (T.nd i) (T.H i)):=by
    refine⟨g,x,hi,by rw[dh,hH],fun n hn=> ?_,fun n _ _=>by rw[hH],hhr,Ext.refl _ _ _⟩
    rw[pP,hH]
    rcases hn with h|h
    ·rw[if_pos h]
    ·rw[dW h];split<;>rfl
   have hinv:=s.inv hn ha .gone
   rw[<-hset]at hinv hcl' hleft
   refine ih _ _ _ _ (by simpa using hs) hleft hcl' hinv fun hp=> ?_
   rw[hset]
   unfold ins
   split
   ·rename_i e
    have h0:=g.some hp
    exact absurd ⟨hp,by omega⟩ hnl
   ·exact hpan hp
end Tr
structure Part(ops ops2:List Oper)(ord:List Nat):Prop where
 len:ops2.length=ord.length
 pos:0<ord.length
 nd:ord.Nodup
 same: ∀(k i:Nat),ord[k]? =some i-> ∃o o2,ops[i]? =some o/\ops2[k]? =some o2/\o2={o with after:=o2.after}/\o.guard=none/\(∀d,d∈deps o↔ ∃d2∈deps o2,ord[d2]? =some d)/\ ∀d2∈deps o2,d2<ord.length
 rest: ∀i o,ops[i]? =some o->i∉ord-> ∃d∈deps o,d∉ord\/ord[ord.length-1]? =some d
theorem nJ{ops:List Oper}{l:Array Bool}(hs:l.size=ops.length){i:Nat}:i∈Region.ready .any ops.toArray l↔ ∃o,ops[i]? =some o/\Tr.lists l i=false/\ ∀k∈deps o,Tr.lists l k=true:=by
 unfold Region.ready
 simp only[Fb,ET,Gn,EC,Fk]
 constructor
 ·rintro⟨h1,h2,h3⟩
  have ho:ops[i]? =some ops[i]:=Ex h1
  refine⟨_,ho,?_,fun k hk=> ?_⟩
  ·unfold Tr.lists
   have hi:i<l.size:=by rw[hs];exact h1
   rw[EZ,EQ hi]at*
   exact h2
  ·simp only[EX,ho,Option.map_some,Option.getD_some,GW,E8,Fk]at h3
   simp only[deps,E9,Fb]at hk
   obtain⟨e,⟨he,hb⟩,rfl⟩:=hk
   rcases h3 e (by simpa using he)with h|h
   ·rw[hb]at h;cases h
   ·exact h
 ·rintro⟨o,ho,h1,h2⟩
  have hi:i<ops.length:=(Ey.1 ho).1
  refine⟨hi,?_,?_⟩
  ·unfold Tr.lists at h1
   have hi':i<l.size:=by rw[hs];exact hi
   rw[EZ,EQ hi']at*
   exact h1
  ·simp only[EX,ho,Option.map_some,Option.getD_some,GW,E8,Fk]
   intro e he
   cases hb:Region.binds .any e with
   |false=>exact .inl rfl
   |true=>
    right
    refine h2 e.on ?_
    simp only[deps,E9,Fb]
    exact⟨e,⟨by simpa using he,hb⟩,rfl⟩
theorem ww{P:Program}{ops ops2:List Oper}{i k:Nat}{o o2:Oper}(ho:ops[i]? =some o)(ho2:ops2[k]? =some o2)(he:o2={o with after:=o2.after})(hg:o.guard=none){Q Q2:Exit->Act->World->Prop}(hq: ∀e a w,Q2 e a w->Q e a w)(hlo: ¬LetsOut Q2){K K2:Act->World->Prop}(hk: ∀a w,K2 a w->K a w){a:Act}{w:World}(h:wpOp P ops2.toArray Q2 k K2 a w):wpOp P ops.toArray Q i K a w:=by
 unfold wpOp at h⊢
 rw[EX,ho2]at h
 rw[EX,ho]
 simp only at h⊢
 have hw: ∀(o:Oper) (y:Nat->Option Value),o.guard=none->True:=fun _ _ _=>trivial
 have hg2:o2.guard=none:=by rw[he];exact hg
 have w1:Region.wanted o2 (yielded ops2.toArray a.tmps)=true:=by unfold Region.wanted;rw[hg2]
 have w2:Region.wanted o (yielded ops.toArray a.tmps)=true:=by unfold Region.wanted;rw[hg]
 rw[if_pos w1]at h
 rw[if_pos w2]
 rcases h with h|h
 ·left
  rw[he]at h
  have h3:o.wp P a w K2 Q2:=h
  exact vT hk hq _ h3
 ·exact absurd h.2 hlo
theorem part_any{P:Program}{ops ops2:List Oper}{ord:List Nat}(h:Part ops ops2 ord){Q Q2:Exit->Act->World->Prop}(hq: ∀e a w,Q2 e a w->Q e a w)(hno: ∀a w,¬Q2 .normal a w)(hlo: ¬LetsOut Q2): ∀(fuel:Nat) (l2 l:Array Bool) (a:Act) (w:World) (fuel':Nat),l2.size=ops2.length->l.size=ops.length->(∀k i,ord[k]? =some i->Tr.lists l i=Tr.lists l2 k)->(∀i,i∉ord->Tr.lists l i=false)->Tr.lists l2 (ord.length-1)=false->fuel<=fuel'->wpUp P ops2.toArray true Q2 fuel l2 a w->wpAny P .any ops.toArray Q fuel' l a w:=by
 intro fuel
 induction fuel with
 |zero=>intro l2 l a w fuel' _ _ _ _ _ _ hw;exact absurd hw.2 (hno _ _)
 |succ fuel ih=>
  intro l2 l a w fuel' hs2 hs hl hout hlast hf hw
  obtain⟨f',rfl⟩: ∃f',fuel'=f'+1:=⟨fuel'-1,by omega⟩
  obtain⟨hw1,hw2⟩:=hw
  refine⟨fun hr=> ?_,fun i hi=> ?_⟩
  ·exfalso
   cases hr2:Region.ready .any ops2.toArray l2 with
   |nil=>exact hno _ _ (hw1 hr2)
   |cons k r=>
    obtain⟨o2,ho2,g1,g2⟩:=(nJ hs2).1 (show k∈Region.ready .any ops2.toArray l2 by rw[hr2];simp)
    have hk:k<ord.length:=by rw[<-h.len];exact(Ey.1 ho2).1
    have hki:ord[k]? =some ord[k]:=Ex hk
    obtain⟨o,p2,e1,e2,_,_,e5,_⟩:=h.same k _ hki
    rw[ho2]at e2;cases e2
    have:ord[k]∈Region.ready .any ops.toArray l:=(nJ hs).2 ⟨o,e1,by rw[hl k _ hki];exact g1,fun d hd=>by
     obtain⟨d2,hd2,hd3⟩:=(e5 d).1 hd
     rw[hl d2 d hd3];exact g2 d2 hd2⟩
    rw[hr]at this;simp at this
  ·obtain⟨o,ho,g1,g2⟩:=(nJ hs).1 hi
   by_cases hm:i∈ord
   ·obtain⟨k,hk,hki⟩:=FF hm
    have hki:ord[k]? =some i:=by rw[Ex hk,hki]
    obtain⟨p,o2,e1,e2,e3,e4,e5,e6⟩:=h.same k i hki
    rw[ho]at e1;cases e1
    have hr2:k∈Region.ready .any ops2.toArray l2:=(nJ hs2).2 ⟨o2,e2,by rw[<-hl k i hki];exact g1,fun d2 hd2=>by
     have hd3:ord[d2]? =some (ord[d2]'(e6 d2 hd2)):=Ex (e6 d2 hd2)
     rw[<-hl d2 _ hd3]
     exact g2 _ ((e5 _).2 ⟨d2,hd2,hd3⟩)⟩
    have hw3:=hw2 k hr2
    by_cases hlk:k+1=ops2.toArray.size
    ·rw[if_pos ⟨rfl,hlk⟩]at hw3
     exact ww ho e2 e3 e4 hq hlo (fun _ _ hf=>hf.elim) hw3
    ·rw[if_neg (fun hh=>hlk hh.2)]at hw3
     refine ww ho e2 e3 e4 hq hlo (fun a w hh=> ?_) hw3
     have hi':i<l.size:=by rw[hs];exact(Ey.1 ho).1
     have hk':k<l2.size:=by rw[hs2,h.len];exact hk
     refine ih (l2.setIfInBounds k true) (l.setIfInBounds i true) a w f' (by simpa using hs2) (by simpa using hs) (fun k' i' hki'=> ?_) (fun i' hi2=> ?_) ?_ (by omega) hh
     ·rw[Tr.lists_set hi',Tr.lists_set hk']
      unfold ins
      by_cases e:k'=k
      ·subst e;rw[hki]at hki';cases hki';simp
      ·have:i'≠i:=fun e'=>e (by subst e';exact nd_inj h.nd hki' hki)
       rw[if_neg this,if_neg e];exact hl k' i' hki'
     ·rw[Tr.lists_set hi']
      unfold ins
      rw[if_neg (fun e=>hi2 (by rw[e];exact hm))];exact hout i' hi2
     ·rw[Tr.lists_set hk']
      unfold ins
      rw[if_neg (fun e=>hlk (by simp[h.len];have:=h.pos;omega))];exact hlast
   ·exfalso
    obtain⟨d,hd,hd2⟩:=h.rest i o ho hm
    have:=g2 d hd
    rcases hd2 with hd2|hd2
    ·rw[hout d hd2]at this;cases this
    ·rw[hl _ d hd2,hlast]at this;cases this
def lG(Q:AX->Env->AH->Prop):AX->Env->AH->Prop
 | .panic v,a,H=>Q (.panic v) a H
 |_,_,_=>False
theorem fG(n:Nat)(i:Nat):Tr.lists (Array.replicate n false) i=false:=by
 unfold Tr.lists
 rw[EZ,Array.getElem?_replicate]
 split<;>rfl
theorem Wa.drawnPart{K:Cx}{ops ops2:List Oper}{ord:List Nat}{Q:AX->Env->AH->Prop}{a:Env}{H:AH}(ks:List Kd)(hpt:Part ops ops2 ord)(hle:ops2.length<=ops.length)(hc:chk ops2 ks=true)(h:Dr K ops2 ks (lG Q) 0 [] ops2 a H):Wa K ops Q a H:=by
 obtain⟨t,ht⟩:=Dr.Em _ _ _ _ _ h
 have g:=tV ht hc fun hp=>by
  refine wo ops2 0 [] a H t ht fun hl hf=> ?_
  simp only[cN,hf]at hp
  simp[hl]at hp
 have hpan:(cN K ops2 ks a H t).pan=true:=by
  cases e:(cN K ops2 ks a H t).pan with
  |true=>rfl
  |false=>exact(g.done e).elim
 have e1:(cN K ops2 ks a H t).a 0=a:=by
  simp only[cN]
  cases ops2<;>cases t<;>rfl
 have e2:(cN K ops2 ks a H t).H 0=H:=by
  simp only[cN]
  cases t<;>rfl
 have hm:(cN K ops2 ks a H t).m=ops2.length:=by simp[Tr.m,cN]
 intro σ act w hi
 have hi':In K ((cN K ops2 ks a H t).a 0) ((cN K ops2 ks a H t).H 0) σ act {w with drawn:=w.drawn+1}:=by
  rw[e1,e2]
  exact⟨hi.hr.world rfl,hi.ar,hi.df,hi.ex.trans (Ext.world rfl rfl rfl rfl)⟩
 have hleft: ∀m,Tr.left (Tr.lists (Array.replicate ops2.length false)) m<=m:=by
  intro m
  induction m with
  |zero=>exact EJ _
  |succ m ih=>
   simp only[Tr.left]
   have:_root_.cond (Tr.lists (Array.replicate ops2.length false) m) 0 1<=1:=by
    cases Tr.lists (Array.replicate ops2.length false) m<;>simp
   omega
 have hup:=Tr.up_ok g rfl ops2.length (Array.replicate ops2.length false) σ act _ (by simp[hm]) (by rw[hm];exact hleft _) (fun i o h _=>by rw[fG]at h;cases h) (Tr.start g (fG _) hi') fun _=>fG _ _
 rw[hpan]at hup
 refine part_any hpt (Q2:=qR K (lG Q)) ?_ ?_ yJ ops2.length _ _ act _ _ (by simp) (by simp) (fun k i _=>by rw[fG,fG]) (fun i _=>fG _ _) (fG _ _) (by simpa using hle) hup
 ·rintro e a w ⟨x,a',H',σ',q,hx,hi⟩
  refine⟨x,a',H',σ',?_,hx,hi⟩
  cases x with
  |panic v=>exact q
  |_=>exact q.elim
 ·rintro a w ⟨x,a',H',σ',q,hx,hi⟩
  cases x with
  |panic v=>exact hx.elim
  |_=>exact q.elim
theorem W.drawnPart{K:Cx}{ops ops2:List Oper}{ord:List Nat}{Q:AX->Env->AH->Prop}{a:Env}{H:AH}{id:Nat}(ks:List Kd)(hm:K.P.follows .mixedOrders=true)(hpt:Part ops ops2 ord)(hle:ops2.length<=ops.length)(hc:chk ops2 ks=true)(h:Dr K ops2 ks (lG Q) 0 [] ops2 a H):W K (.region id ops.toArray true) Q a H:=W.ofWa hm (Wa.drawnPart ks hpt hle hc h)
def iC(ops:List Oper)(ord:List Nat):List Oper:=ord.map fun i=>
 {ops.getD i default with after:=((ops.getD i default).after.toList.filterMap fun e=>(ord.findIdx? (· ==e.on)).map fun k=>{e with on:=k}).toArray}
def partB(ops:List Oper)(ord:List Nat):Bool:=decide (0<ord.length)&&decide ord.Nodup&&decide (ord.length<=ops.length)&&((List.range ord.length).all fun k=>match ord[k]? with
    |some i=>match ops[i]?,(iC ops ord)[k]? with
     |some o,some o2=>o.guard.isNone&&((deps o).all fun d=>(deps o2).any fun d2=>ord[d2]? ==some d)&&(deps o2).all fun d2=>match ord[d2]? with|some d=>(deps o).contains d|none=>false
     |_,_=>false
    |none=>false)&&
 (List.range ops.length).all fun i=>ord.contains i||match ops[i]? with|some o=>(deps o).any fun d=> !ord.contains d||ord[ord.length-1]? ==some d|none=>false
theorem partB_ok{ops:List Oper}{ord:List Nat}(h:partB ops ord=true):Part ops (iC ops ord) ord/\(iC ops ord).length<=ops.length:=by
 unfold partB at h
 simp only[EC,decide_eq_true_eq,EI,ET]at h
 obtain⟨⟨⟨⟨h1,h2⟩,h3⟩,h4⟩,h5⟩:=h
 have hl:(iC ops ord).length=ord.length:=by simp[iC]
 refine⟨⟨hl,h1,h2,fun k i hk=> ?_,fun i o ho hi=> ?_⟩,by rw[hl];exact h3⟩
 ·have hkl:=(Ey.1 hk).1
  have:=h4 k hkl
  rw[hk]at this
  simp only at this
  split at this
  ·rename_i o o2 e1 e2
   simp only[EC,EI,List.any_eq_true,beq_iff_eq,Option.isNone_iff_eq_none]at this
   obtain⟨⟨g1,g2⟩,g3⟩:=this
   have he2:=e2
   unfold iC at he2
   rw[EM,hk,Option.map_some,EF,e1]at he2
   have he2:=Fj he2
   refine⟨o,o2,e1,e2,by rw[<-he2];rfl,g1,fun d=>⟨fun hd=> ?_,?_⟩,fun d2 hd2=> ?_⟩
   ·obtain⟨d2,a,b⟩:=g2 d hd;exact⟨d2,a,b⟩
   ·rintro⟨d2,a,b⟩
    have:=g3 d2 a
    rw[b]at this
    simpa using this
   ·have:=g3 d2 hd2
    split at this
    ·rename_i d hd;exact(Ey.1 hd).1
    ·cases this
  ·cases this
 ·have:=h5 i (Ey.1 ho).1
  rw[ho]at this
  simp only[E8,GI,List.any_eq_true,Fk,beq_iff_eq]at this
  rcases this with hh|⟨d,hd,hh⟩
  ·exact absurd hh hi
  ·refine⟨d,hd,?_⟩
   rcases hh with hh|hh
   ·left;intro hm
    have:ord.contains d=true:=by simpa using hm
    rw[this]at hh;cases hh
   ·exact .inr hh
theorem W.drawnPartBy{K:Cx}{ops:List Oper}{Q:AX->Env->AH->Prop}{a:Env}{H:AH}{id:Nat}(ord:List Nat)(q:Nat->Bool)(hm:K.P.follows .mixedOrders=true)(hp:partB ops ord=true)(hc:kf q (iC ops ord)=true)(h:Dl K (iC ops ord) q (iC ops ord) (lG Q) a H):W K (.region id ops.toArray true) Q a H:=by
 obtain⟨p1,p2⟩:=partB_ok hp
 have h0:=h hc (by simp) []
 rw[F8]at h0
 unfold kf at hc
 simp only[EC]at hc
 exact W.drawnPart _ hm p1 p2 hc.1.1 h0
theorem zK{Q:AX->Env->AH->Prop}{x:AX}{a:Env}{H:AH}(h:lG Q x a H):Q x a H/\ ∀Q':AX->Env->AH->Prop,Q' x a H->lG Q' x a H:=by
 cases x<;>first|exact h.elim|exact⟨h,fun _ h'=>h'⟩
theorem X.drawnPartBy{k:Xc'}{ops:List Oper}{Q:AX->Env->AH->Prop}{a:Env}{H:AH}{id:Nat}(ord:List Nat)(q:Nat->Bool)(hm:k.P.follows .mixedOrders=true)(hp:partB ops ord=true)(hc:kf q (iC ops ord)=true)(h:Xd k (iC ops ord) q (iC ops ord) (lG Q) a H):X k (.region id ops.toArray true) Q a H:=by
 obtain⟨x,a',H',q',hw⟩:=h
 obtain⟨h1,h2⟩:=zK q'
 exact⟨x,a',H',h1,fun D σ w hr Q' hq=>W.drawnPartBy ord q hm hp hc (hw D σ w hr _ (h2 Q' hq))⟩
def EndsY(P:Program)(fn:Func)(H:AH)(R:OpR->Prop)(x:AX)(a:Env)(H':AH):Prop:=match x with
 | .panic v=> ∃r,R r/\Ends P fn H r (.panic v) a H'
 |x=> ∃r,R r/\mY P fn r x a H'
theorem ACE.ofY{P:Program}{f:FuncId}{fn:Func}{c:Code}{args:List Value}{H:AH}{R:OpR->Prop}{N:Nat}(hf:P.funcs[f]? =some fn)(hb:fn.body=some c)(hN:fn.ntmps=N)(hn:args.length<=N)(h:X ⟨P,N,H⟩ c (EndsY P fn H R) (dD 0 args) H):ACE P f args H R:=by
 subst hN
 obtain⟨x,a',H',he,hw⟩:=h
 cases x with
 |panic v=>
  obtain⟨r,hr,he⟩:=he
  exact⟨r,hr,AC.of hf hb rfl hn fun σ w hh=>hw [] σ w hh _ he⟩
 |normal=>
  obtain⟨r,hr,he⟩:=he
  exact⟨r,hr,AC.ofX hf hb hn fun σ w hh=>hw [] σ w hh _ he⟩
 |ret=>
  obtain⟨r,hr,he⟩:=he
  exact⟨r,hr,AC.ofX hf hb hn fun σ w hh=>hw [] σ w hh _ he⟩
 |exit i=>
  obtain⟨r,hr,he⟩:=he
  exact he.elim
theorem X.ofW{k:Xc'}{c:Code}{Q:AX->Env->AH->Prop}{a:Env}{H:AH}{x:AX}{a':Env}{H':AH}(hq:Q x a' H')(h: ∀K:Cx,K.P=k.P->K.n=k.n->W K c (fun y b G=>y=x/\b=a'/\G=H') a H):X k c Q a H:=⟨x,a',H',hq,fun D σ w _ Q' hq'=>W.mono (h ⟨k.P,k.n,D,σ,k.H,w⟩ rfl rfl) fun y b G ⟨e1,e2,e3⟩=>by subst e1;subst e2;subst e3;exact hq'⟩
section
variable {K:Cx}{k:Xc'}{Q:AX->Env->AH->Prop}{a a':Env}{H H':AH}{id:Nat}{r r':List Oper}{z:Option (List Oper×Env×AH)}
theorem Wl.s{ops:Array Oper}(h:Wl K ops r' Q a' H')(e:mD K.P K.n ops r (.go a H)=z:=by simp[go_sem];rfl)(hz:z=some (r',a',H'):=by rfl):Wl K ops r Q a H:=Wl.seg (e.trans hz) h
theorem Xl.s{ops:Array Oper}(h:Xl k ops r' Q a' H')(e:mD k.P k.n ops r (.go a H)=z:=by simp[go_sem];rfl)(hz:z=some (r',a',H'):=by rfl):Xl k ops r Q a H:=Xl.seg (e.trans hz) h
theorem W.g{ops:Array Oper}(h:Q .normal a' H')(e:mD K.P K.n ops ops.toList (.go a H)=z:=by simp[go_sem];rfl)(hz:z=some ([],a',H'):=by rfl):W K (.region id ops false) Q a H:=W.region (Wl.seg (e.trans hz) (Wl.nil h))
theorem X.g{ops:Array Oper}(h:Q .normal a' H')(e:mD k.P k.n ops ops.toList (.go a H)=z:=by simp[go_sem];rfl)(hz:z=some ([],a',H'):=by rfl):X k (.region id ops false) Q a H:=X.region (Xl.seg (e.trans hz) (Xl.nil h))
theorem Dl.s{ops:List Oper}{q:Nat->Bool}(h:Dl K ops q r' Q a' H')(e:lj K.P K.n ops.toArray r (.go a H)=z:=by simp[go_sem];rfl)(hz:z=some (r',a',H'):=by rfl):Dl K ops q r Q a H:=Dl.seg (e.trans hz) h
theorem Xd.s{ops:List Oper}{q:Nat->Bool}(h:Xd k ops q r' Q a' H')(e:lj k.P k.n ops.toArray r (.go a H)=z:=by simp[go_sem];rfl)(hz:z=some (r',a',H'):=by rfl):Xd k ops q r Q a H:=Xd.seg (e.trans hz) h
theorem W.ct{c:Operand}{x y:Code}(h:W K (if true=true then x else y) Q a H)(hc:bq a c= .bool true:=by simp[go_sem]):W K (.cond c x y) Q a H:=W.cond hc h
theorem W.cf{c:Operand}{x y:Code}(h:W K (if false=true then x else y) Q a H)(hc:bq a c= .bool false:=by simp[go_sem]):W K (.cond c x y) Q a H:=W.cond hc h
theorem X.ct{c:Operand}{x y:Code}(h:X k (if true=true then x else y) Q a H)(hc:bq a c= .bool true:=by simp[go_sem]):X k (.cond c x y) Q a H:=X.cond hc h
theorem X.cf{c:Operand}{x y:Code}(h:X k (if false=true then x else y) Q a H)(hc:bq a c= .bool false:=by simp[go_sem]):X k (.cond c x y) Q a H:=X.cond hc h
end
section
variable {P:Program}{a:Env}{H H':AH}{v:Value}{oo:Oper}
theorem Sc{c:Call}{r:OpR}{g:FuncId}(hb:aO P g)(h:AC P g (c.args.toList.map (bq a)) H r)(hf: ∃f,c.callee= .value f/\bq a f= .func (.func g) #[] #[]:=by exact⟨_,rfl,rfl⟩):bO P a H (.call c) r:=by
 obtain⟨f,h1,h2⟩:=hf
 exact bO.call h1 h2 hb (by simpa using h)
theorem AC.o{f:FuncId}{fn:Func}{c:Code}{args:List Value}{r:OpR}(N:Nat)(hf:P.funcs[f]? =some fn)(h: ∀σ w,HR σ H w->W ⟨P,N,[],σ,H,w⟩ c (Ends P fn H r) (dD 0 args) H)(hb:fn.body=some c:=by rfl)(hN:fn.ntmps=N:=by rfl)(hn:args.length<=N:=by exact EL rfl):AC P f args H r:=AC.of hf hb hN hn h
theorem ACE.o{f:FuncId}{fn:Func}{c:Code}{args:List Value}{R:OpR->Prop}(N:Nat)(hf:P.funcs[f]? =some fn)(h:X ⟨P,N,H⟩ c (ij P fn H R) (dD 0 args) H)(hb:fn.body=some c:=by rfl)(hN:fn.ntmps=N:=by rfl)(hn:args.length<=N:=by exact EL rfl):ACE P f args H R:=ACE.of hf hb hN hn h
section
variable {K:Cx}{k:Xc'}{Q:AX->Env->AH->Prop}{ops:Array Oper}{r:List Oper}
theorem Wl.o(hs:bO K.P a H oo.op (.val v H'))(h:Wl K ops r Q (aB K.n a oo.dst v) H')(hw:aJ ops a oo=some true:=by simp[go_sem]):Wl K ops (oo::r) Q a H:=Wl.op hw hs h
theorem Wl.p(hs:bO K.P a H oo.op (.pan v H'))(h:Q (.panic v) a H')(hw:aJ ops a oo=some true:=by simp[go_sem]):Wl K ops (oo::r) Q a H:=Wl.pan hw hs h
theorem Xl.o(hs:bO k.P a H oo.op (.val v H'))(h:Xl k ops r Q (aB k.n a oo.dst v) H')(hw:aJ ops a oo=some true:=by simp[go_sem]):Xl k ops (oo::r) Q a H:=Xl.op hw hs h
theorem Xl.p(hs:bO k.P a H oo.op (.pan v H'))(h:Q (.panic v) a H')(hw:aJ ops a oo=some true:=by simp[go_sem]):Xl k ops (oo::r) Q a H:=Xl.pan hw hs h
end
section
variable {K:Cx}{k:Xc'}{Q:AX->Env->AH->Prop}{ops r:List Oper}{q:Nat->Bool}
theorem Dl.t(hs:bO K.P a H oo.op (.val v H))(h:Dl K ops q r Q (aB K.n a oo.dst v) H)(hk:q (ops.length-(r.length+1))=true:=by rfl)(hw:aJ ops.toArray a oo=some true:=by simp[go_sem]):Dl K ops q (oo::r) Q a H:=Dl.still hk hw hs h
theorem Xd.t(hs:bO k.P a H oo.op (.val v H))(h:Xd k ops q r Q (aB k.n a oo.dst v) H)(hk:q (ops.length-(r.length+1))=true:=by rfl)(hw:aJ ops.toArray a oo=some true:=by simp[go_sem]):Xd k ops q (oo::r) Q a H:=Xd.still hk hw hs h
end
end
end Go.Ev
