import Derived.Test.YtjcomcgpjjianaaA6
set_option linter.all false
set_option maxHeartbeats 16000000
set_option maxRecDepth 8000
open Go.Value renaming int→O
open Go.IntKind renaming i64→U
namespace Go.Ev
theorem vY{ρ ρ':Operand->Value}(l:List (Nat×Operand))(h: ∀x∈l.map (·.2),ρ x=ρ' x):(l.map fun(i,x)=>(i,ρ x))=l.map fun(i,x)=>(i,ρ' x):=by
 induction l with
 |nil=>rfl
 |cons y l ih=>
  simp only[Fv,EG]at h⊢
  rw[ih fun x hx=>h x (.inr hx),h y.2 (.inl rfl)]
theorem Dp{ρ ρ':Operand->Value}(l:List Operand)(h: ∀x∈l,ρ x=ρ' x):l.map ρ=l.map ρ':=Hg h
theorem jv{P:Program}{C:Orc}{H:AH}{ρ ρ':Operand->Value}{op:Op}(h: ∀x∈op.operands.toList,ρ x=ρ' x):cH P C H ρ op=cH P C H ρ' op:=by
 have h1: ∀{x:Operand},op.operands= #[x]->ρ x=ρ' x:=fun e=>h _ (by rw[e];simp)
 cases op with
 |move x|assign x|box e x|load t x|nilCheck x|unOp a b x|convert s d x|makeInterface t x|fieldAddr s x f|field t x f|extract x i|panic x=>
  simp only[cH,h1 rfl]
 |pick c a b=>
  simp only[cH,h c (by simp[Op.operands]),h a (by simp[Op.operands]),h b (by simp[Op.operands])]
 |build t ps=>simp only[cH];rw[vY ps.toList fun x hx=>h x (by simpa[Op.operands]using hx)]
 |buildSlice t l ps=>simp only[cH];rw[vY ps.toList fun x hx=>h x (by simpa[Op.operands]using hx)]
 |store t a v|binOp op t a v y|makeSlice t a v|indexAddr t a v|index t a v|lookup t a v ok|mapEntry t a v=>
  simp only[cH,h a (by simp[Op.operands]),h v (by simp[Op.operands])]
 |insert t m k v|mapUpdate t m k v|entryStore t m k v=>
  simp only[cH,h m (by simp[Op.operands]),h k (by simp[Op.operands]),h v (by simp[Op.operands])]
 |makeFunc fn p q=>
  have hp:p.map ρ=p.map ρ':=Array.map_congr_left fun x hx=>h x (by simp[Op.operands,hx])
  have hq:q.map ρ=q.map ρ':=Array.map_congr_left fun x hx=>h x (by simp[Op.operands,hx])
  simp only[cH,hp,hq]
 |makeMap t r=>
  cases r with
  |none=>rfl
  |some r=>simp only[cH,Option.map_some,h r (by simp[Op.operands])]
 |slice t x lo hi mx=>
  have hx:=h x (by simp[Op.operands])
  have h1:lo.map ρ=lo.map ρ':=by
   cases lo with
   |none=>rfl
   |some l=>simp only[Option.map_some,h l (by simp[Op.operands])]
  have h2:hi.map ρ=hi.map ρ':=by
   cases hi with
   |none=>rfl
   |some l=>simp only[Option.map_some,h l (by simp[Op.operands])]
  have h3:mx.map ρ=mx.map ρ':=by
   cases mx with
   |none=>rfl
   |some l=>simp only[Option.map_some,h l (by simp[Op.operands])]
  simp only[cH,hx,h1,h2,h3]
 |call c=>
  simp only[cH]
  unfold ft
  have ha:c.args.toList.map ρ=c.args.toList.map ρ':=Dp _ fun x hx=>h x (by simp[Op.operands,Call.operands];exact .inr (by simpa using hx))
  rw[ha]
  split
  ·rfl
  ·rename_i f hc
   rw[h f (by simp[Op.operands,Call.operands,hc])]
  ·rfl
 |_=>rfl
def iV(ρ:Operand->Value):Op->Bool
 | .move _| .assign _| .pick .. | .alloc _| .box .. | .build .. | .buildSlice .. | .nilCheck _| .binOp .. | .unOp .. | .convert .. | .makeInterface .. | .makeFunc .. | .makeMap .. | .makeSlice ..
 | .slice .. | .fieldAddr .. | .field .. | .indexAddr .. | .index .. | .extract .. =>true
 | .call c=>match c.callee with
   | .builtin .len=>match c.args.toList.map ρ with| [.slice ..]| [.string _]=>true|_=>false
   |_=>false
 |_=>false
theorem rK{H H':AH}{e:TypeId}{v r:Value}(h:lZ H e v=some (r,H')): ∃aC,H'=H++aC/\ ∀D:AH,D.length=H.length->lZ D e v=some (r,D++aC):=by
 simp only[lZ,EB,Fe]at h
 obtain⟨l,h1,rfl,rfl⟩:=h
 exact⟨_,rfl,fun D hD=>by simp only[lZ,h1,Option.map_some,hD]⟩
theorem vn{P:Program}{H H':AH}{e:TypeId}{r:Value}(h:gN P H e=some (r,H')): ∃aC,H'=H++aC/\ ∀D:AH,D.length=H.length->gN P D e=some (r,D++aC):=by
 simp only[gN,EN]at h
 obtain⟨z,h1,h2⟩:=h
 split at h2
 ·rename_i hz
  obtain⟨aC,h3,h4⟩:=rK h2
  exact⟨aC,h3,fun D hD=>by simp only[gN,h1,Option.bind_some,if_pos hz,h4 D hD]⟩
 ·cases h2
theorem py{P:Program}{H H':AH}{t:TypeId}{len:Nat}{ps:List (Nat×Value)}{r:Value}(h:aQ P H t len ps=some (r,H')):
 ∃aC,H'=H++aC/\ ∀D:AH,D.length=H.length->aQ P D t len ps=some (r,D++aC):=by
 unfold aQ at h
 split at h
 ·rename_i e hu
  split at h
  ·rename_i hz
   cases h
   exact⟨_,rfl,fun D hD=>by simp only[aQ,hu,if_pos hz,hD]⟩
  ·rename_i hz
   split at h
   ·rename_i size z h1 h2
    split at h
    ·rename_i hc
     simp only[EB,Fe]at h
     obtain⟨c,h3,rfl,rfl⟩:=h
     exact⟨_,rfl,fun D hD=>by simp only[aQ,hu];rw[if_neg hz];simp only[h1,h2,if_pos hc,h3,Option.map_some,hD]⟩
    ·cases h
   ·cases h
 ·cases h
theorem qb{P:Program}{H H':AH}{t:TypeId}{l c r:Value}(h:cF P H t l c=some (r,H')):
 ∃aC,H'=H++aC/\ ∀D:AH,D.length=H.length->cF P D t l c=some (r,D++aC):=by
 unfold cF at h
 split at h
 ·rename_i e hu
  split at h
  ·rename_i i hi
   split at h
   ·rename_i z hz
    split at h
    ·rename_i hc
     cases h
     exact⟨_,rfl,fun D hD=>by simp only[cF,hu,hi,hz,if_pos hc,hD]⟩
    ·cases h
   ·cases h
  ·cases h
 ·cases h
theorem lM{o:Option Value}{H:AH}{v:Value}{H':AH}(h:(o.map fun v=>OpR.val v H)=some (.val v H')):o=some v/\H'=H:=by
 simp only[EB,OpR.val.injEq]at h
 obtain⟨u,h1,rfl,rfl⟩:=h
 exact⟨h1,rfl⟩
theorem jB{P:Program}{C:Orc}{H H':AH}{ρ:Operand->Value}{op:Op}{v:Value}(h:cH P C H ρ op=some (.val v H'))(hs:iV ρ op=true):
 ∃aC,H'=H++aC/\ ∀D:AH,D.length=H.length->cH P C D ρ op=some (.val v (D++aC)):=by
 have none': ∀{o:Option Value},(o.map fun v=>OpR.val v H)=some (.val v H')->(∀D,cH P C D ρ op=o.map fun v=>OpR.val v D)-> ∃aC,H'=H++aC/\ ∀D:AH,D.length=H.length->cH P C D ρ op=some (.val v (D++aC)):=by
  intro o ho hD
  obtain⟨h1,rfl⟩:=lM ho
  exact⟨[],by simp,fun D _=>by rw[hD,h1];simp⟩
 have pair': ∀{f:AH->Option (Value×AH)},((f H).map fun r=>OpR.val r.1 r.2)=some (.val v H')->(∀D,cH P C D ρ op=(f D).map fun r=>OpR.val r.1 r.2)->(∀{r:Value} {G:AH},f H=some (r,G)-> ∃aC,G=H++aC/\ ∀D:AH,D.length=H.length->f D=some (r,D++aC))-> ∃aC,H'=H++aC/\ ∀D:AH,D.length=H.length->cH P C D ρ op=some (.val v (D++aC)):=by
  intro f ho hD hf
  simp only[EB,OpR.val.injEq]at ho
  obtain⟨⟨r,G⟩,h1,rfl,rfl⟩:=ho
  obtain⟨aC,h2,h3⟩:=hf h1
  exact⟨aC,h2,fun D hl=>by rw[hD,h3 D hl];rfl⟩
 cases op with
 |move x=>exact none' (o:=some (ρ x)) h fun D=>rfl
 |assign x=>exact none' (o:=some (ρ x)) h fun D=>rfl
 |pick c a b=>
  simp only[cH]at h
  split at h
  ·rename_i t ht
   refine none' (o:=some (if t=true then ρ a else ρ b)) h fun D=> ?_
   simp only[cH,ht];rfl
  ·cases h
 |alloc e=>exact pair' (f:=fun D=>gN P D e) h (fun D=>rfl) vn
 |box e x=>exact pair' (f:=fun D=>lZ D e (ρ x)) h (fun D=>rfl) rK
 |build t ps=>exact none' h fun D=>rfl
 |buildSlice t l ps=>exact pair' (f:=fun D=>aQ P D t l (ps.toList.map fun(p:Nat×Operand)=>((p.1,ρ p.2):Nat×Value))) h (fun D=>rfl) py
 |nilCheck x=>
  simp only[cH]at h
  split at h
  ·rename_i p hp
   refine none' (o:=some (.pointer (some p))) h fun D=> ?_
   simp only[cH,hp];rfl
  ·rename_i f p q hp
   refine none' (o:=some (.func (.func f) p q)) h fun D=> ?_
   simp only[cH,hp];rfl
  ·cases h
 |binOp o t x y yt=>exact none' h fun D=>rfl
 |unOp o t x=>exact none' h fun D=>rfl
 |convert s d x=>exact none' h fun D=>rfl
 |makeInterface t x=>exact none' h fun D=>rfl
 |makeFunc fn p q=>exact none' (o:=some (.func fn (p.map ρ) (q.map ρ))) h fun D=>rfl
 |makeMap t r=>
  refine pair' (f:=fun D=>cK D (r.map ρ)) h (fun D=>rfl) ?_
  intro r' G hG
  unfold cK at hG
  split at hG
  ·rename_i hr;cases hG
   exact⟨_,rfl,fun D hl=>by simp only[cK,hr,hl]⟩
  ·cases hG
 |makeSlice t l c=>exact pair' (f:=fun D=>cF P D t (ρ l) (ρ c)) h (fun D=>rfl) qb
 |slice t x lo hi mx=>exact none' h fun D=>rfl
 |fieldAddr s x f=>exact none' h fun D=>rfl
 |field t x f=>exact none' h fun D=>rfl
 |indexAddr t x i=>exact none' h fun D=>rfl
 |index t x i=>exact none' h fun D=>rfl
 |extract t i=>exact none' h fun D=>rfl
 |call c=>
  have h0:=h
  simp only[cH]at h
  unfold ft at h
  simp only[iV]at hs
  split at hs
  ·rename_i hc
   simp only[hc]at h
   split at hs
   ·rename_i a n k he
    simp only[he,eC]at h
    cases ht:c.argTypes[0]? with
    |none=>rw[ht]at h;cases h
    |some t=>
     rw[ht]at h
     refine none' h fun D=> ?_
     simp only[cH,ft,hc,he,eC,ht]
     congr 1
     unfold rV
     cases P.underlying t with
     |none=>rfl
     |some d=>cases d<;>rfl
   ·rename_i s he
    simp only[he,eC]at h
    cases ht:c.argTypes[0]? with
    |none=>rw[ht]at h;cases h
    |some t=>
     rw[ht]at h
     refine none' h fun D=> ?_
     simp only[cH,ft,hc,he,eC,ht]
     congr 1
     unfold rV
     cases P.underlying t with
     |none=>rfl
     |some d=>cases d<;>rfl
   ·cases hs
  ·cases hs
 |_=>cases hs
inductive Kd where
 |still
 |loud
 |one (n:Nat)
 |eff
def Kd.isEff:Kd->Bool| .eff=>true|_=>false
def Kd.isLoud:Kd->Bool| .eff| .loud=>true|_=>false
def tmpsOf(op:Op):List Nat:=op.operands.toList.filterMap fun| .tmp t=>some t|_=>none
def wq(ops:List Oper)(o:Oper):List Nat:=match o.guard with|none=>[]|some (j,_)=>match ops[j]? with|some p=>p.dst.toList|none=>[]
def kW(ops:List Oper)(o:Oper):List Nat:=tmpsOf o.op++wq ops o
def mg(ops:List Oper)(i:Nat):Option Tmp:=(ops[i]?).bind (·.dst)
def tu(ops:List Oper)(i:Nat):List Nat:=match ops[i]? with|some o=>kW ops o|none=>[]
def cg(ks:List Kd)(i:Nat):Kd:=ks.getD i .eff
def jS(ops:List Oper)(i e:Nat):Bool:=if e<i then Bef ops i e else Bef ops e i
def fW(ops:List Oper)(ks:List Kd)(i j:Nat):Bool:=((match mg ops j with|some t=> !((tu ops i).contains t||mg ops i==some t)|none=>true)&&
                                                     (match mg ops i with|some t=> !(tu ops j).contains t|none=>true)&&
                                                     !((cg ks j).isEff&&(cg ks i).isLoud||(cg ks i).isEff&&(cg ks j).isLoud))||Bef ops i j
def chk(ops:List Oper)(ks:List Kd):Bool:=(List.range ops.length).all fun i=>(match ops[i]? with|some o=>(deps o).all (· <i)|none=>true)&&(List.range i).all fun j=>fW ops ks i j
def exN(ops:List Oper)(ks:List Kd)(e:Nat):List Nat:=(List.range ops.length).filterMap fun i=>match cg ks i with| .one n=>if i=e\/jS ops i e=true then none else some n|_=>none
def lL(k:Kd)(op:Op):Bool:=match k,op with
 | .still,.alloc _| .still,.box .. | .still,.buildSlice .. | .still,.makeSlice .. | .still,.makeMap .. =>true
 | .still,_=>false
 | .one _,_=>false
 |_,_=>true
def exJ(ops:List Oper)(ks:List Kd)(e:Nat):List Nat:=(List.range e).filter fun j=>(match ops[j]? with|some o=>lL (cg ks j) o.op|none=>false)&& !Bef ops e j
def DS(P:Program)(a:Env)(H:AH)(op:Op)(v:Value)(H':AH):Kd->Prop
 | .still=>cH P noC H (bq a) op=some (.val v H')/\iV (bq a) op=true
 | .loud=>bO P a H op (.val v H')/\ ∃aC,H'=H++aC
 | .one n=> ∃t x i,op= .load t x/\bq a x= .pointer (some ⟨n,i,none⟩)/\dQ P H t (bq a x)=some v/\H'=H
 | .eff=>bO P a H op (.val v H')/\H.length<=H'.length
def Xc(ops:List Oper)(ks:List Kd)(e:Nat)(ls:List Nat)(H H':AH):Prop:=(∀n∈exN ops ks e,at_ H' n=at_ H n)/\ ∀j∈exJ ops ks e,∀n,ls.getD j 0<=n->n<ls.getD (j+1) 0->at_ H' n=at_ H n
def Dr(K:Cx)(ops:List Oper)(ks:List Kd)(Q:AX->Env->AH->Prop):Nat->List Nat->List Oper->Env->AH->Prop
 |_,_,[],a,H=>Q .normal a H
 |i,ls,o::r,a,H=>
  (∃v H',aJ ops.toArray a o=some true/\DS K.P a H o.op v H' (cg ks i)/\((cg ks i).isEff=true->Xc ops ks i (ls++[H.length]) H H')/\Dr K ops ks Q (i+1) (ls++[H.length]) r (aB K.n a o.dst v) H')\/(aJ ops.toArray a o=some false/\Dr K ops ks Q (i+1) (ls++[H.length]) r (aB K.n a o.dst gone) H)\/(r=[]/\aJ ops.toArray a o=some true/\ ∃v H',bO K.P a H o.op (.pan v H')/\(cg ks i).isLoud=true/\kG ops Q v a H')
section
variable {K:Cx}{ops:List Oper}{ks:List Kd}{Q:AX->Env->AH->Prop}{i:Nat}{ls:List Nat}{o:Oper}{r:List Oper}{a:Env}{H:AH}
theorem Dr.nil(h:Q .normal a H):Dr K ops ks Q i ls [] a H:=h
theorem Dr.op{v:Value}{H':AH}(hw:aJ ops.toArray a o=some true)(hs:DS K.P a H o.op v H' (cg ks i))(hx:(cg ks i).isEff=true->Xc ops ks i (ls++[H.length]) H H')(h:Dr K ops ks Q (i+1) (ls++[H.length]) r (aB K.n a o.dst v) H'):Dr K ops ks Q i ls (o::r) a H:= .inl ⟨v,H',hw,hs,hx,h⟩
theorem Dr.past(hw:aJ ops.toArray a o=some false)(h:Dr K ops ks Q (i+1) (ls++[H.length]) r (aB K.n a o.dst gone) H):Dr K ops ks Q i ls (o::r) a H:= .inr (.inl ⟨hw,h⟩)
theorem Dr.pan{v:Value}{H':AH}(hw:aJ ops.toArray a o=some true)(hs:bO K.P a H o.op (.pan v H'))(hk:(cg ks i).isLoud=true)(h:kG ops Q v a H'):
 Dr K ops ks Q i ls [o] a H:= .inr (.inr ⟨rfl,hw,v,H',hs,hk,h⟩)
end
abbrev Ent:=Value×AH×Nat
def Vd(K:Cx)(ops:List Oper)(ks:List Kd)(Q:AX->Env->AH->Prop):Nat->List Nat->List Oper->Env->AH->List Ent->Prop
 |_,_,[],a,H,[]=>Q .normal a H
 |i,ls,o::r,a,H,(v,H',0)::t=>aJ ops.toArray a o=some true/\DS K.P a H o.op v H' (cg ks i)/\((cg ks i).isEff=true->Xc ops ks i (ls++[H.length]) H H')/\
  Vd K ops ks Q (i+1) (ls++[H.length]) r (aB K.n a o.dst v) H' t
 |i,ls,o::r,a,H,(v,H',1)::t=>v=gone/\H'=H/\aJ ops.toArray a o=some false/\Vd K ops ks Q (i+1) (ls++[H.length]) r (aB K.n a o.dst gone) H t
 |i,_,o::r,a,H,(v,H',2)::t=>r=[]/\t=[]/\aJ ops.toArray a o=some true/\bO K.P a H o.op (.pan v H')/\(cg ks i).isLoud=true/\kG ops Q v a H'
 |_,_,_,_,_,_=>False
theorem Dr.Em{K:Cx}{ops:List Oper}{ks:List Kd}{Q:AX->Env->AH->Prop}: ∀(r:List Oper) (i:Nat) (ls:List Nat) (a:Env) (H:AH),Dr K ops ks Q i ls r a H-> ∃t,Vd K ops ks Q i ls r a H t:=by
 intro r
 induction r with
 |nil=>intro i ls a H h;exact⟨[],h⟩
 |cons o r ih=>
  intro i ls a H h
  rcases h with ⟨v,H',h1,h2,h3,h4⟩|⟨h1,h2⟩|⟨h0,h1,v,H',h2,h3,h4⟩
  ·obtain⟨t,ht⟩:=ih _ _ _ _ h4
   exact⟨(v,H',0)::t,h1,h2,h3,ht⟩
  ·obtain⟨t,ht⟩:=ih _ _ _ _ h2
   exact⟨(gone,H,1)::t,rfl,rfl,h1,ht⟩
  ·exact⟨[(v,H',2)],h0,rfl,h1,h2,h3,h4⟩
def stH(H:AH):List Ent->Nat->AH
 |_,0=>H
 | [],_+1=>H
 | (_,_,2)::_,_+1=>H
 | (_,H',_)::t,i+1=>stH H' t i
def stA(n:Nat)(a:Env):List Oper->List Ent->Nat->Env
 |_,_,0=>a
 | [],_,_+1=>a
 |_,[],_+1=>a
 |_,(_,_,2)::_,_+1=>a
 |o::r,(v,_,_)::t,i+1=>stA n (aB n a o.dst v) r t i
def At(K:Cx)(ops:List Oper)(ks:List Kd)(Q:AX->Env->AH->Prop)(i:Nat)(last:Prop)(o:Oper)(a a':Env)(H H':AH)(lsi:List Nat):Ent->Prop
 | (v,G,0)=>G=H'/\aJ ops.toArray a o=some true/\DS K.P a H o.op v H' (cg ks i)/\((cg ks i).isEff=true->Xc ops ks i lsi H H')/\a'=aB K.n a o.dst v
 | (_,_,1)=>H'=H/\aJ ops.toArray a o=some false/\a'=aB K.n a o.dst gone
 | (v,G,2)=>last/\H'=H/\a'=a/\aJ ops.toArray a o=some true/\bO K.P a H o.op (.pan v G)/\(cg ks i).isLoud=true/\kG ops Q v a G
 |_=>False
theorem Vd.at{K:Cx}{ops:List Oper}{ks:List Kd}{Q:AX->Env->AH->Prop}: ∀(r:List Oper) (i:Nat) (ls:List Nat) (a:Env) (H:AH) (t:List Ent),Vd K ops ks Q i ls r a H t-> ∀(k:Nat) (o:Oper),r[k]? =some o-> ∃e,t[k]? =some e/\At K ops ks Q (i+k) (k+1=r.length) o (stA K.n a r t k) (stA K.n a r t (k+1)) (stH H t k) (stH H t (k+1))
                                                                                                                                                                        (ls++(List.range (k+1)).map fun j=>(stH H t j).length) e:=by
 intro r
 induction r with
 |nil=>intro i ls a H t _ k o ho;cases ho
 |cons o r ih=>
  intro i ls a H t h k p hp
  match t,h with
  | (v,H',0)::t,⟨h1,h2,h3,h4⟩=>
    cases k with
    |zero=>
     simp at hp;subst hp
     refine⟨_,rfl,?_⟩
     have e1:stH H ((v,H',0)::t) 1=H':=by simp only[stH]
     have e2:stA K.n a (o::r) ((v,H',0)::t) 1=aB K.n a o.dst v:=by simp only[stA]
     exact⟨e1.symm,h1,e1.symm▸h2,fun hk=>by simpa[e1,stH]using h3 hk,e2⟩
    |succ k=>
     obtain⟨e,he,hat⟩:=ih _ _ _ _ _ h4 k p (by simpa using hp)
     refine⟨e,by simpa using he,?_⟩
     have hls:ls++(List.range (k+1+1)).map (fun j=>(stH H ((v,H',0)::t) j).length)=ls++[H.length]++(List.range (k+1)).map fun j=>(stH H' t j).length:=by
      rw[List.range_succ_eq_map];simp[stH,Function.comp_def]
     rw[hls,show i+(k+1)=i+1+k by omega]
     have hl:(k+1+1=(o::r).length)=(k+1=r.length):=by simp
     rw[hl]
     exact hat
  | (v,H',1)::t,⟨hv,hH,h1,h2⟩=>
    subst hv;subst hH
    cases k with
    |zero=>
     simp at hp;subst hp
     refine⟨_,rfl,?_⟩
     have e1:stH H' ((gone,H',1)::t) 1=H':=by simp only[stH]
     have e2:stA K.n a (o::r) ((gone,H',1)::t) 1=aB K.n a o.dst gone:=by simp only[stA]
     exact⟨e1,h1,e2⟩
    |succ k=>
     obtain⟨e,he,hat⟩:=ih _ _ _ _ _ h2 k p (by simpa using hp)
     refine⟨e,by simpa using he,?_⟩
     have hls:ls++(List.range (k+1+1)).map (fun j=>(stH H' ((gone,H',1)::t) j).length)=ls++[H'.length]++(List.range (k+1)).map fun j=>(stH H' t j).length:=by
      rw[List.range_succ_eq_map];simp[stH,Function.comp_def]
     rw[hls,show i+(k+1)=i+1+k by omega]
     have hl:(k+1+1=(o::r).length)=(k+1=r.length):=by simp
     rw[hl]
     exact hat
  | (v,H',2)::t,⟨h0,h1,h2,h3,h4,h5⟩=>
    subst h0;subst h1
    cases k with
    |zero=>
     simp at hp;subst hp
     refine⟨_,rfl,rfl,?_,?_,h2,h3,h4,h5⟩
     ·simp only[stH]
     ·simp only[stA]
    |succ k=>simp at hp
theorem Da{P:Program}{C:Orc}{H H':AH}{ρ:Operand->Value}{op:Op}{v:Value}(h:cH P C H ρ op=some (.val v H'))(hs:iV ρ op=true)(ha:lL .still op=false):H'=H:=by
 cases op with
 |move x=>cases h;rfl
 |assign x=>cases h;rfl
 |makeFunc fn p q=>cases h;rfl
 |pick c a b=>
  simp only[cH]at h
  split at h
  ·cases h;rfl
  ·cases h
 |nilCheck x=>
  simp only[cH]at h
  split at h
  ·cases h;rfl
  ·cases h;rfl
  ·cases h
 |build t ps|binOp o t x y yt|unOp o t x|convert s d x|makeInterface t x|slice t x lo hi mx|fieldAddr s x f|field t x f|indexAddr t x i|index t x i|extract t i=>exact(lM h).2
 |alloc e|box e x|buildSlice t l ps|makeMap t r|makeSlice t l c=>cases ha
 |call c=>
  simp only[cH]at h
  unfold ft at h
  simp only[iV]at hs
  split at hs
  ·rename_i hc
   simp only[hc]at h
   split at hs
   ·rename_i a n k he
    simp only[he,eC]at h
    cases ht:c.argTypes[0]? with
    |none=>rw[ht]at h;cases h
    |some t=>rw[ht]at h;exact(lM h).2
   ·rename_i s he
    simp only[he,eC]at h
    cases ht:c.argTypes[0]? with
    |none=>rw[ht]at h;cases h
    |some t=>rw[ht]at h;exact(lM h).2
   ·cases hs
  ·cases hs
 |_=>cases hs
theorem tq(H:AH):dB (fun _=>true) H=H:=by
 apply FM
 intro n
 unfold dB
 rw[EM]
 by_cases hn:n<H.length
 ·rw[EW hn,Option.map_some,if_pos rfl]
  unfold at_
  rw[Ex hn];rfl
 ·rw[Fd (by simpa using hn),Fd (by omega)];rfl
theorem jE{ops:List Oper}{o:Oper}{a:Env}: ∀x∈o.op.operands.toList,bq (pick (kW ops o) a) x=bq a x:=by
 intro x hx
 cases x with
 |tmp t=>
  simp only[bq]
  rw[nU,if_pos]
  simp only[kW,EY]
  left
  simp only[tmpsOf,FB]
  exact⟨.tmp t,hx,rfl⟩
 |const v=>rfl
 |global g=>rfl
 |func f=>rfl
theorem lH{ops:List Oper}{o:Oper}{a:Env}:aJ ops.toArray (pick (kW ops o) a) o=aJ ops.toArray a o:=by
 unfold aJ
 cases hg:o.guard with
 |none=>rfl
 |some g=>
  obtain⟨j,want⟩:=g
  simp only[EX]
  cases hp:ops[j]? with
  |none=>rfl
  |some p=>
   cases hd:p.dst with
   |none=>simp only[hd]
   |some d=>
    simp only[hd]
    rw[nU,if_pos]
    simp[kW,wq,hg,hp,hd]
theorem Bk{P:Program}{H:AH}{t:TypeId}{n i:Nat}:dQ P (dB (fun k=>k==n) H) t (.pointer (some ⟨n,i,none⟩))=dQ P H t (.pointer (some ⟨n,i,none⟩)):=by
 have hc:aP (dB (fun k=>k==n) H) n=aP H n:=by
  unfold aP
  rw[pP,if_pos (by simp)]
 unfold dQ
 simp only[ak,aj,hc]
def uI(ks:List Kd)(i n:Nat):Bool:=match cg ks i with| .still=>false| .loud| .eff=>true| .one k=>n==k
def sG(t:List Ent)(i:Nat):Nat:=match t[i]? with|some e=>e.2.2|none=>0
def cN(K:Cx)(ops:List Oper)(ks:List Kd)(a:Env)(H:AH)(t:List Ent):Tr where
 ops:=ops
 n:=K.n
 v:=fun i=>match t[i]? with|some e=>e.1|none=>undef
 H:=stH H t
 G:=fun i=>if sG t i=2 then(match t[i]? with|some e=>e.2.1|none=>[])else
  match cg ks i with
  | .still=>dB (fun _=>false) (stH H t i)++(stH H t (i+1)).drop (stH H t i).length
  | .one k=>dB (fun n=>n==k) (stH H t i)
  |_=>stH H t (i+1)
 a:=stA K.n a ops t
 ts:=tu ops
 nd:=uI ks
 pan:=decide (0<ops.length)&&sG t (ops.length-1)==2
theorem chk_deps{ops:List Oper}{ks:List Kd}(h:chk ops ks=true){i:Nat}{o:Oper}(ho:ops[i]? =some o): ∀j∈deps o,j<i:=by
 unfold chk at h
 rw[EI]at h
 have hi:i<ops.length:=(Ey.1 ho).1
 have:=h i (by simpa using hi)
 rw[ho]at this
 simp only[EC,EI,decide_eq_true_eq]at this
 exact this.1
theorem kB{ops:List Oper}{ks:List Kd}(h:chk ops ks=true){i j:Nat}(hi:i<ops.length)(hj:j<i):fW ops ks i j=true:=by
 unfold chk at h
 rw[EI]at h
 have:=h i (by simpa using hi)
 simp only[EC,EI]at this
 exact this.2 j (by simpa using hj)
section
variable {K:Cx}{ops:List Oper}{ks:List Kd}{Q:AX->Env->AH->Prop}{a:Env}{H:AH}{t:List Ent}
theorem mW(h:Vd K ops ks Q 0 [] ops a H t){i:Nat}{o:Oper}(ho:ops[i]? =some o):
 ∃e,t[i]? =some e/\At K ops ks Q i (i+1=ops.length) o (stA K.n a ops t i) (stA K.n a ops t (i+1)) (stH H t i) (stH H t (i+1)) ((List.range (i+1)).map fun j=>(stH H t j).length) e:=by
 obtain⟨e,h1,h2⟩:=Vd.at ops 0 [] a H t h i o ho
 simp only[EU,List.nil_append]at h2
 exact⟨e,h1,h2⟩
theorem ud(h:Vd K ops ks Q 0 [] ops a H t){i:Nat}(hi:i<ops.length):
 (∃aC,stH H t (i+1)=stH H t i++aC)\/((cg ks i).isEff=true/\(stH H t i).length<=(stH H t (i+1)).length/\Xc ops ks i ((List.range (i+1)).map fun j=>(stH H t j).length) (stH H t i) (stH H t (i+1))):=by
 obtain⟨⟨v,G,f⟩,h1,h2⟩:=mW h (Ex hi)
 match f,h2 with
 | 0,⟨_,_,hd,hx,_⟩=>
   cases hk:cg ks i with
   |still=>
    rw[hk]at hd
    obtain⟨aC,h3,_⟩:=jB hd.1 hd.2
    exact .inl ⟨aC,h3⟩
   |loud=>rw[hk]at hd;exact .inl hd.2
   |one n=>
    rw[hk]at hd
    obtain⟨_,_,_,_,_,_,h3⟩:=hd
    exact .inl ⟨[],by rw[h3];simp⟩
   |eff=>rw[hk]at hd;exact .inr ⟨rfl,hd.2,hx (by rw[hk];rfl)⟩
 | 1,⟨h3,_⟩=>exact .inl ⟨[],by rw[h3];simp⟩
 | 2,⟨_,h3,_⟩=>exact .inl ⟨[],by rw[h3];simp⟩
 |_+3,h2=>exact h2.elim
theorem wL(h:Vd K ops ks Q 0 [] ops a H t){i n:Nat}(hi:i<ops.length)(hn:n<(stH H t i).length)(hc:at_ (stH H t (i+1)) n≠at_ (stH H t i) n):
 (cg ks i).isEff=true/\Xc ops ks i ((List.range (i+1)).map fun j=>(stH H t j).length) (stH H t i) (stH H t (i+1)):=by
 rcases ud h hi with ⟨aC,e⟩|⟨h1,_,h2⟩
 ·rw[e,ag hn]at hc;exact absurd rfl hc
 ·exact⟨h1,h2⟩
theorem wF(h:Vd K ops ks Q 0 [] ops a H t){i:Nat}(hi:i<ops.length):(stH H t i).length<=(stH H t (i+1)).length:=by
 rcases ud h hi with ⟨aC,e⟩|⟨_,h1,_⟩
 ·rw[e];simp
 ·exact h1
theorem zY(h:Vd K ops ks Q 0 [] ops a H t){j:Nat}{o:Oper}(ho:ops[j]? =some o)(hl:(stH H t j).length<(stH H t (j+1)).length):lL (cg ks j) o.op=true:=by
 obtain⟨⟨v,G,f⟩,h1,h2⟩:=mW h ho
 match f,h2 with
 | 0,⟨_,_,hd,hx,_⟩=>
   cases hk:cg ks j with
   |still=>
    rw[hk]at hd
    cases ha:lL .still o.op with
    |true=>rfl
    |false=>rw[Da hd.1 hd.2 ha]at hl;omega
   |loud=>rfl
   |one n=>
    rw[hk]at hd
    obtain⟨_,_,_,_,_,_,h3⟩:=hd
    rw[h3]at hl;omega
   |eff=>rfl
 | 1,⟨h3,_⟩=>rw[h3]at hl;omega
 | 2,⟨_,h3,_⟩=>rw[h3]at hl;omega
 |_+3,h2=>exact h2.elim
theorem tV(h:Vd K ops ks Q 0 [] ops a H t)(hc:chk ops ks=true)(hend:(cN K ops ks a H t).pan=false->Q .normal (stA K.n a ops t ops.length) (stH H t ops.length)):
 (cN K ops ks a H t).Good K.P Q where
 mono i hi:=wF h hi
 deps i o ho:=chk_deps hc ho
 op i o ho:=by
  obtain⟨⟨v,G,f⟩,h1,h2⟩:=mW h ho
  have hil:i<ops.length:=(Ey.1 ho).1
  have hfl:sG t i=f:=by unfold sG;rw[h1]
  have ho':ops[i]? =some o:=ho
  have hts:(cN K ops ks a H t).ts i=kW ops o:=by simp only[cN,tu,ho']
  have hnl:f≠2-> ¬((cN K ops ks a H t).pan=true/\i+1=(cN K ops ks a H t).m):=by
   intro hf ⟨hp,hm⟩
   simp only[cN,Tr.m]at hp hm
   simp only[EC,beq_iff_eq]at hp
   rw[show ops.length-1=i by omega,hfl]at hp
   exact hf hp.2
  match f,h2 with
  | 0,⟨_,hw,hd,hx,ha⟩=>
    refine .inr ⟨hnl (by omega),.inl ⟨by rw[hts];exact lH.trans hw,?_,?_,?_,?_,?_⟩⟩
    ·rw[hts]
     have hv:(cN K ops ks a H t).v i=v:=by simp only[cN,h1]
     rw[hv]
     cases hk:cg ks i with
     |still=>
      rw[hk]at hd
      obtain⟨aC,h3,h4⟩:=jB hd.1 hd.2
      have hG:(cN K ops ks a H t).G i=dB (fun _=>false) (stH H t i)++aC:=by
       simp only[cN,hfl,hk]
       rw[if_neg (by omega),h3];simp
      have hnd:(cN K ops ks a H t).nd i=fun _=>false:=by funext n;simp only[cN,uI,hk]
      rw[hG,hnd]
      refine bO.ev ?_
      rw[jv jE]
      exact h4 _ (dh _ _)
     |loud=>
      rw[hk]at hd
      obtain⟨⟨C,hC,he⟩,_⟩:=hd
      have hG:(cN K ops ks a H t).G i=stH H t (i+1):=by simp only[cN,hfl,hk];rw[if_neg (by omega)]
      have hnd:(cN K ops ks a H t).nd i=fun _=>true:=by funext n;simp only[cN,uI,hk]
      rw[hG,hnd,tq]
      exact⟨C,hC,by rw[jv jE];exact he⟩
     |eff=>
      rw[hk]at hd
      obtain⟨⟨C,hC,he⟩,_⟩:=hd
      have hG:(cN K ops ks a H t).G i=stH H t (i+1):=by simp only[cN,hfl,hk];rw[if_neg (by omega)]
      have hnd:(cN K ops ks a H t).nd i=fun _=>true:=by funext n;simp only[cN,uI,hk]
      rw[hG,hnd,tq]
      exact⟨C,hC,by rw[jv jE];exact he⟩
     |one n=>
      rw[hk]at hd
      obtain⟨ty,x,k,h3,h4,h5,h6⟩:=hd
      have hG:(cN K ops ks a H t).G i=dB (fun m=>m==n) (stH H t i):=by simp only[cN,hfl,hk];rw[if_neg (by omega)]
      have hnd:(cN K ops ks a H t).nd i=fun m=>m==n:=by funext m;simp only[cN,uI,hk]
      rw[hG,hnd]
      refine bO.ev ?_
      rw[jv jE,h3]
      have hh:dQ K.P (dB (fun m=>m==n) (stH H t i)) ty (bq (stA K.n a ops t i) x)=some v:=by
       rw[h4]at h5⊢
       rw[Bk];exact h5
      show((dQ K.P (dB (fun m=>m==n) (stH H t i)) ty (bq (stA K.n a ops t i) x)).map fun v=>OpR.val v _)=_
      rw[hh];rfl
    ·simp only[cN,hfl]
     rw[if_neg (by omega)]
     cases hk:cg ks i with
     |still=>
      rw[hk]at hd
      obtain⟨aC,h3,_⟩:=jB hd.1 hd.2
      simp only[h3,List.drop_left,Ez,dh]
     |one n=>
      rw[hk]at hd
      obtain⟨_,_,_,_,_,_,h6⟩:=hd
      simp only[h6,dh]
     |loud=>rfl
     |eff=>rfl
    ·intro n hn
     simp only[cN,hfl]at hn⊢
     rw[if_neg (by omega)]
     cases hk:cg ks i with
     |still=>
      rw[hk]at hd
      obtain⟨aC,h3,_⟩:=jB hd.1 hd.2
      simp only[uI,hk]at hn
      have hn':(stH H t i).length<=n:=hn.resolve_left (by simp)
      simp only[h3,List.drop_left]
      unfold at_
      rw[FK (by rw[dh];exact hn'),FK hn',dh]
     |one m=>
      rw[hk]at hd
      obtain⟨_,_,_,_,_,_,h6⟩:=hd
      simp only[uI,hk]at hn
      simp only[h6]
      rw[pP]
      rcases hn with hn|hn
      ·rw[if_pos hn]
      ·rw[dW hn];split<;>rfl
     |loud=>rfl
     |eff=>rfl
    ·intro n hn hnd
     simp only[cN,uI]at hn hnd⊢
     cases hk:cg ks i with
     |still=>
      rw[hk]at hd
      obtain⟨aC,h3,_⟩:=jB hd.1 hd.2
      rw[h3,ag hn]
     |one m=>
      rw[hk]at hd
      obtain⟨_,_,_,_,_,_,h6⟩:=hd
      rw[h6]
     |loud=>rw[hk]at hnd;cases hnd
     |eff=>rw[hk]at hnd;cases hnd
    ·have hv:(cN K ops ks a H t).v i=v:=by simp only[cN,h1]
     rw[hv];exact ha
  | 1,⟨h3,hw,ha⟩=>
    exact .inr ⟨hnl (by omega),.inr ⟨by rw[hts];exact lH.trans hw,h3,ha⟩⟩
  | 2,⟨hl,_⟩=>
    refine .inl ⟨?_,hl⟩
    simp only[cN,EC,beq_iff_eq,decide_eq_true_eq]
    exact⟨by omega,by rw[show ops.length-1=i by omega,hfl]⟩
  |_+3,h2=>exact h2.elim
 last i o ho hp hl:=by
  obtain⟨⟨v,G,f⟩,h1,h2⟩:=mW h ho
  have hfl:sG t i=f:=by unfold sG;rw[h1]
  have hl':i+1=ops.length:=hl
  simp only[cN,EC,beq_iff_eq,decide_eq_true_eq]at hp
  rw[show ops.length-1=i by omega,hfl]at hp
  obtain⟨_,hf⟩:=hp
  subst hf
  obtain⟨_,h3,h4,hw,⟨C,hC,he⟩,hk,hq⟩:=h2
  have ho':ops[i]? =some o:=ho
  have hts:(cN K ops ks a H t).ts i=kW ops o:=by simp only[cN,tu,ho']
  have hv:(cN K ops ks a H t).v i=v:=by simp only[cN,h1]
  have hG:(cN K ops ks a H t).G i=G:=by simp only[cN,hfl,h1,if_true]
  have hnd:(cN K ops ks a H t).nd i=fun _=>true:=by
   funext n
   simp only[cN,uI]
   cases hk':cg ks i<;>rw[hk']at hk<;>first|rfl|cases hk
  rw[hts,hv,hG,hnd,tq]
  exact⟨lH.trans hw,⟨C,hC,by rw[jv jE];exact he⟩,hq⟩
 tmp i j s hi hj hd hts:=by
  have:=kB hc hi hj
  simp only[fW,E8,EC]at this
  rcases this with ⟨⟨h1,_⟩,_⟩|h1
  ·have hd':mg ops j=some s:=hd
   rw[hd']at h1
   simp only[Fk,Ga,List.contains_eq_mem,decide_eq_false_iff_not,beq_eq_false_iff_ne]at h1
   rcases hts with h2|h2
   ·exact absurd h2 h1.1
   ·exact absurd h2 h1.2
  ·exact h1
 tmp' i j s hi hj hd hts:=by
  have:=kB hc hi hj
  simp only[fW,E8,EC]at this
  rcases this with ⟨⟨_,h1⟩,_⟩|h1
  ·have hd':mg ops i=some s:=hd
   rw[hd']at h1
   simp only[Fk,List.contains_eq_mem,decide_eq_false_iff_not]at h1
   exact absurd hts h1
  ·exact h1
 heap i e n hi he hne hnd hn hn' hch:=by
  obtain⟨h1,h2⟩:=wL h he hn' hch
  have hord:jS ops i e=true:=by
   cases hk:cg ks i with
   |still=>simp only[cN,uI,hk]at hnd;cases hnd
   |one m=>
    simp only[cN,uI,hk,beq_iff_eq]at hnd
    subst hnd
    cases hio:jS ops i e with
    |true=>rfl
    |false=>
     refine absurd (h2.1 n ?_) hch
     unfold exN
     simp only[FB,ET]
     refine⟨i,hi,?_⟩
     rw[hk];simp[hne,hio]
   |loud=>
    unfold jS
    by_cases hlt:e<i
    ·rw[if_pos hlt]
     have:=kB hc hi hlt
     simp only[fW,E8,EC]at this
     rcases this with ⟨_,h3⟩|h3
     ·rw[h1,hk]at h3;simp[Kd.isLoud]at h3
     ·exact h3
    ·rw[if_neg hlt]
     have:=kB hc he (show i<e by omega)
     simp only[fW,E8,EC]at this
     rcases this with ⟨_,h3⟩|h3
     ·rw[h1,hk]at h3;simp[Kd.isLoud]at h3
     ·exact h3
   |eff=>
    unfold jS
    by_cases hlt:e<i
    ·rw[if_pos hlt]
     have:=kB hc hi hlt
     simp only[fW,E8,EC]at this
     rcases this with ⟨_,h3⟩|h3
     ·rw[h1,hk]at h3;simp[Kd.isLoud]at h3
     ·exact h3
    ·rw[if_neg hlt]
     have:=kB hc he (show i<e by omega)
     simp only[fW,E8,EC]at this
     rcases this with ⟨_,h3⟩|h3
     ·rw[h1,hk]at h3;simp[Kd.isLoud]at h3
     ·exact h3
  unfold jS at hord
  split
  ·rename_i hlt;rw[if_pos hlt]at hord;exact hord
  ·rename_i hlt;rw[if_neg hlt]at hord;exact hord
 made j e n hj he h1 h2 hch:=by
  have hjl:j<ops.length:=Hv hj he
  have hle: ∀k,j+1<=k->k<=e->(stH H t (j+1)).length<=(stH H t k).length:=by
   intro k
   induction k with
   |zero=>intro q;omega
   |succ k ih=>
    intro q q2
    by_cases hk:j+1=k+1
    ·rw[hk];exact EJ _
    ·exact Fz (ih (by omega) (by omega)) (wF h (EV (show k<e by omega) (FY he)))
  have hne:n<(stH H t e).length:=EV h2 (hle e (by omega) (EJ _))
  obtain⟨_,hx⟩:=wL h he hne hch
  cases hb:Bef ops e j with
  |true=>exact hb
  |false=>
   refine absurd (hx.2 j ?_ n ?_ ?_) hch
   ·unfold exJ
    simp only[Fb,ET]
    refine⟨hj,?_⟩
    rw[Ex hjl,hb]
    simp only[EC]
    exact⟨zY h (Ex hjl) (Nat.lt_of_le_of_lt h1 h2),rfl⟩
   ·rw[EF,EM,EW (by omega)]
    exact h1
   ·rw[EF,EM,EW (by omega)]
    exact h2
 pa j hj:=by
  obtain⟨⟨v,G,f⟩,h1,h2⟩:=mW h (Ex hj)
  have hfl:sG t j=f:=by unfold sG;rw[h1]
  by_cases hf:f=2
  ·subst hf
   exact .inr h2.2.2.1
  ·refine .inl fun⟨hp,hm⟩=> ?_
   simp only[cN,Tr.m]at hp hm
   simp only[EC,beq_iff_eq]at hp
   rw[show ops.length-1=j by omega,hfl]at hp
   exact hf hp.2
 some hp:=by
  simp only[cN,EC,decide_eq_true_eq]at hp
  exact hp.1
 done hp:=hend hp
theorem wo: ∀(r:List Oper) (i:Nat) (ls:List Nat) (a:Env) (H:AH) (t:List Ent),Vd K ops ks Q i ls r a H t->(0<r.length->sG t (r.length-1)≠2)->Q .normal (stA K.n a r t r.length) (stH H t r.length):=by
 intro r
 induction r with
 |nil=>
  intro i ls a H t h _
  match t,h with
  | [],h=>exact h
 |cons o r ih=>
  intro i ls a H t h hf
  have hf':=hf (by simp)
  match t,h with
  | (v,H',0)::t,⟨h1,h2,h3,h4⟩=>
    refine ih _ _ _ _ t h4 fun hr=> ?_
    cases r with
    |nil=>simp at hr
    |cons p r=>simpa[sG]using hf'
  | (v,H',1)::t,⟨hv,hH,h1,h2⟩=>
    subst hv;subst hH
    refine ih _ _ _ _ t h2 fun hr=> ?_
    cases r with
    |nil=>simp at hr
    |cons p r=>simpa[sG]using hf'
  | (v,H',2)::t,⟨h0,h1,_⟩=>
    subst h0;subst h1
    simp[sG]at hf'
end
theorem Wa.drawn{K:Cx}{ops:List Oper}{Q:AX->Env->AH->Prop}{a:Env}{H:AH}(ks:List Kd)(hc:chk ops ks=true)(h:Dr K ops ks Q 0 [] ops a H):Wa K ops Q a H:=by
 obtain⟨t,ht⟩:=Dr.Em _ _ _ _ _ h
 have g:=tV ht hc fun hp=>by
  refine wo ops 0 [] a H t ht fun hl hf=> ?_
  simp only[cN,hf]at hp
  simp[hl]at hp
 have:=Wa.draw (cN K ops ks a H t) rfl g
 have e1:(cN K ops ks a H t).a 0=a:=by
  simp only[cN]
  cases ops<;>cases t<;>rfl
 have e2:(cN K ops ks a H t).H 0=H:=by
  simp only[cN]
  cases t<;>rfl
 rw[e1,e2]at this
 exact this
theorem W.drawn{K:Cx}{ops:List Oper}{Q:AX->Env->AH->Prop}{a:Env}{H:AH}{id:Nat}(ks:List Kd)(hm:K.P.follows .mixedOrders=true)(hc:chk ops ks=true)(h:Dr K ops ks Q 0 [] ops a H):W K (.region id ops.toArray true) Q a H:=W.ofWa hm (Wa.drawn ks hc h)
end Go.Ev
