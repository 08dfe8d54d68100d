import Derived.Test.YtjcomcgpjjianaaA5
set_option linter.all false
set_option maxHeartbeats 16000000
set_option maxRecDepth 8000
open Go.Value renaming int→O
open Go.IntKind renaming i64→U
namespace Go.Ev
def cut(σ:Ren)(k:Nat):Ren:=fun n=>if n<k then σ n else none
theorem bG{σ:Ren}{k n:Nat}{x:Loc}:cut σ k n=some x↔n<k/\σ n=some x:=by
 unfold cut;by_cases h:n<k<;>simp[h]
theorem fw{σ:Ren}{k l:Nat}(h:k<=l): ∀n x,cut σ k n=some x->cut σ l n=some x:=by
 intro n x hn
 rw[bG]at*
 exact⟨by omega,hn.2⟩
def Bel(k:Nat)(v:Value):Prop:= ∀σ v',VR σ v v'->VR (cut σ k) v v'
theorem Bel.of{σ:Ren}{k:Nat}{v v':Value}(h:VR σ v v')(hk: ∀n x,σ n=some x->n<k):Bel k v:=by
 induction h with
 |gone=>intro τ u hu;cases hu;exact .gone
 |junk v=>intro τ u _;exact .junk _
 |bool b=>intro τ u h;cases h;exact .bool _
 |int j n=>intro τ u h;cases h;exact .int _ _
 |string s=>intro τ u h;cases h;exact .string _
 |ptrNil=>intro τ u h;cases h;exact .ptrNil
 |yield hn=>intro τ u h;cases h with|yield h=>exact .yield (bG.2 ⟨hk _ _ hn,h⟩)
 |ptr hn=>intro τ u h;cases h with|ptr h=>exact .ptr (bG.2 ⟨hk _ _ hn,h⟩)
 |slNil=>intro τ u h;cases h;exact .slNil
 |sl hn hc=>
  intro τ u h
  cases h with
  |sl h hc=>exact .sl (bG.2 ⟨hk _ _ hn,h⟩) hc
 |slE=>
  intro τ u h
  cases h with
  |slE=>exact .slE
 |mapNil=>intro τ u h;cases h;exact .mapNil
 |map hn=>intro τ u h;cases h with|map h=>exact .map (bG.2 ⟨hk _ _ hn,h⟩)
 |nilFunc=>intro τ u h;cases h;exact .nilFunc
 |nilIface=>intro τ u h;cases h;exact .nilIface
 |iface t _ ih=>intro τ u h;cases h with|iface _ h=>exact .iface t (ih _ _ h)
 |func fn hf _ hc _ ih1 ih2=>
  rename_i f f' c c' _ _
  intro τ u h
  cases h with
  |func _ h1 h2 h3 h4=>
   refine .func fn h1 (fun i x x' a b=> ?_) h3 fun i x x' a b=> ?_
   ·obtain⟨hl,_⟩:=Fh.1 a
    exact ih1 i x _ a (EQ (hf▸hl)) _ _ (h2 i x x' a b)
   ·obtain⟨hl,_⟩:=Fh.1 a
    exact ih2 i x _ a (EQ (hc▸hl)) _ _ (h4 i x x' a b)
 |agg hc _ ih=>
  intro τ u h
  cases h with
  |agg h1 h2=>
   refine .agg h1 fun i x x' a b=> ?_
   obtain⟨hl,_⟩:=Fh.1 a
   exact ih i x _ a (EQ (hc▸hl)) _ _ (h2 i x x' a b)
 |tuple hc _ ih=>
  intro τ u h
  cases h with
  |junk=>exact .junk _
  |tuple h1 h2=>
   refine .tuple h1 fun i x x' a b=> ?_
   obtain⟨hl,_⟩:=Fh.1 a
   exact ih i x _ a (EQ (hc▸hl)) _ _ (h2 i x x' a b)
def bC(k:Nat)(o:AO):Prop:= ∀σ w x,OR σ w x o->OR (cut σ k) w x o
theorem bC.of{σ:Ren}{w:World}{x:Loc}{k:Nat}{o:AO}(h:OR σ w x o)(hk: ∀n x,σ n=some x->n<k):bC k o:=by
 cases o with
 |cells c e=>
  obtain⟨_,cs,_,h2,_,h4⟩:=h
  intro τ w' y ⟨g0,ds,g1,g2,g3,g4⟩
  refine⟨g0,ds,g1,g2,g3,fun i v v' a b=> ?_⟩
  obtain⟨hl,_⟩:=Ey.1 a
  exact Bel.of (h4 i v _ a (EQ (by omega))) hk _ _ (g4 i v v' a b)
 |ro c=>
  intro τ w' y g i v a
  obtain⟨v',e1,e2⟩:=h i v a
  obtain⟨u,f1,f2⟩:=g i v a
  exact⟨u,f1,Bel.of e2 hk _ _ f2⟩
 |map es=>
  obtain⟨_,ents,_,h2,h3⟩:=h
  intro τ w' y ⟨g0,ds,g1,g2,g3⟩
  refine⟨g0,ds,g1,g2,fun i a b e x y=> ?_⟩
  obtain⟨hl,_⟩:=Ey.1 x
  have q1:=h3 i a b _ x (EQ (by omega))
  have q2:=g3 i a b e x y
  exact⟨q2.1,Bel.of q1.2.1 hk _ _ q2.2.1,q2.2.2⟩
 |loop st pend ps assign body n env=>
  obtain⟨_,L,_,_,_,_,_,_,_,h8⟩:=h
  intro τ w' y ⟨g0,M,g1,g2,g3,g4,g5,g6,g7,g8⟩
  exact⟨g0,M,g1,g2,g3,g4,g5,g6,g7,fun t=>Bel.of (h8 t) hk _ _ (g8 t)⟩
 |dead=>intro _ _ _ _;trivial
def dB(nd:Nat->Bool)(H:AH):AH:=(List.range H.length).map fun n=>if nd n=true then at_ H n else .dead
theorem dh(nd:Nat->Bool)(H:AH):(dB nd H).length=H.length:=by simp[dB]
theorem dW{H:AH}{n:Nat}(h:H.length<=n):at_ H n= .dead:=by
 unfold at_;rw[Fd h];rfl
theorem pP(nd:Nat->Bool)(H:AH)(n:Nat):at_ (dB nd H) n=if nd n=true then at_ H n else .dead:=by
 by_cases h:n<H.length
 ·unfold dB
  unfold at_
  rw[EM,EW h]
  rfl
 ·rw[dW (by rw[dh];omega),dW (H:=H) (by omega)]
  split<;>rfl
def pick(ts:List Nat)(a:Env):Env:=ts.map fun t=>(t,ae a t)
theorem nU(a:Env)(t:Nat): ∀ts:List Nat,ae (pick ts a) t=if t∈ts then ae a t else undef
 | []=>by simp[pick,ae]
 |s::ts=>by
  simp only[pick,Fv,ae,EG]
  by_cases e:s=t
  ·subst e;simp
  ·rw[if_neg e]
   have:=nU a t ts
   simp only[pick]at this
   rw[this]
   have e': ¬t=s:=fun h=>e h.symm
   simp[e']
def kG(ops:List Oper)(Q:AX->Env->AH->Prop)(v:Value)(a:Env)(H:AH):Prop:= ∃a',(∀t,ae a' t=undef\/(ae a' t=ae a t/\ ∀o∈ops,o.dst≠some t))/\Q (.panic v) a' H
theorem kG.none{ops:List Oper}{Q:AX->Env->AH->Prop}{v:Value}{a:Env}{H:AH}(h:Q (.panic v) [] H):kG ops Q v a H:=⟨[],fun _=> .inl rfl,h⟩
structure Tr where
 ops:List Oper
 n:Nat
 v:Nat->Value
 H:Nat->AH
 G:Nat->AH
 a:Nat->Env
 ts:Nat->List Nat
 nd:Nat->Nat->Bool
 pan:Bool
namespace Tr
variable (T:Tr)
def m:Nat:=T.ops.length
def dst(j:Nat):Option Tmp:=(T.ops[j]?).bind (·.dst)
noncomputable def wrN(n j:Nat):Bool:= @decide (at_ (T.H (j+1)) n≠at_ (T.H j) n) (Classical.propDecidable _)
def wrT(t j:Nat):Bool:=T.dst j==some t&&decide (t<T.n)
theorem xn{T:Tr}{n j:Nat}(h:T.wrN n j=false):at_ (T.H (j+1)) n=at_ (T.H j) n:=by
 unfold wrN at h
 rw[@decide_eq_false_iff_not _ (Classical.propDecidable _)]at h
 exact Classical.not_not.1 h
theorem lh{T:Tr}{n j:Nat}(h:T.wrN n j=true):at_ (T.H (j+1)) n≠at_ (T.H j) n:=by
 unfold wrN at h
 rwa [@decide_eq_true_iff _ (Classical.propDecidable _)]at h
theorem wrN_of{T:Tr}{n j:Nat}(h:at_ (T.H (j+1)) n=at_ (T.H j) n):T.wrN n j=false:=by
 cases e:T.wrN n j with
 |false=>rfl
 |true=>exact absurd h (lh e)
structure Good(T:Tr)(P:Program)(Q:AX->Env->AH->Prop):Prop where
 mono: ∀i,i<T.m->(T.H i).length<=(T.H (i+1)).length
 deps: ∀(i:Nat) (o:Oper),T.ops[i]? =some o-> ∀j∈deps o,j<i
 op: ∀(i:Nat) (o:Oper),T.ops[i]? =some o->(T.pan=true/\i+1=T.m)\/(¬(T.pan=true/\i+1=T.m)/\((aJ T.ops.toArray (pick (T.ts i) (T.a i)) o=some true/\bO P (pick (T.ts i) (T.a i)) (dB (T.nd i) (T.H i)) o.op (.val (T.v i) (T.G i))/\(T.G i).length=(T.H (i+1)).length/\(∀n,(T.nd i n=true\/(T.H i).length<=n)->at_ (T.G i) n=at_ (T.H (i+1)) n)/\(∀n,n<(T.H i).length->T.nd i n=false->at_ (T.H (i+1)) n=at_ (T.H i) n)/\T.a (i+1)=aB T.n (T.a i) o.dst (T.v i))\/(aJ T.ops.toArray (pick (T.ts i) (T.a i)) o=some false/\T.H (i+1)=T.H i/\T.a (i+1)=aB T.n (T.a i) o.dst gone)))
 last: ∀(i:Nat) (o:Oper),T.ops[i]? =some o->T.pan=true->i+1=T.m->aJ T.ops.toArray (pick (T.ts i) (T.a i)) o=some true/\bO P (pick (T.ts i) (T.a i)) (dB (T.nd i) (T.H i)) o.op (.pan (T.v i) (T.G i))/\kG T.ops Q (T.v i) (T.a i) (T.G i)
 tmp: ∀i j t,i<T.m->j<i->T.dst j=some t->(t∈T.ts i\/T.dst i=some t)->Bef T.ops i j=true
 tmp': ∀i j t,i<T.m->j<i->T.dst i=some t->t∈T.ts j->Bef T.ops i j=true
 heap: ∀i e n,i<T.m->e<T.m->i≠e->T.nd i n=true->n<(T.H i).length->n<(T.H e).length->at_ (T.H (e+1)) n≠at_ (T.H e) n->(if e<i then Bef T.ops i e else Bef T.ops e i)=true
 made: ∀j e n,j<e->e<T.m->(T.H j).length<=n->n<(T.H (j+1)).length->at_ (T.H (e+1)) n≠at_ (T.H e) n->Bef T.ops e j=true
 pa: ∀j,j<T.m-> ¬(T.pan=true/\j+1=T.m)\/T.a (j+1)=T.a j
 some:T.pan=true->0<T.m
 done:T.pan=false->Q .normal (T.a T.m) (T.H T.m)
variable {T}{P:Program}{Q:AX->Env->AH->Prop}
theorem Good.le(g:Good T P Q): ∀i j,i<=j->j<=T.m->(T.H i).length<=(T.H j).length:=by
 intro i j
 induction j with
 |zero=>intro h _;rw[show i=0 by omega];exact EJ _
 |succ j ih=>
  intro h hm
  by_cases e:i=j+1
  ·rw[e];exact EJ _
  ·exact Fz (ih (by omega) (by omega)) (g.mono j (by omega))
variable (T)
noncomputable def cont(S:Nat->Bool)(n:Nat):AO:=at_ (T.H (cY (T.wrN n) S T.m)) n
noncomputable def HS(S:Nat->Bool):AH:=(List.range (T.H T.m).length).map (T.cont S)
def Names(S:Nat->Bool)(n:Nat):Prop:=n<(T.H 0).length\/ ∃j,j<T.m/\S j=true/\(T.H j).length<=n/\n<(T.H (j+1)).length
structure Inv(K:Cx)(S:Nat->Bool)(σ:Ren)(act:Act)(w:World):Prop where
 hr:HR σ (T.HS S) w
 ex:Ext K.σ K.H K.w σ (T.HS S) w
 nm: ∀n x,σ n=some x->T.Names S n
 bn: ∀n x,σ n=some x->bC (T.H (cY (T.wrN n) S T.m)).length (T.cont S n)
 sz:act.tmps.size=K.n
 tm: ∀t,VR (cut σ (T.H (cY (T.wrT t) S T.m)).length) (ae (T.a (cY (T.wrT t) S T.m)) t) (act.tmps.getD t undef)
 df:act.defers=K.D
 base: ∀n x,K.σ n=some x->n<(T.H 0).length
 bl:K.H.length<=(T.H 0).length
variable {T}
theorem je(S:Nat->Bool):(T.HS S).length=(T.H T.m).length:=by simp[HS]
theorem uD(g:Good T P Q)(S:Nat->Bool)(n:Nat):at_ (T.HS S) n=T.cont S n:=by
 by_cases h:n<(T.H T.m).length
 ·unfold HS
  unfold at_
  rw[EM,EW h]
  rfl
 ·rw[dW (by rw[je];omega)]
  unfold cont
  rw[dW]
  exact Fz (g.le _ _ (qf _ _ _) (EJ _)) (by omega)
structure Next(T:Tr)(S:Nat->Bool)(i:Nat)(o:Oper):Prop where
 closed:nB T.ops S
 ho:T.ops[i]? =some o
 no:S i=false
 rdy: ∀k∈deps o,S k=true
 lt:i<T.m
section
variable {S:Nat->Bool}{i:Nat}{o:Oper}
theorem Next.ahead(x:Next T S i o){j:Nat}(h:Bef T.ops i j=true):S j=true:=Bef.ready x.closed x.ho x.rdy h
theorem Next.behind(x:Next T S i o){j:Nat}(hj:j<T.m)(h:Bef T.ops j i=true):S j=false:=by
 cases e:S j with
 |false=>rfl
 |true=>have:=Bef.mem x.closed e hj h;rw[x.no]at this;cases this
theorem wV(g:Good T P Q){n j:Nat}(hj:j<T.m)(h:T.wrN n j=true):n<(T.H (j+1)).length:=by
 by_cases e:n<(T.H (j+1)).length
 ·exact e
 ·have h2:=g.mono j hj
  exact absurd (by rw[dW (H:=T.H (j+1)) (by omega),dW (H:=T.H j) (by omega)]) (lh h)
theorem later(g:Good T P Q)(x:Next T S i o){n j:Nat}(hn:n<(T.H i).length)(hd:T.nd i n=true)(hij:i<j)(hj:j<T.m)(hw:T.wrN n j=true):S j=false:=by
 have hb:=g.heap i j n x.lt hj (by omega) hd hn (EV hn (g.le i j (by omega) (by omega))) (lh hw)
 rw[if_neg (by omega)]at hb
 exact x.behind hj hb
theorem here(g:Good T P Q)(x:Next T S i o){n:Nat}(hn:n<(T.H i).length)(hd:T.nd i n=true)(hnm:T.Names S n):T.cont S n=at_ (T.H i) n/\cY (T.wrN n) S T.m<=i:=by
 unfold cont
 refine kV (f:=fun k=>at_ (T.H k) n) (fun j _ h=>xn h) (FY x.lt) (fun j hj hw=> ?_) fun j hj hjm hw=> ?_
 ·by_cases hnj:n<(T.H j).length
  ·have:=g.heap i j n x.lt (Hv hj x.lt) (by omega) hd hn hnj (lh hw)
   rw[if_pos hj]at this
   exact x.ahead this
  ·have h1:=wV g (Hv hj x.lt) hw
   rcases hnm with h|⟨k,hk,hS,h2,h3⟩
   ·have:=g.le 0 j (by omega) (by have:=x.lt;omega)
    omega
   ·have:k=j:=by
     by_cases e:k=j
     ·exact e
     ·rcases Nat.lt_or_gt_of_ne e with e|e
      ·have:=g.le (k+1) j (by omega) (by have:=x.lt;omega)
       omega
      ·have:=g.le (j+1) k (by omega) (by omega)
       omega
    subst this;exact hS
 ·by_cases e:j=i
  ·subst e;exact x.no
  ·exact later g x hn hd (by omega) hjm hw
theorem there(g:Good T P Q)(x:Next T S i o){n:Nat}(h1:(T.H i).length<=n)(h2:n<(T.H (i+1)).length):T.cont S n= .dead:=by
 unfold cont
 have:at_ (T.H (cY (T.wrN n) S T.m)) n=at_ (T.H i) n:=by
  refine(kV (f:=fun k=>at_ (T.H k) n) (fun j _ h=>xn h) (FY x.lt) (fun j hj hw=> ?_) fun j hj hjm hw=> ?_).1
  ·have h3:=wV g (Hv hj x.lt) hw
   have:=g.le (j+1) i (by omega) (FY x.lt)
   omega
  ·by_cases e:j=i
   ·subst e;exact x.no
   ·exact x.behind hjm (g.made i j n (by omega) hjm h1 h2 (lh hw))
 rw[this,dW h1]
theorem w6{n:Nat}(h:T.wrN n i=false):T.cont (ins S i) n=T.cont S n:=by
 unfold cont;rw[iL h]
theorem cont_yes(g:Good T P Q)(x:Next T S i o){n:Nat}(hnd:n<(T.H i).length->T.nd i n=true)(h:T.wrN n i=true):T.cont (ins S i) n=at_ (T.H (i+1)) n:=by
 unfold cont
 rw[ky x.lt h fun j hj hjm hw=> ?_]
 have hlt:=wV g x.lt h
 by_cases hn:n<(T.H i).length
 ·exact later g x hn (hnd hn) hj hjm hw
 ·exact x.behind hjm (g.made i j n hj hjm (by omega) hlt (lh hw))
theorem tmp_at(g:Good T P Q)(x:Next T S i o){t:Nat}(ht:t∈T.ts i)(ha: ∀j,j<T.m->T.wrT t j=false->ae (T.a (j+1)) t=ae (T.a j) t):
 ae (T.a (cY (T.wrT t) S T.m)) t=ae (T.a i) t/\cY (T.wrT t) S T.m<=i:=by
 have h2: ∀j,i<=j->j<T.m->T.wrT t j=true->S j=false:=by
  intro j hj hjm hw
  simp only[wrT,EC,beq_iff_eq]at hw
  by_cases e:j=i
  ·subst e;exact x.no
  ·exact x.behind hjm (g.tmp' j i t hjm (by omega) hw.1 ht)
 refine kV (f:=fun k=>ae (T.a k) t) ha (FY x.lt) (fun j hj hw=> ?_) h2
 simp only[wrT,EC,beq_iff_eq]at hw
 exact x.ahead (g.tmp i j t x.lt hj hw.1 (.inl ht))
end
end Tr
namespace Tr
variable {T:Tr}{P:Program}{Q:AX->Env->AH->Prop}{K:Cx}{S:Nat->Bool}{σ:Ren}{act:Act}{w:World}{i:Nat}{o:Oper}
theorem sN{o:AO}(h:o.rw=true):o.live=true:=by cases o<;>first|rfl|cases h
theorem Inv.nm'(hi:T.Inv K S σ act w){n:Nat}{x:Loc}(h:cut σ (T.H i).length n=some x):n<(T.H i).length/\σ n=some x/\T.Names S n:=by
 rw[bG]at h
 exact⟨h.1,h.2,hi.nm n x h.2⟩
theorem eV(g:Good T P Q)(x:Next T S i o)(hi:T.Inv K S σ act w){n:Nat}{y:Loc}(h:cut σ (T.H i).length n=some y):
 at_ (dB (T.nd i) (T.H i)) n=if T.nd i n=true then at_ (T.HS S) n else .dead:=by
 obtain⟨h1,_,h3⟩:=hi.nm' h
 rw[pP]
 split
 ·rename_i hd
  rw[uD g,(here g x h1 hd h3).1]
 ·rfl
theorem pre_hr(g:Good T P Q)(x:Next T S i o)(hi:T.Inv K S σ act w):HR (cut σ (T.H i).length) (dB (T.nd i) (T.H i)) w:=by
 refine⟨fun n y h=> ?_,fun n y h=> ?_,fun n m y z hn hm hne hr hl=> ?_⟩
 ·obtain⟨h1,h2,_⟩:=hi.nm' h
  exact⟨by rw[dh];exact h1,(hi.hr.dom n y h2).2⟩
 ·rw[eV g x hi h]
  split
  ·obtain⟨h1,h2,h3⟩:=hi.nm' h
   rename_i hd
   have ho:=hi.hr.obj n y h2
   rw[uD g]at ho⊢
   have hb:=hi.bn n y h2 _ _ _ ho
   exact hb.keep (fw (g.le _ _ (here g x h1 hd h3).2 (FY x.lt))) rfl
  ·trivial
 ·rw[eV g x hi hn]at hr
  rw[eV g x hi hm]at hl
  split at hr
  ·split at hl
   ·exact hi.hr.inj n m y z (hi.nm' hn).2.1 (hi.nm' hm).2.1 hne hr hl
   ·cases hl
  ·cases hr
theorem pre_ex(g:Good T P Q)(x:Next T S i o)(hi:T.Inv K S σ act w):Ext K.σ K.H K.w (cut σ (T.H i).length) (dB (T.nd i) (T.H i)) w:=by
 have hle:=g.le 0 i (by omega) (FY x.lt)
 refine⟨fun n y h=> ?_,fun n y h=> ?_,?_,hi.ex.size,hi.ex.os,hi.ex.tape,hi.ex.output,hi.ex.frame,fun n y h hr hl=> ?_,fun n y h hr hl=> ?_⟩
 ·exact bG.2 ⟨EV (hi.base n y h) hle,hi.ex.sub n y h⟩
 ·exact hi.ex.new n y (hi.nm' h).2.1
 ·rw[dh];exact Fz hi.bl hle
 ·rw[eV g x hi h]at hr
  split at hr
  ·exact hi.ex.rwm n y (hi.nm' h).2.1 hr hl
  ·cases hr
 ·rw[eV g x hi h]at hr
  split at hr
  ·exact hi.ex.lvm n y (hi.nm' h).2.1 hr hl
  ·cases hr
theorem mI(g:Good T P Q)(t:Nat): ∀j,j<T.m->T.wrT t j=false->ae (T.a (j+1)) t=ae (T.a j) t:=by
 intro j hj hw
 have ho:T.ops[j]? =some T.ops[j]:=Ex hj
 have hput: ∀v,ae (aB T.n (T.a j) (T.ops[j]).dst v) t=ae (T.a j) t:=by
  intro v
  unfold aB
  split
  ·rename_i d hd
   split
   ·rename_i hlt
    simp only[ae]
    have: ¬d=t:=by
     intro e;subst e
     simp only[wrT,dst,ho,Option.bind_some,hd,beq_self_eq_true,F0,decide_eq_false_iff_not]at hw
     exact hw hlt
    rw[if_neg this]
   ·rfl
  ·rfl
 rcases g.pa j hj with h|h
 ·rcases g.op j _ ho with h1|⟨_,h1⟩
  ·exact absurd h1 h
  ·rcases h1 with h1|h1
   ·rw[h1.2.2.2.2.2];exact hput _
   ·rw[h1.2.2];exact hput _
 ·rw[h]
theorem pre_ar(g:Good T P Q)(hn:T.n=K.n)(x:Next T S i o)(hi:T.Inv K S σ act w):
 AR (cut σ (T.H i).length) K.n (pick (T.ts i) (T.a i)) act:=by
 refine⟨hi.sz,fun t=> ?_⟩
 rw[nU]
 split
 ·rename_i ht
  obtain⟨h1,h2⟩:=tmp_at g x ht (mI g t)
  have:=hi.tm t
  rw[h1]at this
  exact this.mono (fw (g.le _ _ h2 (FY x.lt)))
 ·exact .junk _
def ou(T:Tr)(i:Nat)(σ σ':Ren):Ren:=fun n=>if n<(T.H (i+1)).length then σ' n else σ n
section
variable {σ':Ren}{act':Act}{w':World}
def jA(T:Tr)(i n:Nat):Prop:=n<(T.H (i+1)).length/\(T.nd i n=true\/(T.H i).length<=n)
theorem contA(g:Good T P Q)(x:Next T S i o){G:AH}(hG: ∀n,(T.nd i n=true\/(T.H i).length<=n)->at_ G n=at_ (T.H (i+1)) n){n:Nat}(hA:jA T i n)(hnm:n<(T.H i).length->T.Names S n):T.cont (ins S i) n=at_ G n:=by
 rw[hG n hA.2]
 cases hw:T.wrN n i with
 |true=>exact cont_yes g x (fun h=>hA.2.resolve_right (by omega)) hw
 |false=>
  rw[w6 hw,xn hw]
  by_cases h:n<(T.H i).length
  ·exact(here g x h (hA.2.resolve_right (by omega)) (hnm h)).1
  ·rw[there g x (by omega) hA.1,dW (by omega)]
theorem contB(g:Good T P Q)(x:Next T S i o)(hU: ∀n,n<(T.H i).length->T.nd i n=false->at_ (T.H (i+1)) n=at_ (T.H i) n){n:Nat}(hB: ¬jA T i n):T.wrN n i=false:=by
 refine wrN_of ?_
 by_cases h:n<(T.H i).length
 ·refine hU n h ?_
  cases e:T.nd i n with
  |false=>rfl
  |true=>exact absurd ⟨EV h (g.mono i x.lt),.inl e⟩ hB
 ·have: ¬n<(T.H (i+1)).length:=fun h'=>hB ⟨h',.inr (by omega)⟩
  rw[dW (by omega),dW (by omega)]
end
end Tr
namespace Tr
variable {T:Tr}{P:Program}{Q:AX->Env->AH->Prop}{K:Cx}{S:Nat->Bool}{σ:Ren}{act:Act}{w:World}{i:Nat}{o:Oper}{σ':Ren}{w':World}{G:AH}
theorem Dm(g:Good T P Q)(x:Next T S i o){n:Nat}(hnm:T.Names S n)(h:n<(T.H (i+1)).length):n<(T.H i).length:=by
 rcases hnm with h0|⟨j,hj,hS,h1,h2⟩
 ·exact EV h0 (g.le 0 i (by omega) (FY x.lt))
 ·have hne:j≠i:=fun e=>by subst e;rw[x.no]at hS;cases hS
  rcases Nat.lt_or_gt_of_ne hne with e|e
  ·exact EV h2 (g.le (j+1) i (by omega) (FY x.lt))
  ·have:=g.le (i+1) j (by omega) (by omega)
   omega
structure Stepped(T:Tr)(P:Program)(Q:AX->Env->AH->Prop)(K:Cx)(S:Nat->Bool)(i:Nat)(o:Oper)(σ:Ren)(act:Act)(w:World)(σ':Ren)(w':World)(G:AH):Prop where
 g:Good T P Q
 x:Next T S i o
 hi:T.Inv K S σ act w
 hl:G.length=(T.H (i+1)).length
 hG: ∀n,(T.nd i n=true\/(T.H i).length<=n)->at_ G n=at_ (T.H (i+1)) n
 hU: ∀n,n<(T.H i).length->T.nd i n=false->at_ (T.H (i+1)) n=at_ (T.H i) n
 hr:HR σ' G w'
 ex:Ext (cut σ (T.H i).length) (dB (T.nd i) (T.H i)) w σ' G w'
theorem Stepped.old(s:Stepped T P Q K S i o σ act w σ' w' G){n:Nat}{y:Loc}(h:ou T i σ σ' n=some y)(hn:n<(T.H i).length\/ ¬n<(T.H (i+1)).length):σ n=some y:=by
 have hm:=s.g.mono i s.x.lt
 unfold ou at h
 split at h
 ·rename_i hlt
  rcases s.ex.new n y h with h1|⟨_,h2⟩
  ·exact(bG.1 h1).2
  ·rw[dh]at h2;rcases hn with hn|hn<;>omega
 ·exact h
theorem Stepped.oldB(s:Stepped T P Q K S i o σ act w σ' w' G){n:Nat}{y:Loc}(h:ou T i σ σ' n=some y)(hB: ¬jA T i n):σ n=some y:=by
 refine s.old h ?_
 by_cases h1:n<(T.H i).length
 ·exact .inl h1
 ·exact .inr fun h2=>hB ⟨h2,.inr (by omega)⟩
theorem Stepped.hand(s:Stepped T P Q K S i o σ act w σ' w' G){n:Nat}{y:Loc}(h:ou T i σ σ' n=some y)(hA:jA T i n):σ' n=some y:=by
 unfold ou at h;rwa [if_pos hA.1]at h
theorem Stepped.sub(s:Stepped T P Q K S i o σ act w σ' w' G): ∀n y,σ n=some y->ou T i σ σ' n=some y:=by
 intro n y h
 unfold ou
 split
 ·rename_i hlt
  exact s.ex.sub n y (bG.2 ⟨Dm s.g s.x (s.hi.nm n y h) hlt,h⟩)
 ·exact h
theorem Stepped.sub'(s:Stepped T P Q K S i o σ act w σ' w' G): ∀n y,σ' n=some y->ou T i σ σ' n=some y:=by
 intro n y h
 unfold ou
 have:=(s.hr.dom n y h).1
 rw[if_pos (by rw[<-s.hl];exact this)];exact h
theorem Stepped.ca(s:Stepped T P Q K S i o σ act w σ' w' G){n:Nat}{y:Loc}(h:ou T i σ σ' n=some y)(hA:jA T i n):at_ (T.HS (ins S i)) n=at_ G n:=by
 rw[uD s.g]
 exact contA s.g s.x s.hG hA fun hn=>s.hi.nm n y (s.old h (.inl hn))
theorem Stepped.cb(s:Stepped T P Q K S i o σ act w σ' w' G){n:Nat}(hB: ¬jA T i n):at_ (T.HS (ins S i)) n=at_ (T.HS S) n:=by
 rw[uD s.g,uD s.g,w6 (contB s.g s.x s.hU hB)]
theorem Stepped.held(s:Stepped T P Q K S i o σ act w σ' w' G){k:Nat}{z:Loc}(hk:cut σ (T.H i).length k=some z)(hr:(at_ (dB (T.nd i) (T.H i)) k).live=true):
 σ k=some z/\at_ (dB (T.nd i) (T.H i)) k=at_ (T.HS S) k/\jA T i k:=by
 have h1:=eV s.g s.x s.hi hk
 have h2:=s.hi.nm' hk
 split at h1
 ·rename_i hd
  exact⟨h2.2.1,h1,EV h2.1 (s.g.mono i s.x.lt),.inl hd⟩
 ·rw[h1]at hr;cases hr
theorem Stepped.blockB(s:Stepped T P Q K S i o σ act w σ' w' G){n:Nat}{y:Loc}(h:σ n=some y)(hB: ¬jA T i n)(hl:(at_ (T.HS S) n).live=true):w'.heap[y.1]? =w.heap[y.1]? :=by
 refine s.ex.frame y.1 (s.hi.hr.dom n y h).2 fun k z hk hr=> ?_
 obtain⟨h1,h2,h3⟩:=s.held hk (sN hr)
 exact s.hi.hr.inj k n z y h1 h (fun e=>hB (e▸h3)) (h2▸hr) hl
theorem Stepped.hr2(s:Stepped T P Q K S i o σ act w σ' w' G):HR (ou T i σ σ') (T.HS (ins S i)) w':=by
 refine⟨fun n y h=> ?_,fun n y h=> ?_,fun n m y z hn hm hne hrw hlv=> ?_⟩
 ·rw[je]
  have hm:=s.g.le (i+1) T.m (by have:=s.x.lt;omega) (EJ _)
  have h0:=h
  unfold ou at h
  split at h
  ·exact⟨by omega,(s.hr.dom n y h).2⟩
  ·have:=s.hi.hr.dom n y h
   rw[je]at this
   exact⟨this.1,EV this.2 s.ex.size⟩
 ·by_cases hA:jA T i n
  ·rw[s.ca h hA]
   exact(s.hr.obj n y (s.hand h hA)).keep s.sub' rfl
  ·rw[s.cb hA]
   have h1:=s.oldB h hA
   cases hl:(at_ (T.HS S) n).live with
   |true=>exact(s.hi.hr.obj n y h1).keep s.sub (s.blockB h1 hA hl)
   |false=>
    cases ho':at_ (T.HS S) n with
    |dead=>trivial
    |cells c e=>rw[ho']at hl;cases hl
    |ro c=>rw[ho']at hl;cases hl
    |map es=>rw[ho']at hl;cases hl
    |loop=>rw[ho']at hl;cases hl
 ·by_cases hA:jA T i n
  ·rw[s.ca hn hA]at hrw
   have hn':=s.hand hn hA
   by_cases hA':jA T i m
   ·rw[s.ca hm hA']at hlv
    exact s.hr.inj n m y z hn' (s.hand hm hA') hne hrw hlv
   ·rw[s.cb hA']at hlv
    have hm':=s.oldB hm hA'
    have hd:=(s.hi.hr.dom m z hm').2
    by_cases hlt:y.1<w.heap.size
    ·obtain⟨k,u,h1,h2,h3⟩:=s.ex.rwm n y hn' hrw hlt
     obtain⟨h4,h5,h6⟩:=s.held h1 (sN h2)
     rw[<-h3]
     exact s.hi.hr.inj k m u z h4 hm' (fun e=>hA' (e▸h6)) (h5▸h2) hlv
    ·omega
  ·rw[s.cb hA]at hrw
   have hn':=s.oldB hn hA
   have hd:=(s.hi.hr.dom n y hn').2
   by_cases hA':jA T i m
   ·rw[s.ca hm hA']at hlv
    have hm':=s.hand hm hA'
    by_cases hlt:z.1<w.heap.size
    ·obtain⟨k,u,h1,h2,h3⟩:=s.ex.lvm m z hm' hlv hlt
     obtain⟨h4,h5,h6⟩:=s.held h1 h2
     rw[<-h3]
     exact s.hi.hr.inj n k y u hn' h4 (fun e=>hA (e▸h6)) hrw (h5▸h2)
    ·omega
   ·rw[s.cb hA']at hlv
    exact s.hi.hr.inj n m y z hn' (s.oldB hm hA') hne hrw hlv
theorem Stepped.ex2(s:Stepped T P Q K S i o σ act w σ' w' G):Ext K.σ K.H K.w (ou T i σ σ') (T.HS (ins S i)) w':=by
 have hle:=s.g.le 0 i (by omega) (FY s.x.lt)
 refine⟨fun n y h=>s.sub n y (s.hi.ex.sub n y h),fun n y h=> ?_,?_,Fz s.hi.ex.size s.ex.size,s.ex.os.trans s.hi.ex.os,s.ex.tape.trans s.hi.ex.tape,s.ex.output.trans s.hi.ex.output,fun b hb hno=> ?_,fun n y h hr hl=> ?_,fun n y h hr hl=> ?_⟩
 ·by_cases h1:n<(T.H i).length\/ ¬n<(T.H (i+1)).length
  ·exact s.hi.ex.new n y (s.old h h1)
  ·refine .inr ⟨?_,?_⟩
   ·cases e:K.σ n with
    |none=>rfl
    |some z=>have:=s.hi.base n z e;omega
   ·have:=s.hi.bl;omega
 ·rw[je]
  exact Fz s.hi.bl (s.g.le 0 T.m (by omega) (EJ _))
 ·rw[s.ex.frame b (EV hb s.hi.ex.size) fun k z hk hr=> ?_,s.hi.ex.frame b hb hno]
  obtain⟨h1,h2,_⟩:=s.held hk (sN hr)
  intro e
  obtain⟨m,u,h3,h4,h5⟩:=s.hi.ex.rwm k z h1 (h2▸hr) (by omega)
  exact hno m u h3 h4 (by omega)
 ·by_cases hA:jA T i n
  ·rw[s.ca h hA]at hr
   obtain⟨k,u,h1,h2,h3⟩:=s.ex.rwm n y (s.hand h hA) hr (EV hl s.hi.ex.size)
   obtain⟨h4,h5,_⟩:=s.held h1 (sN h2)
   obtain⟨m,z,h6,h7,h8⟩:=s.hi.ex.rwm k u h4 (h5▸h2) (by omega)
   exact⟨m,z,h6,h7,by omega⟩
  ·rw[s.cb hA]at hr
   exact s.hi.ex.rwm n y (s.oldB h hA) hr hl
 ·by_cases hA:jA T i n
  ·rw[s.ca h hA]at hr
   obtain⟨k,u,h1,h2,h3⟩:=s.ex.lvm n y (s.hand h hA) hr (EV hl s.hi.ex.size)
   obtain⟨h4,h5,_⟩:=s.held h1 h2
   obtain⟨m,z,h6,h7,h8⟩:=s.hi.ex.lvm k u h4 (h5▸h2) (by omega)
   exact⟨m,z,h6,h7,by omega⟩
  ·rw[s.cb hA]at hr
   exact s.hi.ex.lvm n y (s.oldB h hA) hr hl
theorem Stepped.nm2(s:Stepped T P Q K S i o σ act w σ' w' G): ∀n y,ou T i σ σ' n=some y->T.Names (ins S i) n:=by
 intro n y h
 by_cases h1:n<(T.H i).length\/ ¬n<(T.H (i+1)).length
 ·rcases s.hi.nm n y (s.old h h1)with h2|⟨j,hj,hS,h2⟩
  ·exact .inl h2
  ·exact .inr ⟨j,hj,by unfold ins;split<;>simp[hS],h2⟩
 ·exact .inr ⟨i,s.x.lt,by simp[ins],by omega,by omega⟩
theorem Stepped.bn2(s:Stepped T P Q K S i o σ act w σ' w' G): ∀n y,ou T i σ σ' n=some y->bC (T.H (cY (T.wrN n) (ins S i) T.m)).length (T.cont (ins S i) n):=by
 intro n y h
 cases hw:T.wrN n i with
 |true=>
  have hA:jA T i n:=Fs fun hB=>by rw[contB s.g s.x s.hU hB]at hw;cases hw
  have hlw:cY (T.wrN n) (ins S i) T.m=i+1:=ky s.x.lt hw fun j hj hjm hwj=>by
   have hlt:=wV s.g s.x.lt hw
   by_cases hn:n<(T.H i).length
   ·exact later s.g s.x hn (hA.2.resolve_right (by omega)) hj hjm hwj
   ·exact s.x.behind hjm (s.g.made i j n hj hjm (by omega) hlt (lh hwj))
  have hc:=s.ca h hA
  rw[uD s.g]at hc
  rw[hlw,hc]
  exact bC.of (s.hr.obj n y (s.hand h hA)) fun k z hk=>by rw[<-s.hl];exact(s.hr.dom k z hk).1
 |false=>
  rw[w6 hw,iL hw]
  by_cases h1:n<(T.H i).length\/ ¬n<(T.H (i+1)).length
  ·exact s.hi.bn n y (s.old h h1)
  ·rw[there s.g s.x (by omega) (by omega)]
   intro _ _ _ _;trivial
theorem Stepped.inv(s:Stepped T P Q K S i o σ act w σ' w' G)(hn:T.n=K.n){v v':Value}(ha:T.a (i+1)=aB T.n (T.a i) o.dst v)(hv:VR σ' v v'):
 T.Inv K (ins S i) (ou T i σ σ') (act.put o.dst v') w':=by
 refine⟨s.hr2,s.ex2,s.nm2,s.bn2,?_,fun t=> ?_,by rw[dq];exact s.hi.df,s.hi.base,s.hi.bl⟩
 ·have:=s.hi.sz
  cases ho:o.dst<;>simp[Act.put,this]
 ·have hdst:T.dst i=o.dst:=by simp[dst,s.x.ho]
  cases hw:T.wrT t i with
  |true=>
   have hw0:=hw
   simp only[wrT,EC,beq_iff_eq,decide_eq_true_eq,hdst]at hw0
   rw[ky s.x.lt hw fun j hj hjm hwj=>by
    simp only[wrT,EC,beq_iff_eq]at hwj
    exact s.x.behind hjm (s.g.tmp j i t hjm hj (by rw[hdst];exact hw0.1) (.inr hwj.1))]
   rw[ha,hw0.1]
   have hg:(act.put (some t) v').tmps.getD t undef=v':=by
    have hlt:t<act.tmps.size:=by rw[s.hi.sz,<-hn];exact hw0.2
    simp[Act.put,hlt]
   rw[hg]
   simp only[aB,if_pos hw0.2,ae,if_true]
   refine hv.mono fun k z hk=> ?_
   exact bG.2 ⟨by rw[<-s.hl];exact(s.hr.dom k z hk).1,s.sub' k z hk⟩
  |false=>
   rw[iL hw]
   have hg:(act.put o.dst v').tmps.getD t undef=act.tmps.getD t undef:=by
    cases ho:o.dst with
    |none=>rfl
    |some d=>
     simp only[Act.put]
     rw[EZ,EZ,FC]
     by_cases e:d=t
     ·subst e
      have hnl: ¬d<act.tmps.size:=by
       intro hlt
       rw[s.hi.sz,<-hn]at hlt
       simp only[wrT,hdst,ho,beq_self_eq_true,F0,decide_eq_false_iff_not]at hw
       exact hw hlt
      rw[if_pos rfl,if_neg hnl,G8 (Nat.le_of_not_lt hnl)]
     ·rw[if_neg e]
   rw[hg]
   exact(s.hi.tm t).mono fun k z hk=>by
    rw[bG]at*
    exact⟨hk.1,s.sub k z hk.2⟩
end Tr
namespace Tr
variable {T:Tr}{Q:AX->Env->AH->Prop}{K:Cx}
def lists(l:Array Bool):Nat->Bool:=fun i=>l.getD i false
theorem lists_set{l:Array Bool}{i:Nat}(hi:i<l.size):lists (l.setIfInBounds i true)=ins (lists l) i:=by
 funext j
 unfold lists ins
 rw[EZ,FC]
 by_cases e:j=i
 ·subst e;simp[hi]
 ·have e': ¬i=j:=fun h=>e h.symm
  rw[if_neg e,if_neg e']
  simp[EZ]
def left(S:Nat->Bool):Nat->Nat
 | 0=>0
 |k+1=>left S k+cond (S k) 0 1
theorem sk(S:Nat->Bool)(i:Nat): ∀m,left (ins S i) m<=left S m
 | 0=>EJ _
 |m+1=>by
  have:=sk S i m
  have h:cond (ins S i m) 0 1<=cond (S m) 0 1:=by
   unfold ins
   split
   ·exact FT _
   ·exact EJ _
  simp only[left];omega
theorem uV{S:Nat->Bool}{i:Nat}(h:S i=false): ∀m,i<m->left (ins S i) m+1<=left S m
 | 0,hm=>by omega
 |m+1,hm=>by
  simp only[left]
  by_cases e:m=i
  ·subst e
   have:=sk S m m
   have h1:ins S m m=true:=by simp[ins]
   rw[h1,h];simp only[cond_true,cond_false];omega
  ·have:=uV h m (by omega)
   have h1:ins S i m=S m:=by simp[ins,e]
   rw[h1];omega
theorem qN{S:Nat->Bool}: ∀m,left S m=0-> ∀i,i<m->S i=true
 | 0,_,i,hi=>by omega
 |m+1,h,i,hi=>by
  simp only[left]at h
  by_cases e:i=m
  ·subst e
   cases hs:S i with
   |true=>rfl
   |false=>rw[hs]at h;simp at h
  ·exact qN m (by omega) i (by omega)
theorem mem_ready{l:Array Bool}(hs:l.size=T.m){i:Nat}(h:i∈Region.ready .any T.ops.toArray l): ∃o,T.ops[i]? =some o/\i<T.m/\lists l i=false/\ ∀k∈deps o,lists l k=true:=by
 unfold Region.ready at h
 simp only[Fb,ET,Gn,EC,Fk]at h
 obtain⟨h1,h2,h3⟩:=h
 have ho:T.ops[i]? =some T.ops[i]:=Ex h1
 refine⟨_,ho,h1,?_,fun k hk=> ?_⟩
 ·unfold lists
  have hi:i<l.size:=by rw[hs];exact h1
  rw[EZ,EQ hi]at*
  exact h2
 ·simp only[EX,ho,Option.map_some,Option.getD_some,GW,E8,Fk]at h3
  simp only[deps,E9,Fb]at hk
  obtain⟨e,⟨he,hb⟩,rfl⟩:=hk
  rcases h3 e (by simpa using he)with h|h
  ·rw[hb]at h;cases h
  ·exact h
theorem wK{P:Program}(g:Good T P Q){l:Array Bool}(hs:l.size=T.m)(h:Region.ready .any T.ops.toArray l=[]): ∀i,i<T.m->lists l i=true:=by
 intro i
 induction i using Nat.strongRecOn with
 |_ i ih=>
  intro hi
  cases hx:lists l i with
  |true=>rfl
  |false=>
   have ho:T.ops[i]? =some T.ops[i]:=Ex hi
   have hm:i∈Region.ready .any T.ops.toArray l:=by
    unfold Region.ready
    simp only[Fb,ET,Gn,EC,Fk]
    refine⟨hi,?_,?_⟩
    ·unfold lists at hx
     have hil:i<l.size:=by rw[hs];exact hi
     rw[EZ,EQ hil]at*
     exact hx
    ·simp only[EX,ho,Option.map_some,Option.getD_some,GW,E8,Fk]
     intro e he
     cases hb:Region.binds .any e with
     |false=>exact .inl rfl
     |true=>
      have hd:e.on∈deps T.ops[i]:=by
       simp only[deps,E9,Fb]
       exact⟨e,⟨by simpa using he,hb⟩,rfl⟩
      have hlt:=g.deps i _ ho _ hd
      exact .inr (ih _ hlt (by omega))
   rw[h]at hm;cases hm
theorem BY{S:Nat->Bool}(h: ∀j,j<T.m->S j=true):T.HS S=T.H T.m:=by
 have hc: ∀n,T.cont S n=at_ (T.H T.m) n:=fun n=>
  (kV (f:=fun k=>at_ (T.H k) n) (fun j _ hw=>xn hw) (EJ _) (fun j hj _=>h j hj) fun j hj hjm _=>by omega).1
 apply FM
 intro n
 unfold HS
 rw[EM]
 by_cases hn:n<(T.H T.m).length
 ·rw[EW hn,Option.map_some,hc]
  unfold at_
  rw[Ex hn];rfl
 ·rw[Fd (by simpa using hn),Fd (by omega)];rfl
theorem any_ok(g:Good T K.P Q)(hn:T.n=K.n): ∀(fuel:Nat) (l:Array Bool) (σ:Ren) (act:Act) (w:World),l.size=T.m->left (lists l) T.m<=fuel->nB T.ops (lists l)->T.Inv K (lists l) σ act w->(T.pan=true->lists l (T.m-1)=false)->wpAny K.P .any T.ops.toArray (qR K Q) fuel l act w:=by
 intro fuel
 have hdone: ∀(l:Array Bool) (σ:Ren) (act:Act) (w:World),l.size=T.m->T.Inv K (lists l) σ act w->(T.pan=true->lists l (T.m-1)=false)->(∀i,i<T.m->lists l i=true)->qR K Q .normal act w:=by
  intro l σ act w _ hi hpan hall
  have hp:T.pan=false:=by
   cases e:T.pan with
   |false=>rfl
   |true=>
    have h0:=g.some e
    have:=hall (T.m-1) (by omega)
    rw[hpan e]at this;cases this
  have hH:=BY hall
  refine⟨.normal,T.a T.m,T.H T.m,σ,g.done hp,trivial,⟨hH▸hi.hr,⟨hi.sz,fun t=> ?_⟩,hi.df,hH▸hi.ex⟩⟩
  have h1:=(kV (S:=lists l) (f:=fun k=>ae (T.a k) t) (mI g t) (EJ _) (fun j hj _=>hall j hj) fun j hj hjm _=>by omega).1
  have h2:=hi.tm t
  rw[h1]at h2
  exact h2.mono fun k z hk=>(bG.1 hk).2
 induction fuel with
 |zero=>
  intro l σ act w hs hf _ hi hpan
  have hall:=qN (S:=lists l) T.m (by omega)
  refine⟨?_,hdone l σ act w hs hi hpan hall⟩
  cases hr:Region.ready .any T.ops.toArray l with
  |nil=>rfl
  |cons i r=>
   obtain⟨o,_,h1,h2,_⟩:=mem_ready (T:=T) hs (i:=i) (by rw[hr];simp)
   rw[hall i h1]at h2;cases h2
 |succ fuel ih=>
  intro l σ act w hs hf hcl hi hpan
  refine⟨fun hr=>hdone l σ act w hs hi hpan (wK g hs hr),fun i hir=> ?_⟩
  obtain⟨o,ho,him,hno,hd⟩:=mem_ready (T:=T) hs hir
  have x:Next T (lists l) i o:=⟨hcl,ho,hno,hd,him⟩
  have hoa:T.ops.toArray[i]? =some o:=by rw[EX];exact ho
  have har:=pre_ar g hn x hi
  have hhr:=pre_hr g x hi
  have hex:=pre_ex g x hi
  have hset:=lists_set (l:=l) (i:=i) (by omega)
  have hcl':nB T.ops (ins (lists l) i):=by
   intro j p hj hp k hk
   unfold ins at hj⊢
   split
   ·rfl
   ·split at hj
    ·rename_i e;subst e;rw[ho]at hp;cases hp;exact hd k hk
    ·exact hcl j p hj hp k hk
  have hleft:left (ins (lists l) i) T.m<=fuel:=by have:=uV hno T.m him;omega
  unfold wpOp
  simp only[hoa]
  rcases g.op i o ho with ⟨hp,hlast⟩|⟨hnl,⟨hw,hst,hlen,hG,hU,ha⟩|⟨hw,hH,ha⟩⟩
  ·obtain⟨hw,⟨C,hC,he⟩,hq⟩:=g.last i o ho hp hlast
   rw[if_pos (cu har hw)]
   refine .inl (iJ hC hhr har he _ _ fun v' w' σ' hv hr' hx'=> ?_)
   obtain⟨a',ha',hq⟩:=hq
   refine⟨.panic (T.v i),a',T.G i,σ',hq,⟨v',rfl,hv⟩,hr',⟨har.len,fun t=> ?_⟩,hi.df,hex.trans hx'⟩
   rcases ha' t with h0|⟨h0,h1⟩
   ·rw[h0];exact .junk _
   ·have hwr: ∀j,T.wrT t j=false:=by
     intro j
     unfold wrT dst
     cases hj:T.ops[j]? with
     |none=>rfl
     |some p=>
      have:=h1 p (EE hj)
      simp only[Option.bind_some]
      have hb:(p.dst==some t)=false:=by simpa using this
      rw[hb];rfl
    have hzero: ∀m,cY (T.wrT t) (lists l) m=0:=by
     intro m
     induction m with
     |zero=>rfl
     |succ m ihm=>simp only[cY,hwr m];simpa using ihm
    have hsame: ∀j,j<=T.m->ae (T.a j) t=ae (T.a 0) t:=by
     intro j
     induction j with
     |zero=>intro _;rfl
     |succ j ihj=>intro hj;rw[mI g t j (by omega) (hwr j),ihj (by omega)]
    have ht:=hi.tm t
    rw[hzero]at ht
    rw[h0,hsame i (by omega)]
    exact(ht.mono (fw (g.le 0 i (by omega) (by omega)))).mono hx'.sub
  ·obtain⟨C,hC,he⟩:=hst
   rw[if_pos (cu har hw)]
   refine .inl (iJ hC hhr har he _ _ fun v' w' σ' hv hr' hx'=> ?_)
   have s:Stepped T K.P Q K (lists l) i o σ act w σ' w' (T.G i):=⟨g,x,hi,hlen,hG,hU,hr',hx'⟩
   have hinv:=s.inv hn ha hv
   rw[<-hset]at hinv hcl' hleft
   refine ih _ _ _ _ (by simpa using hs) hleft hcl' hinv fun hp=> ?_
   rw[hset]
   unfold ins
   split
   ·rename_i e
    have h0:=g.some hp
    exact absurd ⟨hp,by omega⟩ hnl
   ·exact hpan hp
  ·rw[if_neg (by rw[cu har hw];simp)]
   have s:Stepped T K.P Q K (lists l) i o σ act w (cut σ (T.H i).length) w (dB (T.nd i) (T.H i)):=by
    refine⟨g,x,hi,by rw[dh,hH],fun n hn=> ?_,fun n _ _=>by rw[hH],hhr,Ext.refl _ _ _⟩
    rw[pP,hH]
    rcases hn with h|h
    ·rw[if_pos h]
    ·rw[dW h];split<;>rfl
   have hinv:=s.inv hn ha .gone
   rw[<-hset]at hinv hcl' hleft
   refine ih _ _ _ _ (by simpa using hs) hleft hcl' hinv fun hp=> ?_
   rw[hset]
   unfold ins
   split
   ·rename_i e
    have h0:=g.some hp
    exact absurd ⟨hp,by omega⟩ hnl
   ·exact hpan hp
theorem lI{wr S:Nat->Bool}(h: ∀i,S i=false): ∀m,cY wr S m=0
 | 0=>rfl
 |m+1=>by simp only[cY,h m];simp[lI h m]
theorem start(g:Good T K.P Q){S:Nat->Bool}(hS: ∀i,S i=false){σ:Ren}{act:Act}{w:World}(h:In K (T.a 0) (T.H 0) σ act w):T.Inv K S σ act w:=by
 have hat: ∀n,at_ (T.HS S) n=at_ (T.H 0) n:=fun n=>by rw[uD g];unfold cont;rw[lI hS]
 have hle:=g.le 0 T.m (by omega) (EJ _)
 refine⟨⟨fun n x hn=> ?_,fun n x hn=> ?_,fun n m x y hn hm hne hr hl=> ?_⟩,⟨h.ex.sub,h.ex.new,?_,h.ex.size,h.ex.os,h.ex.tape,h.ex.output,h.ex.frame,fun n x hn hr hl=> ?_,fun n x hn hr hl=> ?_⟩,fun n x hn=> .inl (h.hr.dom n x hn).1,fun n x hn=> ?_,h.ar.len,fun t=> ?_,h.df,fun n x hn=>(h.hr.dom n x (h.ex.sub n x hn)).1,h.ex.len⟩
 ·rw[je];exact⟨EV (h.hr.dom n x hn).1 hle,(h.hr.dom n x hn).2⟩
 ·rw[hat];exact h.hr.obj n x hn
 ·rw[hat]at hr hl;exact h.hr.inj n m x y hn hm hne hr hl
 ·rw[je];exact Fz h.ex.len hle
 ·rw[hat]at hr;exact h.ex.rwm n x hn hr hl
 ·rw[hat]at hr;exact h.ex.lvm n x hn hr hl
 ·unfold cont
  rw[lI hS]
  exact bC.of (h.hr.obj n x hn) fun k y hk=>(h.hr.dom k y hk).1
 ·rw[lI hS]
  exact(h.ar.get t).mono fun k y hk=>bG.2 ⟨(h.hr.dom k y hk).1,hk⟩
end Tr
def Wa(K:Cx)(ops:List Oper)(Q:AX->Env->AH->Prop)(a:Env)(H:AH):Prop:= ∀σ act w,In K a H σ act w->wpAny K.P .any ops.toArray (qR K Q) ops.toArray.size (Array.replicate ops.toArray.size false) act {w with drawn:=w.drawn+1}
theorem W.ofWa{K:Cx}{ops:List Oper}{Q:AX->Env->AH->Prop}{a:Env}{H:AH}{id:Nat}(hm:K.P.follows .mixedOrders=true)(h:Wa K ops Q a H):W K (.region id ops.toArray true) Q a H:=fun σ act w hi=>wp_region_any hm (h σ act w hi)
theorem Wa.draw{K:Cx}{Q:AX->Env->AH->Prop}(T:Tr)(hn:T.n=K.n)(g:T.Good K.P Q):Wa K T.ops Q (T.a 0) (T.H 0):=by
 intro σ act w hi
 have hsz:(Array.replicate T.ops.toArray.size false).size=T.m:=by simp[Tr.m]
 have hS: ∀i,Tr.lists (Array.replicate T.ops.toArray.size false) i=false:=by
  intro i
  unfold Tr.lists
  rw[EZ,Array.getElem?_replicate]
  split<;>rfl
 have hi':In K (T.a 0) (T.H 0) σ act {w with drawn:=w.drawn+1}:=⟨hi.hr.world rfl,hi.ar,hi.df,hi.ex.trans (Ext.world rfl rfl rfl rfl)⟩
 have hleft: ∀m,Tr.left (Tr.lists (Array.replicate T.ops.toArray.size false)) m<=m:=by
  intro m
  induction m with
  |zero=>exact EJ _
  |succ m ih=>
   simp only[Tr.left]
   have:_root_.cond (Tr.lists (Array.replicate T.ops.toArray.size false) m) 0 1<=1:=by
    cases Tr.lists (Array.replicate T.ops.toArray.size false) m<;>simp
   omega
 exact Tr.any_ok g hn _ _ σ act _ hsz (by have:=hleft T.m;simpa[Tr.m]using this) (fun i o h _=>by rw[hS]at h;cases h) (Tr.start g hS hi') fun _=>hS _
end Go.Ev
