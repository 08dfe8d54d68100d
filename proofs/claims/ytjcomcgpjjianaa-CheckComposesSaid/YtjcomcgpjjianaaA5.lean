import Derived.Test.YtjcomcgpjjianaaA4
set_option linter.all false
set_option maxHeartbeats 16000000
set_option maxRecDepth 8000
open Go.Value renaming int→O
open Go.IntKind renaming i64→U
namespace Go.Ev
inductive OpR where
 |val (v:Value) (H:AH)
 |pan (v:Value) (H:AH)
def OpR.heap:OpR->AH
 | .val _ H| .pan _ H=>H
abbrev Orc:=FuncId->List Value->AH->Option OpR
def EndR(σ:Ren):OpR->Ending->Prop
 | .val v _,.returned v'=>VR σ v v'
 | .pan v _,.panicked ch=> ∃v',ch=[{v:=v',recovered:=false}]/\VR σ v v'
 |_,_=>False
def AC(P:Program)(f:FuncId)(args:List Value)(H:AH)(r:OpR):Prop:= ∀(σ:Ren) (w:World) (args':List Value),Rs σ args args'->HR σ H w->Calls P f args'.toArray w fun e w'=> ∃σ',EndR σ' r e/\HR σ' r.heap w'/\Ext σ H w σ' r.heap w'
def aO(P:Program)(f:FuncId):Prop:= ∃fn,P.funcs[f]? =some fn/\fn.body.isNone=false/\(fn.name== "runtime.NumGoroutine")=false
def CS(P:Program)(C:Orc):Prop:= ∀f args H r,C f args H=some r->aO P f/\AC P f args H r
abbrev Env:=List (Nat×Value)
def bq(a:Env):Operand->Value
 | .tmp t=>ae a t
 | .const v=>if plain v=true then v else undef
 | .global _=>undef
 | .func f=> .func (.func f) #[] #[]
structure AR(σ:Ren)(n:Nat)(a:Env)(act:Act):Prop where
 len:act.tmps.size=n
 get: ∀i,VR σ (ae a i) (act.tmps.getD i undef)
theorem AR.mono{σ σ':Ren}(hs: ∀n x,σ n=some x->σ' n=some x){n:Nat}{a:Env}{act:Act}(h:AR σ n a act):AR σ' n a act:=⟨h.len,fun i=>(h.get i).mono hs⟩
theorem AR.eval{σ:Ren}{n:Nat}{a:Env}{act:Act}(h:AR σ n a act)(x:Operand):VR σ (bq a x) (act.eval x):=by
 cases x with
 |tmp t=>exact h.get t
 |const v=>
  simp only[bq,Act.eval]
  split
  ·rename_i hp;exact cT σ hp
  ·exact .junk _
 |global g=>exact .junk _
 |func f=>exact .func _ rfl (by simp) rfl (by simp)
theorem AR.evalO{σ:Ren}{n:Nat}{a:Env}{act:Act}(h:AR σ n a act)(x:Option Operand):OV σ (x.map (bq a)) (x.map act.eval):=by
 cases x with
 |none=>trivial
 |some x=>exact h.eval x
theorem AR.evalL{σ:Ren}{n:Nat}{a:Env}{act:Act}(h:AR σ n a act)(l:List Operand):Rs σ (l.map (bq a)) (l.map act.eval):=by
 induction l with
 |nil=>exact Rs.nil σ
 |cons x l ih=>exact Rs.cons (h.eval x) ih
theorem AR.evalP{σ:Ren}{n:Nat}{a:Env}{act:Act}(h:AR σ n a act)(l:List (Nat×Operand)):Ps σ (l.map fun(i,x)=>(i,bq a x)) (l.map fun(i,x)=>(i,act.eval x)):=by
 induction l with
 |nil=>trivial
 |cons x l ih=>exact⟨rfl,h.eval x.2,ih⟩
def aB(n:Nat)(a:Env)(dst:Option Tmp)(v:Value):Env:=match dst with|some d=>if d<n then(d,v)::a else a|none=>a
theorem AR.put{σ:Ren}{n:Nat}{a:Env}{act:Act}(h:AR σ n a act)(dst:Option Tmp){v v':Value}(hv:VR σ v v'):AR σ n (aB n a dst v) (act.put dst v'):=by
 cases dst with
 |none=>exact h
 |some d=>
  have hl:=h.len
  refine⟨by simp[Act.put,hl],fun i=> ?_⟩
  have hi:=h.get i
  simp only[aB,Act.put]
  have hset:(act.tmps.setIfInBounds d v').getD i undef=if d=i/\d<n then v' else act.tmps.getD i undef:=by
   rw[EZ,EZ,FC]
   by_cases e:d=i
   ·subst e
    by_cases hd:d<n
    ·have h1:d<act.tmps.size:=hl▸hd
     simp[h1,hd]
    ·have h1: ¬d<act.tmps.size:=fun h=>hd (hl▸h)
     have h2:act.tmps[d]? =none:=G8 (Nat.le_of_not_lt h1)
     simp[hd,h2,hl]
   ·simp[e]
  rw[hset]
  by_cases hd:d<n
  ·rw[if_pos hd]
   simp only[ae]
   by_cases e:d=i
   ·rw[if_pos e,if_pos ⟨e,hd⟩];exact hv
   ·rw[if_neg e,if_neg (fun h=>e h.1)];exact hi
  ·rw[if_neg hd,if_neg (fun h=>hd h.2)];exact hi
theorem AR.less{σ:Ren}{n:Nat}{a a':Env}{act:Act}(h:AR σ n a act)(hl: ∀t,ae a' t=undef\/ae a' t=ae a t):AR σ n a' act:=by
 refine⟨h.len,fun i=> ?_⟩
 rcases hl i with e|e
 ·rw[e];exact .junk _
 ·rw[e];exact h.get i
def eC(P:Program)(H:AH)(b:Builtin)(ts:Array TypeId)(args:List Value):Option OpR:=match b,args with
 | .len,[x]=>match ts[0]? with|some t=>(rV P H t x).map fun v=> .val v H|none=>none
 | .append,[s,x]=>(bD P H ts s x).map fun r=> .val r.1 r.2
 | .clear,[x]=>(pE P H ts x).map fun r=> .val r.1 r.2
 | .max,[.int k x,.int k' y]=>if k=k' then some (.val (.int k (if y>x then y else x)) H)else none
 | .min,[.int k x,.int k' y]=>if k=k' then some (.val (.int k (if y<x then y else x)) H)else none
 |_,_=>none
def ft(P:Program)(C:Orc)(H:AH)(ρ:Operand->Value)(c:Call):Option OpR:=match c.callee with
 | .builtin b=>eC P H b c.argTypes (c.args.toList.map ρ)
 | .value f=>match ρ f with
   | .func (.func g) first cap=>C g (first.toList++c.args.toList.map ρ++cap.toList) H
   |_=>none
 | .invoke _ _=>none
def cH(P:Program)(C:Orc)(H:AH)(ρ:Operand->Value)(op:Op):Option OpR:=match op with
 | .move x| .assign x=>some (.val (ρ x) H)
 | .pick c a b=>match ρ c with| .bool t=>some (.val (if t=true then ρ a else ρ b) H)|_=>none
 | .alloc e=>(gN P H e).map fun r=> .val r.1 r.2
 | .box e x=>(lZ H e (ρ x)).map fun r=> .val r.1 r.2
 | .build t ps=>(bI P t (ps.toList.map fun(i,x)=>(i,ρ x))).map fun v=> .val v H
 | .buildSlice t len ps=>(aQ P H t len (ps.toList.map fun(i,x)=>(i,ρ x))).map fun r=> .val r.1 r.2
 | .insert t m k x| .mapUpdate t m k x=>(cR P H t (ρ m) (ρ k) (ρ x)).map fun H'=> .val undef H'
 | .load t a=>(dQ P H t (ρ a)).map fun v=> .val v H
 | .store t a x=>(nN P H t (ρ a) (ρ x)).map fun H'=> .val undef H'
 | .nilCheck x=>match ρ x with| .pointer (some a)=>some (.val (.pointer (some a)) H)| .func (.func f) p q=>some (.val (.func (.func f) p q) H)|_=>none
 | .binOp op t x y _=>(dx P op t (ρ x) (ρ y)).map fun v=> .val v H
 | .unOp op _ x=>(evUn op (ρ x)).map fun v=> .val v H
 | .convert s d x=>(xd P s d (ρ x)).map fun v=> .val v H
 | .makeInterface t x=>(pI P t (ρ x)).map fun v=> .val v H
 | .makeFunc fn p q=>some (.val (.func fn (p.map ρ) (q.map ρ)) H)
 | .makeMap _ r=>(cK H (r.map ρ)).map fun r=> .val r.1 r.2
 | .makeSlice t l c=>(cF P H t (ρ l) (ρ c)).map fun r=> .val r.1 r.2
 | .slice t x lo hi mx=>(lw P t (ρ x) (lo.map ρ) (hi.map ρ) (mx.map ρ)).map fun v=> .val v H
 | .fieldAddr s x f=>(dw P s (ρ x) f).map fun v=> .val v H
 | .field t x f=>(lQ P t (ρ x) f).map fun v=> .val v H
 | .indexAddr t x i=>(cJ P t (ρ x) (ρ i)).map fun v=> .val v H
 | .index t x i=>(eF P t (ρ x) (ρ i)).map fun v=> .val v H
 | .lookup t x k ok=>(cU P H t (ρ x) (ρ k) ok).map fun v=> .val v H
 | .mapEntry t m k=>(lV P H t (ρ m) (ρ k)).map fun r=> .val r.1 r.2
 | .entryStore _ m s x=>(iU H (ρ m) (ρ s) (ρ x)).map fun H'=> .val undef H'
 | .extract t i=>(gz (ρ t) i).map fun v=> .val v H
 | .call c=>ft P C H ρ c
 | .panic x=>match ρ x with| .iface t v=>some (.pan (.iface t v) H)|_=>none
 |_=>none
def Goes(P:Program)(σ:Ren)(H:AH)(w:World)(act:Act)(o:Oper)(r:OpR):Prop:= ∀(K:Act->World->Prop) (Q:Exit->Act->World->Prop),(match r with
 | .val v H'=> ∀v' w' σ',VR σ' v v'->HR σ' H' w'->Ext σ H w σ' H' w'->K (act.put o.dst v') w'
 | .pan v H'=> ∀v' w' σ',VR σ' v v'->HR σ' H' w'->Ext σ H w σ' H' w'->Q (.panic [{v:=v',recovered:=false}]) act w')->
                                                                                 o.wp P act w K Q
theorem aY{P:Program}{σ:Ren}{H:AH}{w:World}{act:Act}{o:Oper}{v v':Value}{H':AH}{σ':Ren}{w':World}(hrun:(execOp act.eval o).run P w= .ok (.value v') w')(hv:VR σ' v v')(hr:HR σ' H' w')(hx:Ext σ H w σ' H' w'):Goes P σ H w act o (.val v H'):=by
 intro K Q h
 unfold Oper.wp
 rw[hrun]
 exact h v' w' σ' hv hr hx
theorem nH{P:Program}{σ:Ren}{H:AH}{w:World}{act:Act}{o:Oper}{H':AH}{σ':Ren}{w':World}(hrun:(execOp act.eval o).run P w= .ok .skip w')(hr:HR σ' H' w')(hx:Ext σ H w σ' H' w'):Goes P σ H w act o (.val undef H'):=by
 intro K Q h
 unfold Oper.wp
 rw[hrun]
 exact h undef w' σ' (.junk _) hr hx
theorem ir{α:Type}{o:Option (Value×AH)}{r:OpR}(h:(o.map fun r=>OpR.val r.1 r.2)=some r): ∃v H',o=some (v,H')/\r= .val v H':=by
 simp only[EB]at h
 obtain⟨⟨v,H'⟩,h1,rfl⟩:=h
 exact⟨v,H',h1,rfl⟩
theorem iJ{P:Program}{C:Orc}(hC:CS P C){σ:Ren}{H:AH}{w:World}{n:Nat}{a:Env}{act:Act}(hr:HR σ H w)(ha:AR σ n a act){o:Oper}{r:OpR}(h:cH P C H (bq a) o.op=some r):Goes P σ H w act o r:=by
 unfold cH at h
 split at h
 ·rename_i x ho;cases h
  exact aY (by rw[execOp,ho];rfl) (ha.eval x) hr (Ext.refl _ _ _)
 ·rename_i x ho;cases h
  exact aY (by rw[execOp,ho];rfl) (ha.eval x) hr (Ext.refl _ _ _)
 ·rename_i c x y ho
  have hc:=ha.eval c
  split at h
  ·rename_i t ht
   rw[ht]at hc
   generalize hcc:act.eval c=cv at hc
   cases hc
   cases h
   refine aY (v':=if t=true then act.eval x else act.eval y) (by rw[execOp,ho];simp only[hcc,asBool,ED,Sem.run_pure,Result.andThen_ok]) ?_ hr (Ext.refl _ _ _)
   cases t
   ·exact ha.eval y
   ·exact ha.eval x
  ·cases h
 ·rename_i e ho
  obtain⟨v,H',h1,rfl⟩:=ir (α:=Unit) h
  obtain⟨r',w',σ',g1,g2,g3,g4⟩:=Af (P:=P) hr h1
  exact aY (by rw[execOp,ho];simp only[ED,g1,Result.andThen_ok,Sem.run_pure]) g2 g3 g4
 ·rename_i e x ho
  obtain⟨v,H',h1,rfl⟩:=ir (α:=Unit) h
  obtain⟨r',w',σ',g1,g2,g3,g4⟩:=yA (P:=P) hr (ha.eval x) h1
  exact aY (by rw[execOp,ho];simp only[ED,g1,Result.andThen_ok,Sem.run_pure]) g2 g3 g4
 ·rename_i t ps ho
  simp only[EB]at h
  obtain⟨v,h1,rfl⟩:=h
  obtain⟨v',g1,g2⟩:=z6 (P:=P) (w:=w) (ha.evalP ps.toList) h1
  refine aY (v':=v') ?_ g2 hr (Ext.refl _ _ _)
  rw[execOp,ho]
  have:(ps.map fun(i,x)=>(i,act.eval x))=(ps.toList.map fun(i,x)=>(i,act.eval x)).toArray:=by apply F9;simp
  simp only[this,ED,g1,Result.andThen_ok,Sem.run_pure]
 ·rename_i t len ps ho
  obtain⟨v,H',h1,rfl⟩:=ir (α:=Unit) h
  obtain⟨v',w',σ',g1,g2,g3,g4⟩:=sA (P:=P) hr (ha.evalP ps.toList) h1
  refine aY (v':=v') ?_ g2 g3 g4
  rw[execOp,ho]
  have:(ps.map fun(i,x)=>(i,act.eval x))=(ps.toList.map fun(i,x)=>(i,act.eval x)).toArray:=by apply F9;simp
  simp only[this,ED,g1,Result.andThen_ok,Sem.run_pure]
 ·rename_i t m k x ho
  simp only[EB]at h
  obtain⟨H',h1,rfl⟩:=h
  obtain⟨w',g1,g2,g3⟩:=mC (P:=P) hr (ha.eval m) (ha.eval k) (ha.eval x) h1
  exact nH (by rw[execOp,ho];simp only[ED,g1,Result.andThen_ok,Sem.run_pure]) g2 g3
 ·rename_i t m k x ho
  simp only[EB]at h
  obtain⟨H',h1,rfl⟩:=h
  obtain⟨w',g1,g2,g3⟩:=mC (P:=P) hr (ha.eval m) (ha.eval k) (ha.eval x) h1
  exact nH (by rw[execOp,ho];simp only[ED,g1,Result.andThen_ok,Sem.run_pure]) g2 g3
 ·rename_i t x ho
  simp only[EB]at h
  obtain⟨v,h1,rfl⟩:=h
  obtain⟨v',g1,g2⟩:=vw (P:=P) hr (ha.eval x) h1
  exact aY (by rw[execOp,ho];simp only[ED,g1,Result.andThen_ok,Sem.run_pure]) g2 hr (Ext.refl _ _ _)
 ·rename_i t x y ho
  simp only[EB]at h
  obtain⟨H',h1,rfl⟩:=h
  obtain⟨w',g1,g2,g3⟩:=Bs (P:=P) hr (ha.eval x) (ha.eval y) h1
  exact nH (by rw[execOp,ho];simp only[ED,g1,Result.andThen_ok,Sem.run_pure]) g2 g3
 ·rename_i x ho
  have hx:=ha.eval x
  split at h
  ·rename_i p hp
   rw[hp]at hx
   cases h
   generalize hxx:act.eval x=xv at hx
   cases hx with
   |ptr hn=>exact aY (by rw[execOp,ho];simp only[hxx];rfl) (.ptr hn) hr (Ext.refl _ _ _)
  ·rename_i f p q hp
   rw[hp]at hx
   cases h
   generalize hxx:act.eval x=xv at hx
   cases hx with
   |func _ h1 h2 h3 h4=>exact aY (by rw[execOp,ho];simp only[hxx];rfl) (.func _ h1 h2 h3 h4) hr (Ext.refl _ _ _)
  ·cases h
 ·rename_i op t x y yt ho
  simp only[EB]at h
  obtain⟨v,h1,rfl⟩:=h
  obtain⟨v',g1,g2⟩:=evBin_ok (P:=P) (w:=w) (xo:=x) (yo:=y) (ha.eval x) (ha.eval y) h1
  exact aY (v':=v') (by rw[execOp,ho];show Sem.run P (do let r<-(do eqGuard op t x y (act.eval x) (act.eval y);binOp op t (act.eval x) (act.eval y));pure (Next.value r)) w=_;rw[ED,g1];rfl) g2 hr (Ext.refl _ _ _)
 ·rename_i op t x ho
  simp only[EB]at h
  obtain⟨v,h1,rfl⟩:=h
  obtain⟨v',g1,g2⟩:=evUn_ok (P:=P) (w:=w) (ha.eval x) h1
  exact aY (by rw[execOp,ho];simp only[ED,g1,Result.andThen_ok,Sem.run_pure]) g2 hr (Ext.refl _ _ _)
 ·rename_i s d x ho
  simp only[EB]at h
  obtain⟨v,h1,rfl⟩:=h
  obtain⟨v',g1,g2⟩:=CH (P:=P) (w:=w) (ha.eval x) h1
  exact aY (by rw[execOp,ho];simp only[ED,g1,Result.andThen_ok,Sem.run_pure]) g2 hr (Ext.refl _ _ _)
 ·rename_i t x ho
  simp only[EB]at h
  obtain⟨v,h1,rfl⟩:=h
  obtain⟨v',g1,g2⟩:=AE (P:=P) (w:=w) (ha.eval x) h1
  exact aY (by rw[execOp,ho];simp only[ED,g1,Result.andThen_ok,Sem.run_pure]) g2 hr (Ext.refl _ _ _)
 ·rename_i fn p q ho
  cases h
  have key: ∀(l:Array Operand),(l.map (bq a)).size=(l.map act.eval).size/\ ∀(i:Nat) (v v':Value),(l.map (bq a))[i]? =some v->(l.map act.eval)[i]? =some v'->VR σ v v':=by
   intro l
   refine⟨by simp,fun i v v' x y=> ?_⟩
   simp only[Array.getElem?_map,EB]at x y
   obtain⟨u,x1,rfl⟩:=x
   obtain⟨u',y1,rfl⟩:=y
   rw[x1]at y1;cases y1
   exact ha.eval u
  exact aY (v':= .func fn (p.map act.eval) (q.map act.eval)) (by rw[execOp,ho];rfl) (.func fn (key p).1 (key p).2 (key q).1 (key q).2) hr (Ext.refl _ _ _)
 ·rename_i t x ho
  obtain⟨v,H',h1,rfl⟩:=ir (α:=Unit) h
  obtain⟨v',w',σ',g1,g2,g3,g4⟩:=wY (P:=P) (t:=t) hr (ha.evalO x) h1
  exact aY (by rw[execOp,ho];simp only[ED,g1,Result.andThen_ok,Sem.run_pure]) g2 g3 g4
 ·rename_i t l c ho
  obtain⟨v,H',h1,rfl⟩:=ir (α:=Unit) h
  obtain⟨v',w',σ',g1,g2,g3,g4⟩:=tC (P:=P) hr (ha.eval l) (ha.eval c) h1
  exact aY (by rw[execOp,ho];simp only[ED,g1,Result.andThen_ok,Sem.run_pure]) g2 g3 g4
 ·rename_i t x lo hi mx ho
  simp only[EB]at h
  obtain⟨v,h1,rfl⟩:=h
  obtain⟨v',g1,g2⟩:=Bd (P:=P) (w:=w) (ha.eval x) (ha.evalO lo) (ha.evalO hi) (ha.evalO mx) h1
  exact aY (by rw[execOp,ho];simp only[ED,g1,Result.andThen_ok,Sem.run_pure]) g2 hr (Ext.refl _ _ _)
 ·rename_i s x f ho
  simp only[EB]at h
  obtain⟨v,h1,rfl⟩:=h
  obtain⟨v',g1,g2⟩:=th (P:=P) (w:=w) (ha.eval x) h1
  exact aY (by rw[execOp,ho];simp only[ED,g1,Result.andThen_ok,Sem.run_pure]) g2 hr (Ext.refl _ _ _)
 ·rename_i s x f ho
  simp only[EB]at h
  obtain⟨v,h1,rfl⟩:=h
  obtain⟨v',g1,g2⟩:=Ap (P:=P) (w:=w) (ha.eval x) h1
  exact aY (by rw[execOp,ho];simp only[ED,g1,Result.andThen_ok,Sem.run_pure]) g2 hr (Ext.refl _ _ _)
 ·rename_i t x i ho
  simp only[EB]at h
  obtain⟨v,h1,rfl⟩:=h
  obtain⟨v',g1,g2⟩:=uP (P:=P) (w:=w) (ha.eval x) (ha.eval i) h1
  exact aY (by rw[execOp,ho];simp only[ED,g1,Result.andThen_ok,Sem.run_pure]) g2 hr (Ext.refl _ _ _)
 ·rename_i t x i ho
  simp only[EB]at h
  obtain⟨v,h1,rfl⟩:=h
  obtain⟨v',g1,g2⟩:=AV (P:=P) (w:=w) (ha.eval x) (ha.eval i) h1
  exact aY (by rw[execOp,ho];simp only[ED,g1,Result.andThen_ok,Sem.run_pure]) g2 hr (Ext.refl _ _ _)
 ·rename_i t x k ok ho
  simp only[EB]at h
  obtain⟨v,h1,rfl⟩:=h
  obtain⟨v',g1,g2⟩:=yM (P:=P) hr (ha.eval x) (ha.eval k) h1
  exact aY (by rw[execOp,ho];simp only[ED,g1,Result.andThen_ok,Sem.run_pure]) g2 hr (Ext.refl _ _ _)
 ·rename_i t m k ho
  obtain⟨v,H',h1,rfl⟩:=ir (α:=Unit) h
  obtain⟨v',w',g1,g2,g3,g4⟩:=vj (P:=P) hr (ha.eval m) (ha.eval k) h1
  exact aY (by rw[execOp,ho];simp only[ED,g1,Result.andThen_ok,Sem.run_pure]) g2 g3 g4
 ·rename_i t m s x ho
  simp only[EB]at h
  obtain⟨H',h1,rfl⟩:=h
  obtain⟨w',g1,g2,g3⟩:=sE (P:=P) (t:=t) hr (ha.eval m) (ha.eval s) (ha.eval x) h1
  exact nH (by rw[execOp,ho];simp only[ED,g1,Result.andThen_ok,Sem.run_pure]) g2 g3
 ·rename_i t i ho
  simp only[EB]at h
  obtain⟨v,h1,rfl⟩:=h
  obtain⟨v',g1,g2⟩:=w9 (P:=P) (w:=w) (ha.eval t) h1
  exact aY (by rw[execOp,ho];simp only[ED,g1,Result.andThen_ok,Sem.run_pure]) g2 hr (Ext.refl _ _ _)
 ·rename_i c ho
  unfold ft at h
  split at h
  ·rename_i b hcal
   have hargs:(c.args.map act.eval)=(c.args.toList.map act.eval).toArray:=by apply F9;simp
   have hres: ∀v' w',(Builtin.len_ c.argTypes o.type (c.args.map act.eval)).run P w= .ok v' w'->b= .len->(execOp act.eval o).run P w= .ok (.value v') w':=by
    intro v' w' hh hb;subst hb
    rw[execOp,ho]
    simp only[resolve,hcal,ED,Sem.run_pure,Result.andThen_ok,invoke,builtin,hh]
   have hrea: ∀v' w',(Builtin.append_ c.argTypes o.type (c.args.map act.eval)).run P w= .ok v' w'->b= .append->(execOp act.eval o).run P w= .ok (.value v') w':=by
    intro v' w' hh hb;subst hb
    rw[execOp,ho]
    simp only[resolve,hcal,ED,Sem.run_pure,Result.andThen_ok,invoke,builtin,hh]
   have hrem: ∀v' w',(Builtin.max_ c.argTypes o.type (c.args.map act.eval)).run P w= .ok v' w'->b= .max->(execOp act.eval o).run P w= .ok (.value v') w':=by
    intro v' w' hh hb;subst hb
    rw[execOp,ho]
    simp only[resolve,hcal,ED,Sem.run_pure,Result.andThen_ok,invoke,builtin,hh]
   have hrec: ∀v' w',(Builtin.clear_ c.argTypes o.type (c.args.map act.eval)).run P w= .ok v' w'->b= .clear->(execOp act.eval o).run P w= .ok (.value v') w':=by
    intro v' w' hh hb;subst hb
    rw[execOp,ho]
    simp only[resolve,hcal,ED,Sem.run_pure,Result.andThen_ok,invoke,builtin,hh]
   have hren: ∀v' w',(Builtin.min_ c.argTypes o.type (c.args.map act.eval)).run P w= .ok v' w'->b= .min->(execOp act.eval o).run P w= .ok (.value v') w':=by
    intro v' w' hh hb;subst hb
    rw[execOp,ho]
    simp only[resolve,hcal,ED,Sem.run_pure,Result.andThen_ok,invoke,builtin,hh]
   have hrs:=ha.evalL c.args.toList
   generalize hA:c.args.toList.map (bq a)=A at h hrs
   generalize hB:c.args.toList.map act.eval=B at hargs hrs
   unfold eC at h
   split at h
   ·rename_i x
    split at h
    ·rename_i t ht
     simp only[EB]at h
     obtain⟨v,h1,rfl⟩:=h
     match B,hrs with
     | [y],hrs=>
       obtain⟨v',g1,g2⟩:=evLen_ok (P:=P) (ty:=o.type) (ts:=c.argTypes) hr (hrs.2 0 x y rfl rfl) ht h1
       exact aY (hres v' w (by rw[hargs];exact g1) rfl) g2 hr (Ext.refl _ _ _)
     | [],hrs=>exact absurd hrs.1 (by simp)
     |_::_::_,hrs=>exact absurd hrs.1 (by simp)
    ·cases h
   ·rename_i s x
    obtain⟨v,H',h1,rfl⟩:=ir (α:=Unit) h
    match B,hrs with
    | [s',x'],hrs=>
      obtain⟨v',w',σ',g1,g2,g3,g4⟩:=zL (P:=P) (ty:=o.type) hr (hrs.2 0 s s' rfl rfl) (hrs.2 1 x x' rfl rfl) h1
      exact aY (hrea v' w' (by rw[hargs];exact g1) rfl) g2 g3 g4
    | [],hrs=>exact absurd hrs.1 (by simp)
    | [_],hrs=>exact absurd hrs.1 (by simp)
    |_::_::_::_,hrs=>exact absurd hrs.1 (by simp)
   ·rename_i x
    obtain⟨v,H',h1,rfl⟩:=ir (α:=Unit) h
    match B,hrs with
    | [x'],hrs=>
      obtain⟨v',w',σ',g1,g2,g3,g4⟩:=Bj (P:=P) (ty:=o.type) hr (hrs.2 0 x x' rfl rfl) h1
      exact aY (hrec v' w' (by rw[hargs];exact g1) rfl) g2 g3 g4
    | [],hrs=>exact absurd hrs.1 (by simp)
    |_::_::_,hrs=>exact absurd hrs.1 (by simp)
   ·rename_i k x k' y
    split at h
    ·rename_i hk;subst hk
     cases h
     match B,hrs with
     | [x',y'],hrs=>
       have e1:=hrs.2 0 _ x' rfl rfl
       have e2:=hrs.2 1 _ y' rfl rfl
       cases e1;cases e2
       exact aY (hrem _ w (by rw[hargs];exact run_max_int2 w _ _ k k x y) rfl) (.int _ _) hr (Ext.refl _ _ _)
     | [],hrs=>exact absurd hrs.1 (by simp)
     | [_],hrs=>exact absurd hrs.1 (by simp)
     |_::_::_::_,hrs=>exact absurd hrs.1 (by simp)
    ·cases h
   ·rename_i k x k' y
    split at h
    ·rename_i hk;subst hk
     cases h
     match B,hrs with
     | [x',y'],hrs=>
       have e1:=hrs.2 0 _ x' rfl rfl
       have e2:=hrs.2 1 _ y' rfl rfl
       cases e1;cases e2
       exact aY (hren _ w (by rw[hargs];exact run_min_int2 w _ _ k k x y) rfl) (.int _ _) hr (Ext.refl _ _ _)
     | [],hrs=>exact absurd hrs.1 (by simp)
     | [_],hrs=>exact absurd hrs.1 (by simp)
     |_::_::_::_,hrs=>exact absurd hrs.1 (by simp)
    ·cases h
   ·cases h
  ·rename_i f hcal
   split at h
   ·rename_i g first cap hf
    have hfe:=ha.eval f
    rw[hf]at hfe
    generalize hff:act.eval f=fv at hfe
    cases hfe with
    |func _ h1 h2 h3 h4=>
     rename_i first' cap'
     obtain⟨⟨fn,b1,b2,b3⟩,hac⟩:=hC g _ H r h
     have hrs:Rs σ (first.toList++c.args.toList.map (bq a)++cap.toList) (first'.toList++c.args.toList.map act.eval++cap'.toList):=by
      have q1:Rs σ first.toList first'.toList:=⟨by simpa using h1,fun i v v' x y=>h2 i v v' (by simpa using x) (by simpa using y)⟩
      have q2:Rs σ cap.toList cap'.toList:=⟨by simpa using h3,fun i v v' x y=>h4 i v v' (by simpa using x) (by simpa using y)⟩
      exact(q1.append (ha.evalL _)).append q2
     have hcalls:=hac σ w _ hrs hr
     intro K Q hK
     unfold Oper.wp
     have hrun:(execOp act.eval o).run P w= .ok (.enter g (first'.toList++c.args.toList.map act.eval++cap'.toList).toArray) w:=by
      rw[execOp,ho]
      simp only[resolve,hcal,hff,Deferred.ofValue,ED,Sem.run_pure,Result.andThen_ok,invoke,callFunc,run_program,b1]
      simp only[b3,b2,EO,if_false,Sem.run_pure]
      congr 2
      simp
     rw[hrun]
     refine hcalls.mono fun e w' hh=> ?_
     obtain⟨σ',he,hh1,hh2⟩:=hh
     cases r with
     |val v H'=>
      cases e with
      |returned v'=>exact hK v' w' σ' he hh1 hh2
      |panicked ch=>exact he.elim
      |outgrown=>exact he.elim
     |pan v H'=>
      cases e with
      |returned v'=>exact he.elim
      |panicked ch=>
       obtain⟨v',rfl,he⟩:=he
       exact hK v' w' σ' he hh1 hh2
      |outgrown=>exact he.elim
   ·cases h
  ·cases h
 ·rename_i x ho
  split at h
  ·rename_i t v hx
   have hxe:=ha.eval x
   rw[hx]at hxe
   cases h
   generalize hxx:act.eval x=xv at hxe
   cases hxe with
   |iface _ hv=>
    rename_i v'
    intro K Q hK
    unfold Oper.wp
    have hrun:(execOp act.eval o).run P w= .halt (.panic (.iface t v')) w:=by
     rw[execOp,ho]
     simp only[hxx,Instr.panic,goPanic]
     rfl
    rw[hrun]
    exact hK _ w σ (.iface t hv) hr (Ext.refl _ _ _)
  ·cases h
 ·cases h
structure Cx where
 P:Program
 n:Nat
 D:List Deferred
 σ:Ren
 H:AH
 w:World
inductive AX where
 |normal
 |exit (id:Nat)
 |ret
 |panic (v:Value)
def XR(σ:Ren):AX->Exit->Prop
 | .normal,.normal=>True
 | .exit i,.exit j=>i=j
 | .ret,.ret=>True
 | .panic v,.panic ch=> ∃v',ch=[{v:=v',recovered:=false}]/\VR σ v v'
 |_,_=>False
structure In(K:Cx)(a:Env)(H:AH)(σ:Ren)(act:Act)(w:World):Prop where
 hr:HR σ H w
 ar:AR σ K.n a act
 df:act.defers=K.D
 ex:Ext K.σ K.H K.w σ H w
def qR(K:Cx)(Q:AX->Env->AH->Prop):Exit->Act->World->Prop:=fun e act w=> ∃x a H σ,Q x a H/\XR σ x e/\In K a H σ act w
def W(K:Cx)(c:Code)(Q:AX->Env->AH->Prop)(a:Env)(H:AH):Prop:= ∀σ act w,In K a H σ act w->c.wp K.P (qR K Q) act w
def AX.then(next:Env->AH->Prop)(Q:AX->Env->AH->Prop):AX->Env->AH->Prop
 | .normal,a,H=>next a H
 |x,a,H=>Q x a H
def AX.inBlock(id:Nat)(Q:AX->Env->AH->Prop):AX->Env->AH->Prop
 | .exit id',a,H=>if id'=id then Q .normal a H else Q (.exit id') a H
 |x,a,H=>Q x a H
section
variable {K:Cx}{Q:AX->Env->AH->Prop}{a:Env}{H:AH}
theorem W.mono{c:Code}{Q':AX->Env->AH->Prop}(h:W K c Q a H)(hq: ∀x a H,Q x a H->Q' x a H):W K c Q' a H:=fun σ act w hi=>wp_mono (h σ act w hi) fun _ _ _ ⟨x,a,H,σ',q,rest⟩=>⟨x,a,H,σ',hq _ _ _ q,rest⟩
theorem W.skip(h:Q .normal a H):W K .skip Q a H:=fun σ _ _ hi=>wp_skip ⟨.normal,a,H,σ,h,trivial,hi⟩
theorem W.ret(h:Q .ret a H):W K .ret Q a H:=fun σ _ _ hi=>wp_ret ⟨.ret,a,H,σ,h,trivial,hi⟩
theorem W.exit{id:Nat}(h:Q (.exit id) a H):W K (.exit id) Q a H:=fun σ _ _ hi=>wp_exit ⟨.exit id,a,H,σ,h,rfl,hi⟩
theorem W.seq{x y:Code}(h:W K x (AX.then (W K y Q) Q) a H):W K (.seq x y) Q a H:=by
 intro σ act w hi
 refine wp_seq (wp_mono (h σ act w hi) fun e act' w' hp=> ?_)
 obtain⟨x,a',H',σ',q,hx,hi'⟩:=hp
 cases x<;>cases e<;>first|exact hx.elim|skip
 ·exact q σ' act' w' hi'
 ·exact⟨_,a',H',σ',q,hx,hi'⟩
 ·exact⟨_,a',H',σ',q,hx,hi'⟩
 ·exact⟨_,a',H',σ',q,hx,hi'⟩
theorem W.cond{c:Operand}{x y:Code}{t:Bool}(hc:bq a c= .bool t)(h:W K (if t=true then x else y) Q a H):W K (.cond c x y) Q a H:=by
 intro σ act w hi
 have hv:=hi.ar.eval c
 rw[hc]at hv
 generalize hx:act.eval c=v at hv
 cases hv
 exact wp_cond hx (h σ act w hi)
theorem W.block{id:Nat}{c:Code}(h:W K c (AX.inBlock id Q) a H):W K (.block id c) Q a H:=by
 intro σ act w hi
 refine wp_block (wp_mono (h σ act w hi) fun e act' w' hp=> ?_)
 obtain⟨x,a',H',σ',q,hx,hi'⟩:=hp
 cases x<;>cases e<;>first|exact hx.elim|skip
 ·exact⟨_,a',H',σ',q,hx,hi'⟩
 ·rename_i i j
  have hx:i=j:=hx
  subst hx
  simp only[AX.inBlock]at q
  simp only[Exit.inBlock]
  split
  ·rename_i e;rw[if_pos e]at q;exact⟨_,a',H',σ',q,trivial,hi'⟩
  ·rename_i e;rw[if_neg e]at q;exact⟨_,a',H',σ',q,rfl,hi'⟩
 ·exact⟨_,a',H',σ',q,hx,hi'⟩
 ·exact⟨_,a',H',σ',q,hx,hi'⟩
theorem W.loop{c:Code}(I:Nat->Env->AH->Prop)(n:Nat)(h₀:I n a H)(round: ∀n a H,I n a H->W K c (AX.then (fun a' H'=> ∃m,m<n/\I m a' H') Q) a H):W K (.loop c) Q a H:=by
 intro σ act w hi
 classical
 let J:Act->World->Prop:=fun act w=> ∃n a H σ,I n a H/\In K a H σ act w
 have hμ: ∀act w,J act w-> ∃n,(∃a H σ,I n a H/\In K a H σ act w)/\ ∀m,m<n-> ¬ ∃a H σ,I m a H/\In K a H σ act w:=by
  intro act w hj
  obtain⟨n,hn⟩:=hj
  induction n using Nat.strongRecOn with
  |_ n ih=>
   by_cases hx: ∃m,m<n/\ ∃a H σ,I m a H/\In K a H σ act w
   ·obtain⟨m,hm,hh⟩:=hx;exact ih m hm hh
   ·exact⟨n,hn,fun m hm hh=>hx ⟨m,hm,hh⟩⟩
 let μ:Act->World->Nat:=fun act w=>if hj:J act w then Classical.choose (hμ act w hj)else 0
 refine wp_loop J μ ⟨n,a,H,σ,h₀,hi⟩ fun act w hj=> ?_
 have hs:=Fm (hμ act w hj)
 have hμe:μ act w=Classical.choose (hμ act w hj):=dif_pos hj
 rw[<-hμe]at hs
 obtain⟨⟨a1,H1,σ1,hI,hin⟩,_⟩:=hs
 refine wp_mono (round _ a1 H1 hI σ1 act w hin) fun e act' w' hp=> ?_
 obtain⟨x,a',H',σ',q,hx,hi'⟩:=hp
 cases x<;>cases e<;>first|exact hx.elim|skip
 ·obtain⟨m,hm,hI'⟩:=q
  have hj':J act' w':=⟨m,a',H',σ',hI',hi'⟩
  refine⟨hj',?_⟩
  have hs':=Fm (hμ act' w' hj')
  have hμe':μ act' w'=Classical.choose (hμ act' w' hj'):=dif_pos hj'
  rw[<-hμe']at hs'
  have: ¬m<μ act' w':=fun hlt=>hs'.2 m hlt ⟨a',H',σ',hI',hi'⟩
  show μ act' w'<μ act w
  omega
 ·exact⟨_,a',H',σ',q,hx,hi'⟩
 ·exact⟨_,a',H',σ',q,hx,hi'⟩
 ·exact⟨_,a',H',σ',q,hx,hi'⟩
theorem W.less{c:Code}{a':Env}(hl: ∀t,ae a' t=undef\/ae a' t=ae a t)(h:W K c Q a' H):W K c Q a H:=fun σ act w hi=>h σ act w ⟨hi.hr,hi.ar.less hl,hi.df,hi.ex⟩
end
def bO(P:Program)(a:Env)(H:AH)(op:Op)(r:OpR):Prop:= ∃C,CS P C/\cH P C H (bq a) op=some r
def noC:Orc:=fun _ _ _=>none
theorem CS.none(P:Program):CS P noC:=fun _ _ _ _ h=>by cases h
theorem bO.ev{P:Program}{a:Env}{H:AH}{op:Op}{r:OpR}(h:cH P noC H (bq a) op=some r):bO P a H op r:=⟨noC,CS.none P,h⟩
theorem bO.call{P:Program}{a:Env}{H:AH}{c:Call}{f:Operand}{g:FuncId}{first cap:Array Value}{r:OpR}(hc:c.callee= .value f)(hf:bq a f= .func (.func g) first cap)(hb:aO P g)(h:AC P g (first.toList++c.args.toList.map (bq a)++cap.toList) H r):bO P a H (.call c) r:=by
 classical
 refine⟨fun g' args' H'=>if g'=g/\args'=first.toList++c.args.toList.map (bq a)++cap.toList/\H'=H then some r else none,?_,?_⟩
 ·intro g' args' H' r' h'
  simp only at h'
  split at h'
  ·rename_i e;obtain⟨rfl,rfl,rfl⟩:=e;cases h';exact⟨hb,h⟩
  ·cases h'
 ·simp only[cH,ft,hc,hf,and_self,if_true]
def Wl(K:Cx)(ops:Array Oper)(rest:List Oper)(Q:AX->Env->AH->Prop)(a:Env)(H:AH):Prop:= ∀σ act w,In K a H σ act w->wpList K.P ops (qR K Q) rest act w
section
variable {K:Cx}{Q:AX->Env->AH->Prop}{a:Env}{H:AH}{ops:Array Oper}{rest:List Oper}{o:Oper}
theorem W.region{id:Nat}(h:Wl K ops ops.toList Q a H):W K (.region id ops false) Q a H:=fun σ act w hi=>wp_region_list (h σ act w hi)
theorem Wl.nil(h:Q .normal a H):Wl K ops [] Q a H:=fun σ _ _ hi=>wpList_nil ⟨.normal,a,H,σ,h,trivial,hi⟩
theorem dq(act:Act)(dst:Option Tmp)(v:Value):(act.put dst v).defers=act.defers:=by cases dst<;>rfl
def aJ(ops:Array Oper)(a:Env)(o:Oper):Option Bool:=match o.guard with
 |none=>some true
 |some (j,want)=>match ops[j]? with
  |some p=>match p.dst with
   |some d=>match ae a d with
    | .bool b=>some (b==want)
    | .chan none=>some false
    |_=>none
   |none=>none
  |none=>none
theorem cu{σ:Ren}{n:Nat}{act:Act}(ha:AR σ n a act){b:Bool}(h:aJ ops a o=some b):Region.wanted o (yielded ops act.tmps)=b:=by
 unfold aJ at h
 unfold Region.wanted
 split at h
 ·rename_i hg;cases h;simp[hg]
 ·rename_i j want hg
  split at h
  ·rename_i p hp
   split at h
   ·rename_i d hd
    split at h
    ·rename_i v hv
     cases h
     have hx:=ha.get d
     rw[hv]at hx
     generalize hxx:act.tmps.getD d undef=y at hx
     cases hx
     have hy:yielded ops act.tmps j=some v:=by
      unfold yielded
      simp only[hp,Option.bind_some,hd]
      rw[EZ]at hxx
      cases hz:act.tmps[d]? with
      |none=>rw[hz]at hxx;cases hxx
      |some z=>rw[hz]at hxx;simp at hxx;subst hxx;rfl
     simp only[hg,hy]
     cases v<;>cases want<;>rfl
    ·rename_i hv
     cases h
     have hx:=ha.get d
     rw[hv]at hx
     generalize hxx:act.tmps.getD d undef=y at hx
     cases hx
     have hy:yielded ops act.tmps j=none:=by
      unfold yielded
      simp only[hp,Option.bind_some,hd]
      rw[EZ]at hxx
      cases hz:act.tmps[d]? with
      |none=>rfl
      |some z=>rw[hz]at hxx;simp at hxx;subst hxx;rfl
     simp only[hg,hy]
     rfl
    ·cases h
   ·cases h
  ·cases h
theorem Wl.op{v:Value}{H':AH}(hw:aJ ops a o=some true)(hs:bO K.P a H o.op (.val v H'))(h:Wl K ops rest Q (aB K.n a o.dst v) H'):Wl K ops (o::rest) Q a H:=by
 intro σ act w hi
 obtain⟨C,hC,he⟩:=hs
 refine wpList_step fun k hk=> ?_
 rw[if_pos (cu hi.ar hw)]
 refine iJ hC hi.hr hi.ar he k _ ?_
 intro v' w' σ' hv hr' hx'
 exact hk _ _ (h σ' _ w' ⟨hr',(hi.ar.mono hx'.sub).put o.dst hv,by rw[dq];exact hi.df,hi.ex.trans hx'⟩)
theorem Wl.pan{v:Value}{H':AH}(hw:aJ ops a o=some true)(hs:bO K.P a H o.op (.pan v H'))(h:Q (.panic v) a H'):Wl K ops (o::rest) Q a H:=by
 intro σ act w hi
 obtain⟨C,hC,he⟩:=hs
 refine wpList_step fun k hk=> ?_
 rw[if_pos (cu hi.ar hw)]
 refine iJ hC hi.hr hi.ar he k _ ?_
 intro v' w' σ' hv hr' hx'
 exact⟨.panic v,a,H',σ',h,⟨v',rfl,hv⟩,hr',hi.ar.mono hx'.sub,hi.df,hi.ex.trans hx'⟩
theorem Wl.past(hw:aJ ops a o=some false)(h:Wl K ops rest Q (aB K.n a o.dst gone) H):Wl K ops (o::rest) Q a H:=by
 intro σ act w hi
 refine wpList_step fun k hk=> ?_
 rw[if_neg (by rw[cu hi.ar hw];simp)]
 exact hk _ _ (h σ _ w ⟨hi.hr,hi.ar.put o.dst .gone,by rw[dq];exact hi.df,hi.ex⟩)
end
def deps(o:Oper):List Nat:=(o.after.toList.filter (Region.binds .any ·)).map (·.on)
def BP(acc:List Nat)(o:Oper):Nat:=(deps o).foldl (fun s j=>s ||| 2^j ||| acc.getD j 0) 0
def om:List Oper->List Nat->List Nat
 | [],acc=>acc
 |o::r,acc=>om r (acc++[BP acc o])
def Bef(ops:List Oper)(i j:Nat):Bool:=((om ops []).getD i 0).testBit j
def nB(ops:List Oper)(S:Nat->Bool):Prop:= ∀i o,S i=true->ops[i]? =some o-> ∀j∈deps o,S j=true
theorem yI(acc:List Nat)(j:Nat): ∀(l:List Nat) (s:Nat),(l.foldl (fun s j=>s ||| 2^j ||| acc.getD j 0) s).testBit j=true->s.testBit j=true\/ ∃d∈l,j=d\/(acc.getD d 0).testBit j=true:=by
 intro l
 induction l with
 |nil=>intro s h;exact .inl h
 |cons d l ih=>
  intro s h
  rcases ih _ h with h|⟨e,he,h⟩
  ·rw[Hi,Hi,Hf]at h
   simp only[E8,decide_eq_true_eq]at h
   rcases h with (h|h)|h
   ·exact .inl h
   ·exact .inr ⟨d,by simp,.inl h.symm⟩
   ·exact .inr ⟨d,by simp,.inr h⟩
  ·exact .inr ⟨e,by simp[he],h⟩
theorem ancs_ok(ops:List Oper)(S:Nat->Bool)(hS:nB ops S): ∀(l:List Oper) (acc:List Nat),(∀k o,l[k]? =some o->ops[acc.length+k]? =some o)->(∀i o,i<acc.length->ops[i]? =some o->(∀j∈deps o,S j=true)-> ∀j,(acc.getD i 0).testBit j=true->S j=true)-> ∀i o,ops[i]? =some o->(∀j∈deps o,S j=true)-> ∀j,((om l acc).getD i 0).testBit j=true->S j=true:=by
 intro l
 induction l with
 |nil=>
  intro acc _ h i o ho hd j hj
  by_cases hi:i<acc.length
  ·exact h i o hi ho hd j hj
  ·simp only[om]at hj
   rw[EF,Fd (by omega)]at hj
   simp at hj
 |cons o l ih=>
  intro acc hl h
  refine ih (acc++[BP acc o]) (fun k p hk=> ?_) ?_
  ·have:=hl (k+1) p (by simpa using hk)
   simpa[FJ,Gw 1 k]using this
  ·intro i p hi hp hd j hj
   rw[EF,FI]at hj
   split at hj
   ·rename_i hlt
    exact h i p hlt hp hd j (by rw[EF];exact hj)
   ·have hi':i=acc.length:=by simp at hi;omega
    subst hi'
    have ho:ops[acc.length]? =some o:=hl 0 o rfl
    rw[ho]at hp;cases hp
    simp at hj
    rcases yI acc j _ _ hj with h0|⟨d,hd',h0⟩
    ·simp at h0
    ·rcases h0 with rfl|h0
     ·exact hd _ hd'
     ·have hSd:=hd d hd'
      by_cases hdl:d<acc.length
      ·cases hq:ops[d]? with
       |none=>
        have:=List.getElem?_eq_none_iff.1 hq
        have h2:=(Ey.1 ho).1
        omega
       |some q=>exact h d q hdl hq (fun k hk=>hS d q hSd hq k hk) j h0
      ·rw[EF,Fd (by omega)]at h0
       simp at h0
theorem Bef.ready{ops:List Oper}{S:Nat->Bool}(hS:nB ops S){i j:Nat}{o:Oper}(ho:ops[i]? =some o)(hd: ∀k∈deps o,S k=true)(h:Bef ops i j=true):S j=true:=ancs_ok ops S hS ops [] (by simp) (by simp) i o ho hd j h
theorem Bef.mem{ops:List Oper}{S:Nat->Bool}(hS:nB ops S){i j:Nat}(hi:S i=true)(hl:i<ops.length)(h:Bef ops i j=true):S j=true:=Bef.ready hS (Ex hl) (hS i _ hi (Ex hl)) h
def cY(wr:Nat->Bool)(S:Nat->Bool):Nat->Nat
 | 0=>0
 |k+1=>if wr k=true/\S k=true then k+1 else cY wr S k
theorem qf(wr S:Nat->Bool): ∀m,cY wr S m<=m
 | 0=>EJ _
 |k+1=>by simp only[cY];split<;>first|omega| (have:=qf wr S k;omega)
theorem oO(wr S:Nat->Bool): ∀m,(cY wr S m=0\/(wr (cY wr S m-1)=true/\S (cY wr S m-1)=true/\0<cY wr S m))/\ ∀k,cY wr S m<=k->k<m-> ¬(wr k=true/\S k=true)
 | 0=>⟨.inl rfl,fun k _ h=>by omega⟩
 |m+1=>by
  obtain⟨h1,h2⟩:=oO wr S m
  simp only[cY]
  split
  ·rename_i h
   exact⟨.inr ⟨by simpa using h.1,by simpa using h.2,by omega⟩,fun k a b=>by omega⟩
  ·rename_i h
   refine⟨h1,fun k a b=> ?_⟩
   by_cases e:k=m
   ·subst e;exact h
   ·exact h2 k a (by omega)
theorem stays{α:Type}{wr:Nat->Bool}{f:Nat->α}{m:Nat}(hf: ∀j,j<m->wr j=false->f (j+1)=f j): ∀i k,i<=k->k<=m->(∀j,i<=j->j<k->wr j=false)->f k=f i:=by
 intro i k
 induction k with
 |zero=>intro h _ _;rw[show i=0 by omega]
 |succ k ih=>
  intro h hm hw
  by_cases e:i=k+1
  ·rw[e]
  ·rw[hf k (by omega) (hw k (by omega) (by omega))]
   exact ih (by omega) (by omega) fun j a b=>hw j a (by omega)
theorem kV{α:Type}{wr S:Nat->Bool}{f:Nat->α}{m i:Nat}(hf: ∀j,j<m->wr j=false->f (j+1)=f j)(hi:i<=m)(h1: ∀j,j<i->wr j=true->S j=true)(h2: ∀j,i<=j->j<m->wr j=true->S j=false):f (cY wr S m)=f i/\cY wr S m<=i:=by
 obtain⟨a,b⟩:=oO wr S m
 have hle:=qf wr S m
 have hli:cY wr S m<=i:=by
  rcases a with a|⟨a1,a2,a3⟩
  ·omega
  ·by_cases hh:cY wr S m<=i
   ·exact hh
   ·have:=h2 (cY wr S m-1) (by omega) (by omega) a1
    rw[this]at a2;cases a2
 refine⟨(stays hf _ _ hli hi fun j p q=> ?_).symm,hli⟩
 cases hw:wr j with
 |false=>rfl
 |true=>exact absurd ⟨hw,h1 j q hw⟩ (b j p (by omega))
def ins(S:Nat->Bool)(i:Nat):Nat->Bool:=fun j=>if j=i then true else S j
theorem iL{wr S:Nat->Bool}{i:Nat}(h:wr i=false): ∀m,cY wr (ins S i) m=cY wr S m
 | 0=>rfl
 |m+1=>by
  simp only[cY,iL h m,ins]
  by_cases e:m=i
  ·subst e;simp[h]
  ·simp[e]
theorem ky{wr S:Nat->Bool}{i m:Nat}(hi:i<m)(h:wr i=true)(h2: ∀j,i<j->j<m->wr j=true->S j=false):cY wr (ins S i) m=i+1:=by
 obtain⟨a,b⟩:=oO wr (ins S i) m
 have hle:=qf wr (ins S i) m
 have h3: ¬cY wr (ins S i) m<=i:=fun hh=>b i hh hi ⟨h,by simp[ins]⟩
 rcases a with a|⟨a1,a2,a3⟩
 ·omega
 ·by_cases e:cY wr (ins S i) m-1=i
  ·omega
  ·have:=h2 _ (by omega) (by omega) a1
   simp only[ins,if_neg e,this]at a2
   cases a2
end Go.Ev
