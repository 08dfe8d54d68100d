import Derived.Test.YtjcomcgpjjianaaA10
set_option linter.all false
set_option maxHeartbeats 16000000
set_option maxRecDepth 8000
open Go.Value renaming int→O
open Go.IntKind renaming i64→U
namespace Go.Ev
noncomputable def ob{α β:Type}(o:Option α)(f:α->Option β):Option β:=Option.rec (motive:=fun _=>Option β) none f o
noncomputable def bb{α:Type}(b:Bool)(t f:α):α:=Bool.rec (motive:=fun _=>α) f t b
theorem aH{α β:Type}{o:Option α}{f:α->Option β}{y:β}:ob o f=some y↔ ∃x,o=some x/\f x=some y:=by
 cases o with
 |none=>simp[ob]
 |some x=>simp[ob]
theorem bH{α:Type}{b:Bool}{t f:α}:bb b t f=if b=true then t else f:=by cases b<;>rfl
noncomputable def oe{α β:Type}(o:Option α)(f:α->Option β)(d:Option β):Option β:=Option.rec (motive:=fun _=>Option β) d f o
theorem bX{α β:Type}{x:α}{f:α->Option β}{d:Option β}:oe (some x) f d=f x:=rfl
theorem cc{α β:Type}{f:α->Option β}{d:Option β}:oe none f d=d:=rfl
namespace Tri
variable {α:Type}
noncomputable def tget(t:Tri α)(n:Nat):Option α:=Tri.rec (motive:=fun _=>Nat->Option α) (fun _=>none)
 (fun _ v _ ihl ihr n=>Nat.rec (motive:=fun _=>Option α) v (fun m _=>bb (Nat.beq (Nat.mod m 2) 0) (ihl (Nat.div m 2)) (ihr (Nat.div m 2))) n) t n
theorem tget_eq(t:Tri α): ∀n,t.tget n=t.get n:=by
 induction t with
 |nil=>intro n;rfl
 |node l v r ihl ihr=>
  intro n
  cases n with
  |zero=>rfl
  |succ m=>
   show bb (Nat.beq (Nat.mod m 2) 0) (tget l (Nat.div m 2)) (tget r (Nat.div m 2))=_
   rw[ihl,ihr]
   simp only[get]
   cases Nat.beq (Nat.mod m 2) 0<;>rfl
noncomputable def tput(d:Nat)(t:Tri α)(n:Nat)(x:α):Option (Tri α):=Nat.rec (motive:=fun _=>Tri α->Nat->α->Option (Tri α)) (fun _ _ _=>none)
 (fun _ ih t n x=>Tri.rec (motive:=fun _=>Nat->α->Option (Tri α))
  (fun n x=>Nat.rec (motive:=fun _=>Option (Tri α)) (some (.node .nil (some x) .nil)) (fun m _=>bb (Nat.beq (Nat.mod m 2) 0) (ob (ih .nil (Nat.div m 2) x) fun l=>some (.node l none .nil)) (ob (ih .nil (Nat.div m 2) x) fun r=>some (.node .nil none r))) n)
  (fun l v r _ _ n x=>Nat.rec (motive:=fun _=>Option (Tri α)) (some (.node l (some x) r)) (fun m _=>bb (Nat.beq (Nat.mod m 2) 0) (ob (ih l (Nat.div m 2) x) fun l=>some (.node l v r)) (ob (ih r (Nat.div m 2) x) fun r=>some (.node l v r))) n)
  t n x) d t n x
theorem tput_eq: ∀(d:Nat) (t:Tri α) (n:Nat) (x:α),t.tput d n x=t.put d n x:=by
 intro d
 induction d with
 |zero=>intro t n x;cases t<;>rfl
 |succ d ih=>
  intro t n x
  cases t with
  |nil=>
   cases n with
   |zero=>rfl
   |succ m=>
    show bb (Nat.beq (Nat.mod m 2) 0) (ob (tput d .nil (Nat.div m 2) x) fun l=>some (Tri.node l none .nil)) (ob (tput d .nil (Nat.div m 2) x) fun r=>some (Tri.node .nil none r))=_
    rw[ih]
    simp only[put]
    cases Nat.beq (Nat.mod m 2) 0<;>simp only[bb]<;>cases put d .nil (Nat.div m 2) x<;>rfl
  |node l v r=>
   cases n with
   |zero=>rfl
   |succ m=>
    show bb (Nat.beq (Nat.mod m 2) 0) (ob (tput d l (Nat.div m 2) x) fun l=>some (Tri.node l v r)) (ob (tput d r (Nat.div m 2) x) fun r=>some (Tri.node l v r))=_
    rw[ih,ih]
    simp only[put]
    cases Nat.beq (Nat.mod m 2) 0<;>simp only[bb]
    ·cases put d r (Nat.div m 2) x<;>rfl
    ·cases put d l (Nat.div m 2) x<;>rfl
theorem get_tput{d:Nat}{t:Tri α}{n:Nat}{x:α}{t':Tri α}(h:t.tput d n x=some t')(k:Nat):t'.get k=if k=n then some x else t.get k:=by
 rw[tput_eq]at h;exact get_put d t n x t' h k
end Tri
noncomputable def qD(v:Value):Option Addr:=Value.rec (motive_1:=fun _=>Option Addr) (motive_2:=fun _=>Unit) (motive_3:=fun _=>Unit) (fun _=>none) (fun _ _=>none) (fun _ _=>none) (fun _ _ _=>none) (fun _=>none)
 (fun a=>a) (fun _ _ _=>none) (fun _=>none) (fun _=>none) (fun _ _ _ _ _=>none) none (fun _ _ _=>none) none (fun _ _=>none) (fun _ _=>none) (fun _ _=>()) () (fun _ _ _ _=>()) v
noncomputable def mX(v:Value):Option (IntKind×Int):=Value.rec (motive_1:=fun _=>Option (IntKind×Int)) (motive_2:=fun _=>Unit) (motive_3:=fun _=>Unit) (fun _=>none) (fun k n=>some (k,n)) (fun _ _=>none) (fun _ _ _=>none) (fun _=>none)
 (fun _=>none) (fun _ _ _=>none) (fun _=>none) (fun _=>none) (fun _ _ _ _ _=>none) none (fun _ _ _=>none) none (fun _ _=>none) (fun _ _=>none) (fun _ _=>()) () (fun _ _ _ _=>()) v
noncomputable def mf(v:Value):Option Bool:=Value.rec (motive_1:=fun _=>Option Bool) (motive_2:=fun _=>Unit) (motive_3:=fun _=>Unit) (fun b=>some b) (fun _ _=>none) (fun _ _=>none) (fun _ _ _=>none) (fun _=>none)
 (fun _=>none) (fun _ _ _=>none) (fun _=>none) (fun _=>none) (fun _ _ _ _ _=>none) none (fun _ _ _=>none) none (fun _ _=>none) (fun _ _=>none) (fun _ _=>()) () (fun _ _ _ _=>()) v
noncomputable def vSl(v:Value):Option (Option Addr×Nat×Nat):=Value.rec (motive_1:=fun _=>Option (Option Addr×Nat×Nat)) (motive_2:=fun _=>Unit) (motive_3:=fun _=>Unit) (fun _=>none) (fun _ _=>none) (fun _ _=>none) (fun _ _ _=>none) (fun _=>none)
 (fun _=>none) (fun a l c=>some (a,l,c)) (fun _=>none) (fun _=>none) (fun _ _ _ _ _=>none) none (fun _ _ _=>none) none (fun _ _=>none) (fun _ _=>none) (fun _ _=>()) () (fun _ _ _ _=>()) v
noncomputable def vMap(v:Value):Option (Option Nat):=Value.rec (motive_1:=fun _=>Option (Option Nat)) (motive_2:=fun _=>Unit) (motive_3:=fun _=>Unit) (fun _=>none) (fun _ _=>none) (fun _ _=>none) (fun _ _ _=>none) (fun _=>none)
 (fun _=>none) (fun _ _ _=>none) (fun r=>some r) (fun _=>none) (fun _ _ _ _ _=>none) none (fun _ _ _=>none) none (fun _ _=>none) (fun _ _=>none) (fun _ _=>()) () (fun _ _ _ _=>()) v
noncomputable def vAgg(v:Value):Option (List Value):=Value.rec (motive_1:=fun _=>Option (List Value)) (motive_2:=fun _=>List Value) (motive_3:=fun _=>Unit) (fun _=>none) (fun _ _=>none) (fun _ _=>none) (fun _ _ _=>none) (fun _=>none)
 (fun _=>none) (fun _ _ _=>none) (fun _=>none) (fun _=>none) (fun _ _ _ _ _=>none) none (fun _ _ _=>none) none (fun _ l=>some l) (fun _ _=>none) (fun l _=>l) () (fun _ _ _ _=>()) v
noncomputable def vTup(v:Value):Option (List Value):=Value.rec (motive_1:=fun _=>Option (List Value)) (motive_2:=fun _=>List Value) (motive_3:=fun _=>Unit) (fun _=>none) (fun _ _=>none) (fun _ _=>none) (fun _ _ _=>none) (fun _=>none)
 (fun _=>none) (fun _ _ _=>none) (fun _=>none) (fun _=>none) (fun _ _ _ _ _=>none) none (fun _ _ _=>none) none (fun _ _=>none) (fun _ l=>some l) (fun l _=>l) () (fun _ _ _ _=>()) v
noncomputable def qU(v:Value):Option (List Value):=Value.rec (motive_1:=fun _=>Value->Option (List Value)) (motive_2:=fun _=>List Value) (motive_3:=fun _=>Unit) (fun _ v=>some [v]) (fun _ _ v=>some [v]) (fun _ _ v=>some [v]) (fun _ _ _ v=>some [v]) (fun _ v=>some [v])
 (fun _ v=>some [v]) (fun _ _ _ v=>some [v]) (fun _ v=>some [v]) (fun _ _=>none) (fun _ _ _ _ _ v=>some [v]) (fun v=>some [v]) (fun _ _ _ v=>some [v]) (fun v=>some [v]) (fun _ l _=>some l) (fun _ _ _=>none) (fun l _=>l) () (fun _ _ _ _=>()) v v
noncomputable def vOne(v:Value):Bool:=Value.rec (motive_1:=fun _=>Bool) (motive_2:=fun _=>Unit) (motive_3:=fun _=>Unit) (fun _=>true) (fun _ _=>true) (fun _ _=>true) (fun _ _ _=>true) (fun _=>true)
 (fun _=>true) (fun _ _ _=>true) (fun _=>true) (fun _=>false) (fun _ _ _ _ _=>true) true (fun _ _ _=>true) true (fun _ _=>false) (fun _ _=>false) (fun _ _=>()) () (fun _ _ _ _=>()) v
theorem j5{v:Value}{a:Addr}(h:qD v=some a):v= .pointer (some a):=by cases v<;>first| (cases h;rfl)|cases h
theorem gU{v:Value}{k:IntKind}{n:Int}(h:mX v=some (k,n)):v= .int k n:=by cases v<;>first| (cases h;rfl)|cases h
theorem mz{v:Value}{b:Bool}(h:mf v=some b):v= .bool b:=by cases v<;>first| (cases h;rfl)|cases h
theorem qH{v:Value}{a:Option Addr}{l c:Nat}(h:vSl v=some (a,l,c)):v= .slice a l c:=by cases v<;>first| (cases h;rfl)|cases h
theorem wT{v:Value}{r:Option Nat}(h:vMap v=some r):v= .map r:=by cases v<;>first| (cases h;rfl)|cases h
theorem qu{v:Value}{l:List Value}(h:vAgg v=some l):v= .agg ⟨l⟩:=by cases v<;>first| (cases h;rfl)|cases h
theorem vTup_eq{v:Value}{l:List Value}(h:vTup v=some l):v= .tuple ⟨l⟩:=by cases v<;>first| (cases h;rfl)|cases h
theorem nK(v:Value):qU v=acells v:=by cases v<;>rfl
theorem vOne_eq(v:Value):vOne v=one v:=by cases v<;>rfl
noncomputable def aoC(o:AO):Option (List Value):=AO.rec (motive:=fun _=>Option (List Value)) (fun c _=>some c) (fun _ _ _ _ _ _ _=>none) (fun c=>some c) (fun _=>none) none o
noncomputable def aoW(o:AO):Option (List Value×TypeId):=AO.rec (motive:=fun _=>Option (List Value×TypeId)) (fun c e=>some (c,e)) (fun _ _ _ _ _ _ _=>none) (fun _=>none) (fun _=>none) none o
noncomputable def aoM(o:AO):Option (List (Value×Value)):=AO.rec (motive:=fun _=>Option (List (Value×Value))) (fun _ _=>none) (fun _ _ _ _ _ _ _=>none) (fun _=>none) (fun es=>some es) none o
theorem AP(R:Rd)(n:Nat):aoC (R n)=ye R n:=by unfold ye;cases R n<;>rfl
theorem aoW_eq{o:AO}{c:List Value}{e:TypeId}(h:aoW o=some (c,e)):o= .cells c e:=by cases o<;>first| (cases h;rfl)|cases h
theorem zV{o:AO}{es:List (Value×Value)}(h:aoM o=some es):o= .map es:=by cases o<;>first| (cases h;rfl)|cases h
noncomputable def gy(a:Addr):Bool:=Option.rec (motive:=fun _=>Bool) true (fun _=>false) a.spot
theorem eW{a:Addr}(h:gy a=true):a=⟨a.block,a.off,none⟩:=by
 obtain⟨b,o,s⟩:=a
 cases s with
 |none=>rfl
 |some s=>cases h
noncomputable def jP{α:Type}(l:List α)(n:Nat):Option α:=List.rec (motive:=fun _=>Nat->Option α) (fun _=>none) (fun x _ ih n=>Nat.rec (motive:=fun _=>Option α) (some x) (fun m _=>ih m) n) l n
theorem eE{α:Type}: ∀(l:List α) (n:Nat),jP l n=l[n]?
 | [],_=>rfl
 |x::l,0=>rfl
 |x::l,n+1=>by rw[List.getElem?_cons_succ];exact eE l n
noncomputable def lDrop{α:Type}(l:List α)(n:Nat):Option (List α):=List.rec (motive:=fun _=>Nat->Option (List α)) (fun n=>Nat.rec (motive:=fun _=>Option (List α)) (some []) (fun _ _=>none) n) (fun x t ih n=>Nat.rec (motive:=fun _=>Option (List α)) (some (x::t)) (fun m _=>ih m) n) l n
theorem pC{α:Type}: ∀(l:List α) (n:Nat) (r:List α),lDrop l n=some r->n<=l.length/\r=l.drop n
 | [],0,r,h=>by cases h;exact⟨EJ _,rfl⟩
 | [],n+1,r,h=>by cases h
 |x::l,0,r,h=>by cases h;exact⟨FT _,rfl⟩
 |x::l,n+1,r,h=>by
  obtain⟨h1,h2⟩:=pC l n r h
  exact⟨by simpa using h1,by rw[Hh];exact h2⟩
noncomputable def sf{α:Type}(k:Nat)(l:List α):Option (List α):=Nat.rec (motive:=fun _=>List α->Option (List α)) (fun _=>some []) (fun _ ih l=>List.rec (motive:=fun _=>Option (List α)) none (fun x t _=>ob (ih t) fun r=>some (x::r)) l) k l
theorem jN{α:Type}: ∀(k:Nat) (l r:List α),sf k l=some r->k<=l.length/\r=l.take k
 | 0,_,r,h=>by cases h;exact⟨FT _,by simp⟩
 |k+1,[],r,h=>by cases h
 |k+1,x::t,r,h=>by
  have h:ob (sf k t) (fun r=>some (x::r))=some r:=h
  rw[aH]at h
  obtain⟨q,h1,h2⟩:=h
  cases h2
  obtain⟨h3,h4⟩:=jN k t q h1
  exact⟨by simpa using h3,by rw[List.take_succ_cons,h4]⟩
noncomputable def lSet{α:Type}(l:List α)(n:Nat)(y:α):Option (List α):=List.rec (motive:=fun _=>Nat->Option (List α)) (fun _=>none) (fun x t ih n=>Nat.rec (motive:=fun _=>Option (List α)) (some (y::t)) (fun m _=>ob (ih m) fun r=>some (x::r)) n) l n
theorem xJ{α:Type}(y:α): ∀(l:List α) (n:Nat) (r:List α),lSet l n y=some r->n<l.length/\r=l.set n y
 | [],_,_,h=>by cases h
 |x::t,0,r,h=>by cases h;exact⟨by simp,rfl⟩
 |x::t,n+1,r,h=>by
  have h:ob (lSet t n y) (fun r=>some (x::r))=some r:=h
  rw[aH]at h
  obtain⟨q,h1,h2⟩:=h
  cases h2
  obtain⟨h3,h4⟩:=xJ y t n q h1
  exact⟨by simp;omega,by rw[h4];rfl⟩
noncomputable def pQ(vs:List Value)(c:List Value)(i:Nat):Option (List Value):=List.rec (motive:=fun _=>List Value->Nat->Option (List Value)) (fun c _=>some c) (fun v _ ih c i=>ob (lSet c i v) fun c=>ih c (Nat.succ i)) vs c i
theorem pt: ∀(vs c:List Value) (i:Nat) (r:List Value),pQ vs c i=some r->(vs=[]\/i+vs.length<=c.length)/\r=setAll c i vs
 | [],c,i,r,h=>by cases h;exact⟨.inl rfl,rfl⟩
 |v::vs,c,i,r,h=>by
  have h:ob (lSet c i v) (fun c=>pQ vs c (Nat.succ i))=some r:=h
  rw[aH]at h
  obtain⟨q,h1,h2⟩:=h
  obtain⟨h3,h4⟩:=xJ v c i q h1
  obtain⟨h5,h6⟩:=pt vs q (i+1) r h2
  subst h4
  refine⟨.inr ?_,h6⟩
  rcases h5 with rfl|h5
  ·simp;omega
  ·simp at h5⊢;omega
noncomputable def sQ(l:List Value):Bool:=List.rec (motive:=fun _=>Bool) true (fun x _ ih=>bb (vOne x) ih false) l
theorem oY: ∀l:List Value,sQ l=l.all one
 | []=>rfl
 |x::l=>by
  show bb (vOne x) (sQ l) false=_
  rw[vOne_eq,oY l,List.all_cons]
  cases one x<;>rfl
noncomputable def fQ{α:Type}(l:List α):Nat:=List.rec (motive:=fun _=>Nat) 0 (fun _ _ ih=>Nat.succ ih) l
theorem dX{α:Type}: ∀l:List α,fQ l=l.length
 | []=>rfl
 |_::l=>by show Nat.succ (fQ l)=_;rw[dX l];rfl
noncomputable def nn{β:Type}(n:Nat)(f:Nat->Option β):Option β:=Nat.rec (motive:=fun _=>Option β) (f 0) (fun m _=>f (Nat.succ m)) n
theorem iD{β:Type}(n:Nat)(f:Nat->Option β):nn n f=f n:=by cases n<;>rfl
noncomputable def aX(g:Nat->Value)(x:Operand):Value:=Operand.rec (motive:=fun _=>(Nat->Value)->Value) (fun t g=>g t) (fun v _=>bb (plain v) v undef) (fun _ _=>undef) (fun f _=> .func (.func f) #[] #[]) x g
def sy(g:Nat->Value):Operand->Value
 | .tmp t=>g t
 | .const v=>if plain v=true then v else undef
 | .global _=>undef
 | .func f=> .func (.func f) #[] #[]
theorem cO(g:Nat->Value)(x:Operand):aX g x=sy g x:=by
 cases x with
 |const v=>show bb (plain v) v undef=_;rw[bH];rfl
 |_=>rfl
abbrev dT:=Option (Value×Fx)
noncomputable def vW(P:Program)(R:Rd)(t:TypeId)(v:Value):dT:=ob (qD v) fun a=>bb (gy a) (ob (kw P t) fun g=>bb g (ob (bJ P t) fun k=>ob (aoC (R a.block)) fun c=>ob (lDrop c a.off) fun c=>ob (sf k c) fun l=>some (.agg ⟨l⟩,.none)) (ob (aoC (R a.block)) fun c=>ob (jP c a.off) fun v=>some (v,.none))) none
theorem yD{P:Program}{R:Rd}{t:TypeId}{v u:Value}{fx:Fx}(h:vW P R t v=some (u,fx)):((sT P R t v).map fun v=>(v,Fx.none))=some (u,fx):=by
 unfold vW at h
 rw[aH]at h
 obtain⟨a,h1,h⟩:=h
 rw[bH]at h
 split at h
 ·rename_i hs
  rw[j5 h1,eW hs]
  rw[aH]at h
  obtain⟨g,h2,h⟩:=h
  rw[bH]at h
  simp only[sT,h2]
  split at h
  ·rename_i hg;subst hg
   simp only[aH]at h
   obtain⟨k,h3,c,h4,d,h9,l,h5,h6⟩:=h
   cases h6
   rw[AP]at h4
   obtain⟨h7,h8⟩:=jN _ _ _ h5
   obtain⟨h10,h11⟩:=pC _ _ _ h9
   subst h11
   rw[Hc]at h7
   simp only[qG,h3,h4,Option.bind_some]
   rw[if_pos (by omega),h8];rfl
  ·rename_i hg
   have hg:g=false:=by cases g<;>simp_all
   subst hg
   simp only[aH]at h
   obtain⟨c,h4,v',h5,h6⟩:=h
   cases h6
   rw[AP]at h4
   rw[eE]at h5
   simp only[read1R,h4,Option.bind_some,h5,Option.map_some]
 ·cases h
noncomputable def wW(P:Program)(R:Rd)(t:TypeId)(v x:Value):dT:=ob (qD v) fun a=>bb (gy a) (ob (qU x) fun l=>ob (aoW (R a.block)) fun ce=>ob (bJ P t) fun k=>bb (Nat.beq k (fQ l)) (bb (sQ l) (bb (Nat.ble (a.off+k) (fQ ce.1)) (ob (pQ l ce.1 a.off) fun c=>some (undef,.set a.block (.cells c ce.2))) none) none) none) none
theorem Cn{P:Program}{R:Rd}{t:TypeId}{v x u:Value}{fx:Fx}(h:wW P R t v x=some (u,fx)):qh P R t v x=some (u,fx):=by
 unfold wW at h
 rw[aH]at h
 obtain⟨a,h1,h⟩:=h
 rw[bH]at h
 split at h
 ·rename_i hs
  rw[j5 h1,eW hs]
  simp only[aH]at h
  obtain⟨l,h2,⟨c,e⟩,h3,k,h4,h⟩:=h
  rw[bH]at h
  split at h
  ·rename_i h5
   rw[bH]at h
   split at h
   ·rename_i h6
    rw[bH]at h
    split at h
    ·rename_i h7
     rw[aH]at h
     obtain⟨d,h8,h9⟩:=h
     cases h9
     rw[nK]at h2
     have h3:=aoW_eq h3
     have h5:=ES h5
     rw[dX]at h5 h7
     rw[oY]at h6
     have h7:=EL h7
     simp only at h7
     simp only[qh,h3,h2]
     rw[if_pos ⟨by rw[h4,h5],by omega,h6⟩,(pt _ _ _ _ h8).2]
    ·cases h
   ·cases h
  ·cases h
 ·cases h
noncomputable def kFA(P:Program)(s:TypeId)(v:Value)(f:Nat):dT:=ob (dw P s (.pointer (some ⟨0,0,none⟩)) f) fun z=>ob (qD z) fun z=>ob (qD v) fun a=>bb (gy a) (nn (a.off+z.off) fun o=>some (.pointer (some ⟨a.block,o,none⟩),.none)) none
theorem kFA_ok{P:Program}{s:TypeId}{v:Value}{f:Nat}{u:Value}{fx:Fx}(h:kFA P s v f=some (u,fx)):((dw P s v f).map fun v=>(v,Fx.none))=some (u,fx):=by
 unfold kFA at h
 simp only[aH]at h
 obtain⟨z,h1,b,h2,a,h3,h⟩:=h
 rw[bH]at h
 split at h
 ·rename_i hs
  rw[iD]at h
  cases h
  rw[j5 h3,eW hs]
  rw[j5 h2]at h1
  unfold dw at h1
  split at h1
  ·rename_i fs n i hu hp
   cases hp
   split at h1
   ·rename_i fd hf
    split at h1
    ·rename_i k hk
     simp only[dw,hu,hf,hk]
     split at h1
     ·cases h1
     ·rename_i h0
      rw[if_neg h0]
      simp at h1
      subst h1
      simp
    ·cases h1
   ·cases h1
  ·cases h1
 ·cases h
noncomputable def tdA(d:TypeDesc):Option (Nat×TypeId):=TypeDesc.rec (motive:=fun _=>Option (Nat×TypeId)) none none (fun _=>none) (fun _=>none) (fun _=>none) none none (fun _=>none) (fun _=>none) (fun n e=>some (n,e)) (fun _ _=>none) (fun _ _=>none) (fun _=>none) (fun _ _ _=>none) (fun _=>none) (fun _=>none) (fun _ _=>none) d
noncomputable def tdS(d:TypeDesc):Option TypeId:=TypeDesc.rec (motive:=fun _=>Option TypeId) none none (fun _=>none) (fun _=>none) (fun _=>none) none none (fun _=>none) (fun e=>some e) (fun _ _=>none) (fun _ _=>none) (fun _ _=>none) (fun _=>none) (fun _ _ _=>none) (fun _=>none) (fun _=>none) (fun _ _=>none) d
theorem tdA_eq{d:TypeDesc}{n:Nat}{e:TypeId}(h:tdA d=some (n,e)):d= .array n e:=by cases d<;>first| (cases h;rfl)|cases h
theorem tdS_eq{d:TypeDesc}{e:TypeId}(h:tdS d=some e):d= .slice e:=by cases d<;>first| (cases h;rfl)|cases h
noncomputable def undA(P:Program)(t:TypeId):Option (Nat×TypeId):=ob (P.underlying t) tdA
noncomputable def undS(P:Program)(t:TypeId):Option TypeId:=ob (P.underlying t) tdS
theorem sL{P:Program}{t:TypeId}{n:Nat}{e:TypeId}(h:undA P t=some (n,e)):P.underlying t=some (.array n e):=by
 unfold undA at h;rw[aH]at h;obtain⟨d,h1,h2⟩:=h;rw[h1,tdA_eq h2]
theorem pX{P:Program}{t:TypeId}{e:TypeId}(h:undS P t=some e):P.underlying t=some (.slice e):=by
 unfold undS at h;rw[aH]at h;obtain⟨d,h1,h2⟩:=h;rw[h1,tdS_eq h2]
noncomputable def below(i:Int)(n:Nat):Option Nat:=Int.rec (motive:=fun _=>Option Nat) (fun m=>bb (Nat.ble (Nat.succ m) n) (some m) none) (fun _=>none) i
theorem tZ{i:Int}{n m:Nat}(h:below i n=some m):i=m/\m<n:=by
 cases i with
 |ofNat k=>
  have h:bb (Nat.ble (Nat.succ k) n) (some k) none=some m:=h
  rw[bH]at h
  split at h
  ·rename_i h1;cases h;exact⟨rfl,EL h1⟩
  ·cases h
 |negSucc k=>cases h
noncomputable def kIA(P:Program)(t:TypeId)(v ix:Value):dT:=ob (mX ix) fun j=>oe (qD v)
 (fun a=>ob (undA P t) fun ne=>ob (below j.2 ne.1) fun j=>ob (bJ P ne.2) fun k=>bb (gy a) (nn (a.off+j*k) fun o=>some (.pointer (some ⟨a.block,o,none⟩),.none)) none)
 (ob (vSl v) fun s=>ob s.1 fun a=>ob (undS P t) fun e=>ob (below j.2 s.2.1) fun j=>ob (bJ P e) fun k=>bb (gy a) (nn (a.off+j*k) fun o=>some (.pointer (some ⟨a.block,o,none⟩),.none)) none)
theorem kIA_ok{P:Program}{t:TypeId}{v ix u:Value}{fx:Fx}(h:kIA P t v ix=some (u,fx)):((cJ P t v ix).map fun v=>(v,Fx.none))=some (u,fx):=by
 unfold kIA at h
 rw[aH]at h
 obtain⟨⟨kd,j⟩,h1,h⟩:=h
 rw[gU h1]
 cases hp:qD v with
 |some a=>
  rw[hp,bX]at h
  simp only[aH]at h
  obtain⟨⟨n,e⟩,h2,m,h3,k,h4,h⟩:=h
  rw[bH]at h
  split at h
  ·rename_i hs
   rw[iD]at h
   cases h
   obtain⟨h5,h6⟩:=tZ h3
   simp only at h5 h6
   subst h5
   rw[j5 hp,eW hs]
   simp only[cJ,sL h2]
   rw[if_pos ⟨by omega,by omega⟩,h4]
   simp
  ·cases h
 |none=>
  rw[hp,cc]at h
  simp only[aH]at h
  obtain⟨⟨sa,l,c⟩,h0,a,h0',e,h2,m,h3,k,h4,h⟩:=h
  simp only at h0'
  subst h0'
  rw[bH]at h
  split at h
  ·rename_i hs
   rw[iD]at h
   cases h
   obtain⟨h5,h6⟩:=tZ h3
   simp only at h5 h6
   subst h5
   rw[qH h0,eW hs]
   simp only[cJ,pX h2]
   rw[if_pos ⟨by omega,by omega⟩,h4]
   simp
  ·cases h
noncomputable def kBox(hl:Nat)(e:TypeId)(v:Value):dT:=ob (qU v) fun l=>some (.pointer (some ⟨hl,0,none⟩),.push (.cells l e))
theorem B3{hl:Nat}{e:TypeId}{v u:Value}{fx:Fx}(h:kBox hl e v=some (u,fx)):qP hl e v=some (u,fx):=by
 unfold kBox at h
 rw[aH]at h
 obtain⟨l,h1,h2⟩:=h
 rw[nK]at h1
 simp only[qP,h1,Option.map_some];exact h2
noncomputable def Bp(P:Program)(hl:Nat)(e:TypeId):dT:=ob (cw P e) fun z=>bb (plain z) (kBox hl e z) none
theorem CZ{P:Program}{hl:Nat}{e:TypeId}{u:Value}{fx:Fx}(h:Bp P hl e=some (u,fx)):pW P hl e=some (u,fx):=by
 unfold Bp at h
 rw[aH]at h
 obtain⟨z,h1,h2⟩:=h
 rw[bH]at h2
 split at h2
 ·rename_i hp
  simp only[pW,h1,Option.bind_some,if_pos hp]
  exact B3 h2
 ·cases h2
noncomputable def kc(k:IntKind):Nat:=IntKind.rec (motive:=fun _=>Nat) 0 1 2 3 4 5 6 7 k
theorem kc_eq{k l:IntKind}(h:Nat.beq (kc k) (kc l)=true):k=l:=by cases k<;>cases l<;>first|rfl|cases h
noncomputable def isI64(k:IntKind):Bool:=IntKind.rec (motive:=fun _=>Bool) false false false true false false false false k
theorem yj{k:IntKind}(h:isI64 k=true):k= .i64:=by cases k<;>first|rfl|cases h
noncomputable def nat2{β:Type}(a b:Int)(f:Nat->Nat->Option β)(d:Option β):Option β:=Int.rec (motive:=fun _=>Option β) (fun m=>Int.rec (motive:=fun _=>Option β) (fun n=>f m n) (fun _=>d) b) (fun _=>d) a
theorem eQ{β:Type}{a b:Int}{f:Nat->Nat->Option β}{d:Option β}{y:β}(h:nat2 a b f d=some y):(∃m n:Nat,a=m/\b=n/\f m n=some y)\/d=some y:=by
 cases a with
 |ofNat m=>
  cases b with
  |ofNat n=>exact .inl ⟨m,n,rfl,rfl,h⟩
  |negSucc n=>exact .inr h
 |negSucc m=>exact .inr h
noncomputable def fb(op:BinOp)(k:IntKind)(a b:Int):dT:=ob (fu op k a b) fun v=>ob (eR 2 v) fun v=>some (v,.none)
theorem cL{op:BinOp}{k:IntKind}{a b:Int}{u:Value}{fx:Fx}(h:fb op k a b=some (u,fx)):((fu op k a b).map fun v=>(v,Fx.none))=some (u,fx):=by
 unfold fb at h
 simp only[aH]at h
 obtain⟨v,h1,w,h2,h3⟩:=h
 cases h3
 rw[h1,lx _ _ _ h2];rfl
noncomputable def kIntK(op:BinOp)(k:IntKind)(a b:Int):dT:=BinOp.rec (motive:=fun _=>IntKind->Int->Int->dT)
 (fun k a b=>nat2 a b (fun m n=>bb (isI64 k) (bb (Nat.ble (m+n) 9223372036854775807) (nn (m+n) fun r=>some (.int k (.ofNat r),.none)) none) (fb .add k a b)) (fb .add k a b))
 (fun k a b=>nat2 a b (fun m n=>bb (isI64 k) (bb (Nat.ble m 9223372036854775807) (bb (Nat.ble n m) (nn (m-n) fun r=>some (.int k (.ofNat r),.none)) (fb .sub k a b)) none) (fb .sub k a b)) (fb .sub k a b))
 (fun k a b=>fb .mul k a b) (fun k a b=>fb .quo k a b) (fun k a b=>fb .rem k a b) (fun k a b=>fb .and k a b) (fun k a b=>fb .or k a b) (fun k a b=>fb .xor k a b) (fun k a b=>fb .shl k a b) (fun k a b=>fb .shr k a b) (fun k a b=>fb .andNot k a b)
 (fun k a b=>nat2 a b (fun m n=>bb (Nat.beq m n) (some (.bool true,.none)) (some (.bool false,.none))) (fb .eql k a b))
 (fun k a b=>nat2 a b (fun m n=>bb (Nat.beq m n) (some (.bool false,.none)) (some (.bool true,.none))) (fb .neq k a b))
 (fun k a b=>nat2 a b (fun m n=>bb (Nat.ble n m) (some (.bool false,.none)) (some (.bool true,.none))) (fb .lss k a b))
 (fun k a b=>nat2 a b (fun m n=>bb (Nat.ble m n) (some (.bool true,.none)) (some (.bool false,.none))) (fb .leq k a b))
 (fun k a b=>nat2 a b (fun m n=>bb (Nat.ble m n) (some (.bool false,.none)) (some (.bool true,.none))) (fb .gtr k a b))
 (fun k a b=>nat2 a b (fun m n=>bb (Nat.ble n m) (some (.bool true,.none)) (some (.bool false,.none))) (fb .geq k a b))
 op k a b
theorem bh{β:Type}{b:Bool}{x:Option β}{y:β}(h:bb b x none=some y):b=true/\x=some y:=by
 cases b with
 |false=>cases h
 |true=>exact⟨rfl,h⟩
theorem kIntK_ok{op:BinOp}{k:IntKind}{a b:Int}{u:Value}{fx:Fx}(h:kIntK op k a b=some (u,fx)):((fu op k a b).map fun v=>(v,Fx.none))=some (u,fx):=by
 cases op with
 |add=>
  have h0:=eQ h
  clear h
  rcases h0 with ⟨m,n,rfl,rfl,h⟩|h
  ·rw[bH]at h
   split at h
   rotate_left
   ·exact cL h
   rename_i h1
   obtain⟨h2,h⟩:=bh h
   rw[iD]at h
   cases h
   have h2:=EL h2
   rw[yj h1]
   show some (Value.int .i64 (IntKind.i64.wrap ((m:Int)+n)),Fx.none)=_
   rw[show IntKind.i64.wrap ((m:Int)+n)=((m+n:Nat):Int)by rw[EP];omega]
   rfl
  ·exact cL h
 |sub=>
  have h0:=eQ h
  clear h
  rcases h0 with ⟨m,n,rfl,rfl,h⟩|h
  ·rw[bH]at h
   split at h
   rotate_left
   ·exact cL h
   rename_i h1
   obtain⟨h2,h⟩:=bh h
   rw[bH]at h
   split at h
   ·rename_i h3
    rw[iD]at h
    cases h
    have h2:=EL h2
    have h3:=EL h3
    rw[yj h1]
    show some (Value.int .i64 (IntKind.i64.wrap ((m:Int) -n)),Fx.none)=_
    rw[show IntKind.i64.wrap ((m:Int) -n)=((m-n:Nat):Int)by rw[EP];omega]
    rfl
   ·exact cL h
  ·exact cL h
 |eql=>
  have h0:=eQ h
  clear h
  rcases h0 with ⟨m,n,rfl,rfl,h⟩|h
  ·rw[bH]at h
   split at h
   ·rename_i h1;cases h;have:=ES h1;subst this;simp[fu]
   ·rename_i h1;cases h
    have:m≠n:=fun e=>h1 (by subst e;simp)
    simp[fu];omega
  ·exact cL h
 |neq=>
  have h0:=eQ h
  clear h
  rcases h0 with ⟨m,n,rfl,rfl,h⟩|h
  ·rw[bH]at h
   split at h
   ·rename_i h1;cases h;have:=ES h1;subst this;simp[fu]
   ·rename_i h1;cases h
    have:m≠n:=fun e=>h1 (by subst e;simp)
    simp[fu];omega
  ·exact cL h
 |lss=>
  have h0:=eQ h
  clear h
  rcases h0 with ⟨m,n,rfl,rfl,h⟩|h
  ·rw[bH]at h
   split at h
   ·rename_i h1;cases h;have:=EL h1;have h2: ¬m<n:=by omega
    simp[fu,h2]
   ·rename_i h1;cases h
    have:m<n:=by
     rcases FZ m n with h|h
     ·exact h
     ·exact absurd (FH h) h1
    simp[fu,this]
  ·exact cL h
 |leq=>
  have h0:=eQ h
  clear h
  rcases h0 with ⟨m,n,rfl,rfl,h⟩|h
  ·rw[bH]at h
   split at h
   ·rename_i h1;cases h;have:=EL h1
    simp[fu,this]
   ·rename_i h1;cases h
    have: ¬m<=n:=fun h=>h1 (FH h)
    simp[fu,this]
  ·exact cL h
 |gtr=>
  have h0:=eQ h
  clear h
  rcases h0 with ⟨m,n,rfl,rfl,h⟩|h
  ·rw[bH]at h
   split at h
   ·rename_i h1;cases h;have:=EL h1;have h2: ¬n<m:=by omega
    simp[fu,h2]
   ·rename_i h1;cases h
    have:n<m:=by
     rcases FZ n m with h|h
     ·exact h
     ·exact absurd (FH h) h1
    simp[fu,this]
  ·exact cL h
 |geq=>
  have h0:=eQ h
  clear h
  rcases h0 with ⟨m,n,rfl,rfl,h⟩|h
  ·rw[bH]at h
   split at h
   ·rename_i h1;cases h;have:=EL h1
    simp[fu,this]
   ·rename_i h1;cases h
    have: ¬n<=m:=fun h=>h1 (FH h)
    simp[fu,this]
  ·exact cL h
 |mul=>exact cL h
 |quo=>exact cL h
 |rem=>exact cL h
 |and=>exact cL h
 |or=>exact cL h
 |xor=>exact cL h
 |shl=>exact cL h
 |shr=>exact cL h
 |andNot=>exact cL h
noncomputable def tH(o:Option Value):dT:=ob o fun v=>ob (eR 8 v) fun v=>some (v,.none)
theorem qg{o:Option Value}{u:Value}{fx:Fx}(h:tH o=some (u,fx)):(o.map fun v=>(v,Fx.none))=some (u,fx):=by
 unfold tH at h
 simp only[aH]at h
 obtain⟨v,h1,w,h2,h3⟩:=h
 cases h3
 rw[h1,lx _ _ _ h2];rfl
noncomputable def kBin(P:Program)(op:BinOp)(t:TypeId)(x y:Value):dT:=oe (mX x) (fun ka=>ob (mX y) fun kb=>bb (Nat.beq (kc ka.1) (kc kb.1)) (kIntK op ka.1 ka.2 kb.2) none) (tH (dx P op t x y))
theorem kBin_ok{P:Program}{op:BinOp}{t:TypeId}{x y u:Value}{fx:Fx}(h:kBin P op t x y=some (u,fx)):((dx P op t x y).map fun v=>(v,Fx.none))=some (u,fx):=by
 unfold kBin at h
 cases hx:mX x with
 |none=>rw[hx,cc]at h;exact qg h
 |some ka=>
  obtain⟨k,a⟩:=ka
  rw[hx,bX]at h
  rw[aH]at h
  obtain⟨⟨l,b⟩,hy,h⟩:=h
  obtain⟨h1,h⟩:=bh h
  have hk:=kc_eq h1
  simp only at hk
  subst hk
  rw[gU hx,gU hy]
  simp only[dx,if_true]
  exact kIntK_ok h
noncomputable def tdI(d:TypeDesc):Bool:=TypeDesc.rec (motive:=fun _=>Bool) false false (fun _=>true) (fun _=>false) (fun _=>false) false false (fun _=>false) (fun _=>false) (fun _ _=>false) (fun _ _=>false) (fun _ _=>false) (fun _=>false) (fun _ _ _=>false) (fun _=>false) (fun _=>false) (fun _ _=>false) d
theorem tdI_eq{d:TypeDesc}(h:tdI d=true): ∃k,d= .int k:=by cases d<;>first|exact⟨_,rfl⟩|cases h
noncomputable def keyA(P:Program)(t:TypeId):Option Nat:=ob (undA P t) fun ne=>ob (P.underlying ne.2) fun d=>bb (tdI d) (ob (bJ P ne.2) fun k=>bb (Nat.beq k 1) (ob (kw P ne.2) fun g=>bb g none (some ne.1)) none) none
theorem BL{P:Program}{t:TypeId}{n:Nat}(h:keyA P t=some n): ∃e k,P.underlying t=some (.array n e)/\P.underlying e=some (.int k)/\bJ P e=some 1/\kw P e=some false:=by
 unfold keyA at h
 simp only[aH]at h
 obtain⟨⟨m,e⟩,h1,d,h2,h⟩:=h
 obtain⟨h3,h⟩:=bh h
 rw[aH]at h
 obtain⟨k,h4,h⟩:=h
 obtain⟨h5,h⟩:=bh h
 rw[aH]at h
 obtain⟨g,h6,h⟩:=h
 cases g with
 |true=>cases h
 |false=>
  cases h
  obtain⟨kd,rfl⟩:=tdI_eq h3
  have:=ES h5
  subst this
  exact⟨e,kd,sL h1,h2,h4,h6⟩
noncomputable def sameI(l m:List Value):Option Bool:=List.rec (motive:=fun _=>List Value->Option Bool) (fun m=>List.rec (motive:=fun _=>Option Bool) (some true) (fun _ _ _=>none) m)
 (fun x _ ih m=>List.rec (motive:=fun _=>Option Bool) none (fun y m' _=>ob (mX x) fun a=>ob (mX y) fun b=>bb (Nat.beq (kc a.1) (kc b.1)) (bb (decide (a.2=b.2)) (ih m') (some false)) none) m) l m
theorem wz{P:Program}{e:TypeId}{k:IntKind}{d:Nat}(hu:P.underlying e=some (.int k))(hg:kw P e=some false): ∀(l m:List Value) (b:Bool) (pre pre':List Value),pre.length=pre'.length->sameI l m=some b->jJ (bZ P (d+1)) P e 1 (pre++l).toArray (pre'++m).toArray (List.range' pre.length l.length)=some b
 | [],[],b,pre,pre',_,h=>by cases h;rfl
 | [],_::_,b,_,_,_,h=>by cases h
 |_::_,[],b,_,_,_,h=>by cases h
 |x::l,y::m,b,pre,pre',hp,h=>by
  have h:(ob (mX x) fun a=>ob (mX y) fun b=>bb (Nat.beq (kc a.1) (kc b.1)) (bb (decide (a.2=b.2)) (sameI l m) (some false)) none)=some b:=h
  simp only[aH]at h
  obtain⟨⟨k1,a⟩,h1,⟨k2,a'⟩,h2,h0⟩:=h
  obtain⟨h3,h⟩:=bh h0
  clear h0
  have hk:=kc_eq h3
  simp only at hk
  subst hk
  have hx:(pre++x::l).toArray[pre.length]? =some x:=by simp
  have hy:(pre'++y::m).toArray[pre.length]? =some y:=by rw[hp];simp
  have ap: ∀(cs:Array Value) (j:Nat),iy P e cs (j*1)=cs[j]? :=by intro cs j;unfold iy;rw[hg,Hl]
  have hev:bZ P (d+1) e x y=some (a==a'):=by rw[gU h1,gU h2];simp only[bZ,hu,if_true]
  simp only[List.length_cons,GM,jJ,ap,hx,hy,hev]
  rw[bH]at h
  split at h
  ·rename_i he
   have he:a=a':=by simpa using he
   subst he
   simp only[beq_self_eq_true]
   have:=wz (d:=d) hu hg l m b (pre++[x]) (pre'++[y]) (by simp[hp]) h
   simpa using this
  ·rename_i he
   cases h
   have he: ¬a=a':=by simpa using he
   have hb:(a==a')=false:=by simpa using he
   rw[hb]
noncomputable def allI(l:List Value):Bool:=List.rec (motive:=fun _=>Bool) true (fun x _ ih=>Option.rec (motive:=fun _=>Bool) false (fun _=>ih) (mX x)) l
theorem BF: ∀(l:List Value),allI l=true-> ∀x∈l,∃k n,x= .int k n
 | [],_,_,h=>by simp at h
 |y::l,h,x,hx=>by
  have h:Option.rec (motive:=fun _=>Bool) false (fun _=>allI l) (mX y)=true:=h
  cases hy:mX y with
  |none=>rw[hy]at h;cases h
  |some kn=>
   rw[hy]at h
   rcases EG.1 hx with rfl|hx
   ·obtain⟨k,n⟩:=kn;exact⟨k,n,gU hy⟩
   ·exact BF l h x hx
noncomputable def findA(l:List Value)(es:List (Value×Value))(i:Nat):Option (Option (Nat×Value)):=List.rec (motive:=fun _=>Nat->Option (Option (Nat×Value))) (fun _=>some none)
 (fun kv _ ih i=>ob (vAgg kv.1) fun m=>bb (allI m) (ob (sameI l m) fun b=>bb b (some (some (i,kv.2))) (ih (Nat.succ i))) none) es i
theorem tW{l:List Value}(h:allI l=true):plain (.agg ⟨l⟩)=true:=by
 show l.all iz=true
 rw[EI]
 intro x hx
 obtain⟨k,n,rfl⟩:=BF l h x hx
 rfl
theorem zE{P:Program}{t:TypeId}{n:Nat}(hk:keyA P t=some n){l:List Value}(hl:l.length=n): ∀(es:List (Value×Value)) (i:Nat) (r:Option (Nat×Value)),findA l es i=some r->bP P t (.agg ⟨l⟩) es i=some r
 | [],i,r,h=>by cases h;rfl
 | (kv,v)::es,i,r,h=>by
   have h:(ob (vAgg kv) fun m=>bb (allI m) (ob (sameI l m) fun b=>bb b (some (some (i,v))) (findA l es (Nat.succ i))) none)=some r:=h
   rw[aH]at h
   obtain⟨m,h1,h⟩:=h
   obtain⟨h2,h⟩:=bh h
   rw[aH]at h
   obtain⟨b,h3,h⟩:=h
   obtain⟨e,k,q1,q2,q3,q4⟩:=BL hk
   have heq:bZ P 10000 t (.agg ⟨l⟩) kv=some b:=by
    rw[qu h1]
    show bZ P (9998+1+1) t (.agg ⟨l⟩) (.agg ⟨m⟩)=some b
    rw[bZ.eq_def]
    simp only[q1,q3,Option.bind_some]
    have:=wz (d:=9998) q2 q4 l m b [] [] rfl h3
    rw[List.range_eq_range',<-hl]
    simpa using this
   have hp:plain kv=true:=by rw[qu h1];exact tW h2
   simp only[bP,if_pos hp,heq]
   rw[bH]at h
   split at h
   ·rename_i hb;subst hb;exact h
   ·rename_i hb
    have hb:b=false:=by cases b<;>simp_all
    subst hb
    exact zE hk hl es (i+1) r h
theorem acheck_A{P:Program}{t:TypeId}{n:Nat}(hk:keyA P t=some n){l:List Value}(hl:l.length=n):dR P 10000 t (.agg ⟨l⟩)=true:=by
 obtain⟨e,k,q1,q2,q3,q4⟩:=BL hk
 show dR P (9998+1+1) t (.agg ⟨l⟩)=true
 rw[dR.eq_def]
 simp only[q1,q3]
 have key: ∀is:List Nat,(∀i∈is,i<l.length)->gX (dR P (9998+1)) P e 1 ⟨l⟩ is=true:=by
  intro is
  induction is with
  |nil=>intro _;rfl
  |cons i is ih=>
   intro h
   have hi:=h i (by simp)
   simp only[gX,ih fun j hj=>h j (by simp[hj]),Hn]
   have:iy P e ⟨l⟩ (i*1)=some l[i]:=by unfold iy;rw[q4,Hl];simp[hi]
   rw[this]
   simp only[dR,q2]
 exact key _ fun i hi=>by rw[hl];simpa using hi
noncomputable def findI(k:IntKind)(n:Int)(es:List (Value×Value))(i:Nat):Option (Option (Nat×Value)):=List.rec (motive:=fun _=>Nat->Option (Option (Nat×Value))) (fun _=>some none)
 (fun kv _ ih i=>ob (mX kv.1) fun m=>bb (Nat.beq (kc k) (kc m.1)) (bb (decide (n=m.2)) (some (some (i,kv.2))) (ih (Nat.succ i))) none) es i
theorem zJ{P:Program}{t:TypeId}{k':IntKind}(hu:P.underlying t=some (.int k')){k:IntKind}{n:Int}: ∀(es:List (Value×Value)) (i:Nat) (r:Option (Nat×Value)),findI k n es i=some r->bP P t (.int k n) es i=some r
 | [],i,r,h=>by cases h;rfl
 | (kv,v)::es,i,r,h=>by
   have h:(ob (mX kv) fun m=>bb (Nat.beq (kc k) (kc m.1)) (bb (decide (n=m.2)) (some (some (i,v))) (findI k n es (Nat.succ i))) none)=some r:=h
   rw[aH]at h
   obtain⟨⟨k2,m⟩,h1,h0⟩:=h
   obtain⟨h2,h⟩:=bh h0
   clear h0
   have hk:=kc_eq h2
   simp only at hk
   subst hk
   have heq:bZ P 10000 t (.int k n) kv=some (n==m):=by
    rw[gU h1]
    show bZ P (9999+1) t (.int k n) (.int k m)=_
    simp only[bZ,hu,if_true]
   have hp:plain kv=true:=by rw[gU h1];rfl
   simp only[bP,if_pos hp,heq]
   rw[bH]at h
   split at h
   ·rename_i hb
    have hb:n=m:=by simpa using hb
    subst hb
    simp only[beq_self_eq_true]
    exact h
   ·rename_i hb
    have hb: ¬n=m:=by simpa using hb
    have hb':(n==m)=false:=by simpa using hb
    rw[hb']
    exact zJ hu es (i+1) r h
theorem acheck_I{P:Program}{t:TypeId}{k':IntKind}(hu:P.underlying t=some (.int k'))(v:Value):dR P 10000 t v=true:=by
 show dR P (9999+1) t v=true
 rw[dR.eq_def]
 simp only[hu]
noncomputable def find(P:Program)(t:TypeId)(k:Value)(es:List (Value×Value)):Option (Option (Nat×Value)):=oe (keyA P t) (fun n=>ob (vAgg k) fun l=>bb (Nat.beq (fQ l) n) (bb (allI l) (findA l es 0) none) none)
 (oe (mX k) (fun a=>ob (P.underlying t) fun d=>bb (tdI d) (findI a.1 a.2 es 0) none)
  (bb (plain k) (bb (dR P 10000 t k) (bP P t k es 0) none) none))
theorem jW{P:Program}{t:TypeId}{k:Value}{es:List (Value×Value)}{r:Option (Nat×Value)}(h:find P t k es=some r):
 plain k=true/\dR P 10000 t k=true/\bP P t k es 0=some r:=by
 unfold find at h
 cases hk:keyA P t with
 |some n=>
  rw[hk,bX,aH]at h
  obtain⟨l,h1,h⟩:=h
  obtain⟨h2,h⟩:=bh h
  obtain⟨h3,h⟩:=bh h
  have h2:=ES h2
  rw[dX]at h2
  rw[qu h1]
  exact⟨tW h3,acheck_A hk h2,zE hk h2 es 0 r h⟩
 |none=>
  rw[hk,cc]at h
  cases hv:mX k with
  |some a=>
   obtain⟨kd,n⟩:=a
   rw[hv,bX,aH]at h
   obtain⟨d,h1,h⟩:=h
   obtain⟨h2,h⟩:=bh h
   obtain⟨k',rfl⟩:=tdI_eq h2
   rw[gU hv]
   exact⟨rfl,acheck_I h1 _,zJ h1 es 0 r h⟩
  |none=>
   rw[hv,cc]at h
   obtain⟨h1,h⟩:=bh h
   obtain⟨h2,h⟩:=bh h
   exact⟨h1,h2,h⟩
noncomputable def tdM(d:TypeDesc):Option (TypeId×TypeId):=TypeDesc.rec (motive:=fun _=>Option (TypeId×TypeId)) none none (fun _=>none) (fun _=>none) (fun _=>none) none none (fun _=>none) (fun _=>none) (fun _ _=>none) (fun k e=>some (k,e)) (fun _ _=>none) (fun _=>none) (fun _ _ _=>none) (fun _=>none) (fun _=>none) (fun _ _=>none) d
theorem tdM_eq{d:TypeDesc}{k e:TypeId}(h:tdM d=some (k,e)):d= .map k e:=by cases d<;>first| (cases h;rfl)|cases h
noncomputable def undM(P:Program)(t:TypeId):Option (TypeId×TypeId):=ob (P.underlying t) tdM
theorem yg{P:Program}{t:TypeId}{k e:TypeId}(h:undM P t=some (k,e)):P.underlying t=some (.map k e):=by
 unfold undM at h;rw[aH]at h;obtain⟨d,h1,h2⟩:=h;rw[h1,tdM_eq h2]
noncomputable def sV(P:Program)(R:Rd)(t:TypeId)(x k:Value)(ok:Bool):dT:=ob (undM P t) fun ke=>ob (P.underlying ke.1) fun _=>ob (cw P ke.2) fun z=>bb (plain z) (ob (vMap x) fun r=>ob r fun n=>ob (aoM (R n)) fun es=>ob (find P ke.1 k es) fun f=>
 oe f (fun iv=>some (bb ok (.tuple ⟨[iv.2,.bool true]⟩) iv.2,.none)) (some (bb ok (.tuple ⟨[z,.bool false]⟩) z,.none))) none
theorem AA{P:Program}{R:Rd}{t:TypeId}{x k:Value}{ok:Bool}{u:Value}{fx:Fx}(h:sV P R t x k ok=some (u,fx)):((kN P R t x k ok).map fun v=>(v,Fx.none))=some (u,fx):=by
 unfold sV at h
 simp only[aH]at h
 obtain⟨⟨kt,e⟩,h1,d,h2,z,h3,h⟩:=h
 obtain⟨h4,h⟩:=bh h
 simp only[aH]at h
 obtain⟨r,h5,n,h6,es,h7,f,h8,h⟩:=h
 subst h6
 obtain⟨h9,h10,h11⟩:=jW h8
 rw[wT h5]
 simp only[kN,yg h1]
 rw[if_pos ⟨h9,h10,by rw[h2];rfl⟩]
 simp only[h3,if_pos h4,zV h7,h11]
 cases f with
 |none=>rw[cc]at h;cases h;cases ok<;>rfl
 |some iv=>rw[bX]at h;cases h;cases ok<;>rfl
noncomputable def gI(P:Program)(R:Rd)(t:TypeId)(m k v:Value):dT:=ob (undM P t) fun ke=>ob (P.underlying ke.1) fun _=>ob (vMap m) fun r=>ob r fun n=>ob (aoM (R n)) fun es=>ob (find P ke.1 k es) fun f=>
 oe f (fun iv=>bb (Instr.sameBits 10000 ((es[iv.1]?.map (·.1)).getD k) k) (ob (lSet es iv.1 (k,v)) fun es=>some (undef,.set n (.map es))) none)
  (ob (sf (fQ es+1) (es++[(k,v)])) fun es=>some (undef,.set n (.map es)))
theorem oA{P:Program}{R:Rd}{t:TypeId}{m k v u:Value}{fx:Fx}(h:gI P R t m k v=some (u,fx)):iQ P R t m k v=some (u,fx):=by
 unfold gI at h
 simp only[aH]at h
 obtain⟨⟨kt,e⟩,h1,d,h2,r,h5,n,h6,es,h7,f,h8,h⟩:=h
 subst h6
 obtain⟨h9,h10,h11⟩:=jW h8
 rw[wT h5]
 simp only[iQ,yg h1]
 rw[if_pos ⟨h9,h10,by rw[h2];rfl⟩]
 simp only[zV h7,h11]
 cases f with
 |none=>
  rw[cc,aH]at h
  obtain⟨es',h12,h13⟩:=h
  cases h13
  obtain⟨_,h14⟩:=jN _ _ _ h12
  rw[h14,dX,GE (by simp)]
 |some iv=>
  obtain⟨i,w⟩:=iv
  rw[bX]at h
  obtain⟨h12,h⟩:=bh h
  rw[aH]at h
  obtain⟨es',h13,h14⟩:=h
  cases h14
  simp only[if_pos h12,(xJ _ _ _ _ h13).2]
theorem zc(off:Nat): ∀(l:List Value) (k:Nat) (cs:Array Value),((l.zipIdx k).foldl (fun cs (c,j)=>cs.setIfInBounds (off+j) c) cs).toList=setAll cs.toList (off+k) l
 | [],_,_=>rfl
 |v::l,k,cs=>by
  simp only[List.zipIdx_cons,List.foldl_cons,setAll]
  rw[zc off l (k+1)]
  simp[FJ]
noncomputable def yS(place:Nat->Option (Nat×Nat))(ps:List (Nat×Value))(c:List Value):Option (List Value):=List.rec (motive:=fun _=>List Value->Option (List Value)) (fun c=>some c)
 (fun p _ ih c=>ob (place p.1) fun os=>ob (qU p.2) fun l=>bb (Nat.beq (fQ l) os.2) (bb (Nat.ble (os.1+os.2) (fQ c)) (ob (pQ l c os.1) fun c=>ih c) none) none) ps c
theorem qw{place:Nat->Option (Nat×Nat)}: ∀(ps:List (Nat×Value)) (c r:List Value),yS place ps c=some r->(ps.all fun x=>(acells x.2).isSome)=true/\Instr.fill place ⟨c⟩ ps=some ⟨r⟩
 | [],c,r,h=>by cases h;exact⟨rfl,rfl⟩
 | (i,v)::ps,c,r,h=>by
   have h:(ob (place i) fun os=>ob (qU v) fun l=>bb (Nat.beq (fQ l) os.2) (bb (Nat.ble (os.1+os.2) (fQ c)) (ob (pQ l c os.1) fun c=>yS place ps c) none) none)=some r:=h
   simp only[aH]at h
   obtain⟨⟨off,size⟩,h1,l,h2,h⟩:=h
   obtain⟨h3,h⟩:=bh h
   obtain⟨h4,h⟩:=bh h
   rw[aH]at h
   obtain⟨d,h5,h6⟩:=h
   obtain⟨h7,h8⟩:=qw ps d r h6
   have h3:=ES h3
   have h4:=EL h4
   rw[dX]at h3 h4
   simp only at h3 h4
   rw[nK]at h2
   have hc:v.cells.toList=l:=by
    cases v<;>simp only[acells,ER]at h2<;>first| (subst h2;rfl)|cases h2
   have hs:v.cells.size=size:=by rw[<-h3,<-hc];simp
   refine⟨by simp only[List.all_cons,h2,Option.isSome_some,F0];exact h7,?_⟩
   rw[Instr.fill]
   simp only[h1,hs]
   rw[if_neg (by simp;omega)]
   have:(Array.foldl (fun cs (x:Value×Nat)=>cs.setIfInBounds (off+x.2) x.1) (⟨c⟩:Array Value) v.cells.zipIdx)=⟨d⟩:=by
    apply F9
    rw[<-GV,He,hc]
    rw[(pt _ _ _ _ h5).2]
    exact zc off l 0 ⟨c⟩
   rw[show(Array.foldl (fun cs (x:Value×Nat)=>match x with| (c,j)=>cs.setIfInBounds (off+j) c) (⟨c⟩:Array Value) v.cells.zipIdx)=⟨d⟩from this]
   exact h8
noncomputable def tdF(d:TypeDesc):Option (List Field):=TypeDesc.rec (motive:=fun _=>Option (List Field)) none none (fun _=>none) (fun _=>none) (fun _=>none) none none (fun _=>none) (fun _=>none) (fun _ _=>none) (fun _ _=>none) (fun _ _=>none) (fun fs=>some fs.toList) (fun _ _ _=>none) (fun _=>none) (fun _=>none) (fun _ _=>none) d
theorem tdF_eq{d:TypeDesc}{l:List Field}(h:tdF d=some l): ∃fs:Array Field,d= .struct fs/\fs.toList=l:=by cases d<;>first|exact⟨_,rfl,by cases h;rfl⟩|cases h
noncomputable def BK(P:Program)(t:TypeId):Option (List (Nat×Nat)):=ob (P.underlying t) fun d=>ob (tdF d) fun fs=>fs.mapM (fun f=>(P.info? f.type).map fun i=>(f.offset,i.size))
noncomputable def zeroL(P:Program)(t:TypeId):Option (List Value):=ob (cw P t) fun z=>bb (plain z) (vAgg z) none
theorem zeroL_eq{P:Program}{t:TypeId}{l:List Value}(h:zeroL P t=some l):cw P t=some (.agg ⟨l⟩)/\plain (.agg ⟨l⟩)=true:=by
 unfold zeroL at h
 rw[aH]at h
 obtain⟨z,h1,h⟩:=h
 obtain⟨h2,h3⟩:=bh h
 rw[qu h3]at h1 h2
 exact⟨h1,h2⟩
theorem Cu{P:Program}{t:TypeId}{z:Value}(h:cw P t=some z): ∃it,P.info? t=some it/\it.zero=some z:=by
 unfold cw at h
 simp only[EN]at h
 exact h
noncomputable def xy(P:Program)(t:TypeId)(ps:List (Nat×Value)):dT:=ob (zeroL P t) fun zl=>oe (undA P t) (fun ne=>ob (P.info? ne.2) fun ie=>ob (yS (fun i=>some (i*ie.size,ie.size)) ps zl) fun c=>some (.agg ⟨c⟩,.none))
 (ob (BK P t) fun pl=>ob (yS (fun i=>jP pl i) ps zl) fun c=>some (.agg ⟨c⟩,.none))
theorem Dc{P:Program}{t:TypeId}{ps:List (Nat×Value)}{u:Value}{fx:Fx}(h:xy P t ps=some (u,fx)):((bI P t ps).map fun v=>(v,Fx.none))=some (u,fx):=by
 unfold xy at h
 rw[aH]at h
 obtain⟨zl,h1,h⟩:=h
 obtain⟨h2,h3⟩:=zeroL_eq h1
 obtain⟨it,h4,h5⟩:=Cu h2
 cases hA:undA P t with
 |some ne=>
  obtain⟨n,e⟩:=ne
  rw[hA,bX]at h
  simp only[aH]at h
  obtain⟨ie,h6,c,h7,h8⟩:=h
  cases h8
  obtain⟨h9,h10⟩:=qw _ _ _ h7
  simp only[bI,h2]
  rw[if_pos ⟨h3,h9⟩]
  simp only[Program.built,h4,sL hA,h5,h6,Value.cells,h10,Option.map_some]
 |none=>
  rw[hA,cc]at h
  simp only[aH]at h
  obtain⟨pl,h6,c,h7,h8⟩:=h
  cases h8
  unfold BK at h6
  simp only[aH]at h6
  obtain⟨d,q1,fs,q2,q3⟩:=h6
  obtain⟨fa,rfl,rfl⟩:=tdF_eq q2
  have hpl:(fun i=>jP pl i)=(fun i=>pl.toArray[i]?):=by funext i;rw[eE];simp
  rw[hpl]at h7
  obtain⟨h9,h10⟩:=qw _ _ _ h7
  simp only[bI,h2]
  rw[if_pos ⟨h3,h9⟩]
  simp only[Program.built,h4,q1,h5,q3,Value.cells,h10,Option.map_some]
noncomputable def ii(P:Program)(hl:Nat)(t:TypeId)(len:Nat)(ps:List (Nat×Value)):dT:=ob (undS P t) fun e=>ob (bJ P e) fun size=>ob (cw P e) fun z=>bb (plain z) (bb (Nat.ble (len*size) 16777216) (bb (Nat.ble 1 (len*size))
 (ob (yS (fun i=>some (i*size,size)) ps (madeCells z.cells (len*size)).toList) fun c=>some (.slice (some ⟨hl,0,none⟩) len len,.push (.cells c e))) none) none) none
theorem uz{P:Program}{hl:Nat}{t:TypeId}{len:Nat}{ps:List (Nat×Value)}{u:Value}{fx:Fx}(h:ii P hl t len ps=some (u,fx)):gL P hl t len ps=some (u,fx):=by
 unfold ii at h
 simp only[aH]at h
 obtain⟨e,h1,size,h2,z,h3,h⟩:=h
 obtain⟨h4,h⟩:=bh h
 obtain⟨h5,h⟩:=bh h
 obtain⟨h6,h⟩:=bh h
 rw[aH]at h
 obtain⟨c,h7,h8⟩:=h
 cases h8
 have h5:=EL h5
 have h6:=EL h6
 obtain⟨h9,h10⟩:=qw _ _ _ h7
 simp only[gL,pX h1]
 rw[if_neg (by rintro⟨rfl,_⟩;simp at h6)]
 simp only[h2,h3]
 rw[if_pos ⟨h4,h9,h5,by omega⟩]
 have:(⟨(madeCells z.cells (len*size)).toList⟩:Array Value)=madeCells z.cells (len*size):=rfl
 rw[this]at h10
 rw[h10];rfl
noncomputable def lCat(a b:List Value):List Value:=List.rec (motive:=fun _=>List Value) b (fun x _ ih=>x::ih) a
theorem lCat_eq(a b:List Value):lCat a b=a++b:=by
 induction a with
 |nil=>rfl
 |cons x a ih=>show x::lCat a b=_;rw[ih];rfl
noncomputable def xH(l:List Value):Option (List Value):=List.rec (motive:=fun _=>Option (List Value)) (some []) (fun x _ ih=>ob ih fun l=>some (x::l)) l
theorem wC: ∀{l r:List Value},xH l=some r->r=l
 | [],r,h=>by cases h;rfl
 |x::l,r,h=>by
  have h:(ob (xH l) fun l=>some (x::l))=some r:=h
  rw[aH]at h
  obtain⟨q,h1,h2⟩:=h
  cases h2
  rw[wC h1]
noncomputable def wU(P:Program)(R:Rd)(hl:Nat)(t1 t2:TypeId)(s x:Value):dT:=ob (undS P t1) fun e=>ob (undS P t2) fun _=>ob (P.info? e) fun it=>ob it.zero fun z=>ob (qU z) fun zl=>bb (Nat.beq (fQ zl) it.size) (bb (Nat.ble 1 it.size)
 (ob (vSl x) fun xs=>ob xs.1 fun xa=>bb (gy xa) (ob (aoC (R xa.block)) fun c=>ob (lDrop c xa.off) fun c=>ob (sf (xs.2.1*it.size) c) fun l=>bb (sQ l) (ob (vSl s) fun ss=>oe ss.1
  (fun sa=>bb (gy sa) (bb (Nat.beq ss.2.2 (unk+it.size)) (bb (Nat.ble ((ss.2.1+xs.2.1)*it.bytes) 140737488355328) (bb (Nat.ble (ss.2.1+xs.2.1) 9223372036854775807) (ob (aoW (R sa.block)) fun ce=>
   bb (Nat.beq ce.2 e) (bb (Nat.beq sa.off 0) (bb (Nat.beq (fQ ce.1) (ss.2.1*it.size)) (nn (ss.2.1+xs.2.1) fun m=>ob (xH (lCat ce.1 l)) fun l=>some (.slice (some ⟨hl,0,none⟩) m (unk+it.size),.setPush sa.block .dead (.cells l e))) none) none) none) none) none) none) none)
  (bb (Nat.beq ss.2.1 0) (bb (Nat.beq ss.2.2 0) (bb (Nat.ble 1 xs.2.1) (bb (Nat.ble (xs.2.1*it.bytes) 140737488355328) (bb (Nat.ble xs.2.1 9223372036854775807) (some (.slice (some ⟨hl,0,none⟩) xs.2.1 (unk+it.size),.push (.cells l e))) none) none) none) none) none)) none) none) none) none
theorem xF{z:Value}{l:List Value}(h:acells z=some l):z.cells.toList=l:=by
 cases z<;>simp only[acells,ER]at h<;>first| (subst h;rfl)|cases h
theorem AL{P:Program}{R:Rd}{hl:Nat}{ts:Array TypeId}{t1 t2:TypeId}(ht1:ts[0]? =some t1)(ht2:ts[1]? =some t2){s x u:Value}{fx:Fx}(h:wU P R hl t1 t2 s x=some (u,fx)):kJ P R hl ts s x=some (u,fx):=by
 unfold wU at h
 simp only[aH]at h
 obtain⟨e,h1,e2,h2,it,h3,z,h4,zl,h5,h⟩:=h
 obtain⟨h6,h⟩:=bh h
 obtain⟨h7,h⟩:=bh h
 simp only[aH]at h
 obtain⟨⟨xa,xl,xc⟩,h8,a,h9,h⟩:=h
 simp only at h9
 subst h9
 obtain⟨h10,h⟩:=bh h
 simp only[aH]at h
 obtain⟨c,h11,d,h12,l,h13,h⟩:=h
 obtain⟨h14,h⟩:=bh h
 rw[aH]at h
 obtain⟨⟨sa,sl,sc⟩,h15,h⟩:=h
 have h6:=ES h6
 have h7:=EL h7
 rw[dX]at h6
 rw[nK]at h5
 rw[AP]at h11
 rw[oY]at h14
 obtain⟨a1,a2⟩:=pC _ _ _ h12
 obtain⟨a3,a4⟩:=jN _ _ _ h13
 subst a2
 rw[Hc]at a3
 have hz:z.cells.size=it.size:=by rw[<-h6,<-xF h5];simp
 have hnews:newsR P R it (some t2) x=some (xl,l):=by
  rw[qH h8,eW h10]
  simp only[newsR,Option.bind_some,pX h2,qG,h11]
  rw[if_pos (by omega),<-a4];rfl
 have ht1':ts[0]?.bind P.underlying=some (.slice e):=by rw[ht1];exact pX h1
 simp only[kJ,ht1',h3,h4,ht2,hnews]
 rw[if_pos ⟨hz,h7,h14⟩]
 cases sa with
 |some b=>
  have h:(bb (gy b) (bb (Nat.beq sc (unk+it.size)) (bb (Nat.ble ((sl+xl)*it.bytes) 140737488355328) (bb (Nat.ble (sl+xl) 9223372036854775807) (ob (aoW (R b.block)) fun ce=>
   bb (Nat.beq ce.2 e) (bb (Nat.beq b.off 0) (bb (Nat.beq (fQ ce.1) (sl*it.size)) (nn (sl+xl) fun m=>ob (xH (lCat ce.1 l)) fun l=>some (.slice (some ⟨hl,0,none⟩) m (unk+it.size),.setPush b.block .dead (.cells l e))) none) none) none) none) none) none) none)=some (u,fx):=h
  obtain⟨q1,h⟩:=bh h
  obtain⟨q2,h⟩:=bh h
  obtain⟨q3,h⟩:=bh h
  obtain⟨q4,h⟩:=bh h
  rw[aH]at h
  obtain⟨⟨cont,e'⟩,q5,h⟩:=h
  obtain⟨q6,h⟩:=bh h
  obtain⟨q7,h⟩:=bh h
  obtain⟨q8,h⟩:=bh h
  rw[iD,aH]at h
  obtain⟨l',q9,h⟩:=h
  cases h
  have q2:=ES q2
  have q3:=EL q3
  have q4:=EL q4
  have q6:=ES q6
  have q7:=ES q7
  have q8:=ES q8
  rw[dX]at q8
  simp only at q6 q8
  subst q6
  have hb:=eW q1
  rw[q7]at hb
  rw[qH h15,hb,q2]
  simp only
  rw[if_pos ⟨q3,q4⟩]
  simp only[if_true,aoW_eq q5,true_and]
  rw[if_pos q8,wC q9,lCat_eq]
 |none=>
  have h:(bb (Nat.beq sl 0) (bb (Nat.beq sc 0) (bb (Nat.ble 1 xl) (bb (Nat.ble (xl*it.bytes) 140737488355328) (bb (Nat.ble xl 9223372036854775807) (some (Value.slice (some ⟨hl,0,none⟩) xl (unk+it.size),Fx.push (.cells l e))) none) none) none) none) none)=some (u,fx):=h
  obtain⟨q1,h⟩:=bh h
  obtain⟨q2,h⟩:=bh h
  obtain⟨q3,h⟩:=bh h
  obtain⟨q4,h⟩:=bh h
  obtain⟨q5,h9⟩:=bh h
  clear h
  have q1:=ES q1
  have q2:=ES q2
  have q3:=EL q3
  have q4:=EL q4
  have q5:=EL q5
  subst q1;subst q2
  rw[qH h15]
  simp only
  rw[if_neg (by omega),if_pos ⟨q4,q5⟩]
  exact h9
noncomputable def fPs(g:Nat->Value)(ps:List (Nat×Operand)):List (Nat×Value):=List.rec (motive:=fun _=>List (Nat×Value)) [] (fun p _ ih=>(p.1,aX g p.2)::ih) ps
theorem AQ(g:Nat->Value): ∀ps:List (Nat×Operand),fPs g ps=ps.map fun(i,x)=>(i,sy g x)
 | []=>rfl
 |p::ps=>by show(p.1,aX g p.2)::fPs g ps=_;rw[AQ g ps,cO];rfl
noncomputable def fFx(fx:Fx):Option Fx:=Fx.rec (motive:=fun _=>Option Fx) (some .none) (fun o=>ob (fAO o) fun o=>some (.push o)) (fun n o=>nn n fun n=>ob (fAO o) fun o=>some (.set n o)) (fun n o o'=>nn n fun n=>ob (fAO o) fun o=>ob (fAO o') fun o'=>some (.setPush n o o')) fx
theorem fFx_eq{fx fy:Fx}(h:fFx fx=some fy):fy=fx:=by
 cases fx with
 |none=>cases h;rfl
 |push o=>
  have h:ob (fAO o) (fun o=>some (Fx.push o))=some fy:=h
  rw[aH]at h
  obtain⟨q,h1,h2⟩:=h
  cases h2
  rw[xW h1]
 |set n o=>
  have h:nn n (fun n=>ob (fAO o) fun o=>some (Fx.set n o))=some fy:=h
  rw[iD,aH]at h
  obtain⟨q,h1,h2⟩:=h
  cases h2
  rw[xW h1]
 |setPush n o o'=>
  have h:nn n (fun n=>ob (fAO o) fun o=>ob (fAO o') fun o'=>some (Fx.setPush n o o'))=some fy:=h
  rw[iD]at h
  simp only[aH]at h
  obtain⟨q,h1,r,h2,h3⟩:=h
  cases h3
  rw[xW h1,xW h2]
noncomputable def fr(P:Program)(R:Rd)(hl:Nat)(g:Nat->Value)(op:Op):dT:=ob (eT P R hl (sy g) op) fun r=>ob (eR 8 r.1) fun v=>ob (fFx r.2) fun fx=>some (v,fx)
theorem dt{P:Program}{R:Rd}{hl:Nat}{g:Nat->Value}{op:Op}{u:Value}{fx:Fx}(h:fr P R hl g op=some (u,fx)):eT P R hl (sy g) op=some (u,fx):=by
 unfold fr at h
 simp only[aH]at h
 obtain⟨⟨v,fy⟩,h1,w,h2,fz,h3,h4⟩:=h
 cases h4
 rw[h1,lx _ _ _ h2,fFx_eq h3]
noncomputable def qA(v:Value)(i:Nat):dT:=ob (vTup v) fun l=>ob (jP l i) fun v=>some (v,.none)
theorem yY{v:Value}{i:Nat}{u:Value}{fx:Fx}(h:qA v i=some (u,fx)):((gz v i).map fun v=>(v,Fx.none))=some (u,fx):=by
 unfold qA at h
 simp only[aH]at h
 obtain⟨l,h1,w,h2,h3⟩:=h
 cases h3
 rw[eE]at h2
 rw[vTup_eq h1]
 have:(⟨l⟩:Array Value)[i]? =some u:=by rw[<-h2];simp
 simp only[gz,this,Option.map_some]
noncomputable def kPick(c a b:Value):dT:=ob (mf c) fun t=>bb t (some (a,.none)) (some (b,.none))
noncomputable def xG(P:Program)(t:TypeId)(x ix:Value):dT:=oe (vAgg x) (fun cs=>ob (mX ix) fun j=>ob (undA P t) fun ne=>ob (below j.2 ne.1) fun j=>ob (bJ P ne.2) fun k=>ob (kw P ne.2) fun g=>
 bb g (ob (lDrop cs (j*k)) fun c=>ob (sf k c) fun l=>some (.agg ⟨l⟩,.none)) (ob (jP cs (j*k)) fun v=>some (v,.none))) (tH (eF P t x ix))
theorem Dn{P:Program}{t:TypeId}{x ix u:Value}{fx:Fx}(h:xG P t x ix=some (u,fx)):((eF P t x ix).map fun v=>(v,Fx.none))=some (u,fx):=by
 unfold xG at h
 cases hv:vAgg x with
 |none=>rw[hv,cc]at h;exact qg h
 |some cs=>
  rw[hv,bX]at h
  simp only[aH]at h
  obtain⟨⟨kd,j⟩,h1,⟨n,e⟩,h2,m,h3,k,h4,g,h5,h⟩:=h
  obtain⟨h6,h7⟩:=tZ h3
  simp only at h6 h7 h4 h5
  subst h6
  rw[qu hv,gU h1]
  simp only[eF,sL h2]
  rw[if_pos ⟨by omega,by omega⟩,h4]
  simp only[Option.bind_some,Int.toNat_natCast,iy,h5]
  rw[bH]at h
  cases g with
  |true=>
   simp only[if_true,aH]at h
   obtain⟨c,h8,l,h9,h10⟩:=h
   cases h10
   obtain⟨a1,a2⟩:=pC _ _ _ h8
   obtain⟨a3,a4⟩:=jN _ _ _ h9
   subst a2
   rw[Hc]at a3
   simp only[h4,Option.bind_some]
   rw[if_pos (by simp;omega)]
   simp only[Option.map_some]
   congr 3
   apply F9
   rw[a4]
   simp[Array.toList_extract,List.extract_eq_take_drop]
  |false=>
   simp only[EO,if_false,aH]at h
   obtain⟨v,h8,h9⟩:=h
   cases h9
   rw[eE]at h8
   have:(⟨cs⟩:Array Value)[m*k]? =some u:=by rw[<-h8];simp
   simp only[this,Option.map_some]
noncomputable def kLen(P:Program)(R:Rd)(t:TypeId)(x:Value):dT:=oe (vSl x) (fun s=>ob (undS P t) fun _=>some (O U (.ofNat s.2.1),.none)) (tH (xZ P R t x))
theorem kLen_ok{P:Program}{R:Rd}{t:TypeId}{x u:Value}{fx:Fx}(h:kLen P R t x=some (u,fx)):((xZ P R t x).map fun v=>(v,Fx.none))=some (u,fx):=by
 unfold kLen at h
 cases hv:vSl x with
 |none=>rw[hv,cc]at h;exact qg h
 |some s=>
  obtain⟨a,l,c⟩:=s
  rw[hv,bX,aH]at h
  obtain⟨e,h1,h2⟩:=h
  cases h2
  rw[qH hv]
  simp only[xZ,pX h1,Option.map_some]
  rfl
noncomputable def bK(b:Builtin):Nat:=Builtin.rec (motive:=fun _=>Nat) 2 0 0 0 0 0 0 0 1 0 0 0 0 0 0 0 0 0 0 0 0 0 0 0 0 0 b
theorem bK_eq{b:Builtin}(h:Nat.beq (bK b) 1=true):b= .len:=by cases b<;>first|rfl|cases h
theorem bK_eq2{b:Builtin}(h:Nat.beq (bK b) 2=true):b= .append:=by cases b<;>first|rfl|cases h
noncomputable def kApp(P:Program)(R:Rd)(hl:Nat)(g:Nat->Value)(c:Call)(t:TypeId)(x:Operand):dT:=bb (Nat.beq (fQ c.args.toList) 2) (ob (jP c.args.toList 1) fun y=>ob (jP c.argTypes.toList 1) fun t2=>wU P R hl t t2 (aX g x) (aX g y)) none
noncomputable def Aj(P:Program)(R:Rd)(hl:Nat)(g:Nat->Value)(c:Call):dT:=oe (sf 1 c.args.toList) (fun l=>oe (jP l 0) (fun x=>oe (jP c.argTypes.toList 0) (fun t=>
                                                                                 Callee.rec (motive:=fun _=>dT) (fun _=>none) (fun _ _=>none) (fun b=>bb (Nat.beq (bK b) 1) (bb (Nat.beq (fQ c.args.toList) 1) (kLen P R t (aX g x)) none) (bb (Nat.beq (bK b) 2) (oe (kApp P R hl g c t x) (fun r=>some r) (fr P R hl g (.call c))) (fr P R hl g (.call c)))) c.callee) none) none) none
theorem De{P:Program}{R:Rd}{hl:Nat}{g:Nat->Value}{c:Call}{u:Value}{fx:Fx}(h:Aj P R hl g c=some (u,fx)):eT P R hl (sy g) (.call c)=some (u,fx):=by
 unfold Aj at h
 cases h1:sf 1 c.args.toList with
 |none=>rw[h1,cc]at h;cases h
 |some l=>
  rw[h1,bX]at h
  cases h2:jP l 0 with
  |none=>rw[h2,cc]at h;cases h
  |some x=>
   rw[h2,bX]at h
   cases h3:jP c.argTypes.toList 0 with
   |none=>rw[h3,cc]at h;cases h
   |some t=>
    rw[h3,bX]at h
    cases hc:c.callee with
    |value f=>rw[hc]at h;cases h
    |invoke r m=>rw[hc]at h;cases h
    |builtin b=>
     rw[hc]at h
     have h:bb (Nat.beq (bK b) 1) (bb (Nat.beq (fQ c.args.toList) 1) (kLen P R t (aX g x)) none) (bb (Nat.beq (bK b) 2) (oe (kApp P R hl g c t x) (fun r=>some r) (fr P R hl g (.call c))) (fr P R hl g (.call c)))=some (u,fx):=h
     rw[bH]at h
     split at h
     ·rename_i hb
      have hb:=bK_eq hb
      subst hb
      obtain⟨h4,h⟩:=bh h
      have h4:=ES h4
      rw[dX]at h4
      obtain⟨_,h5⟩:=jN _ _ _ h1
      rw[eE]at h2 h3
      have hl:c.args.toList=[x]:=by
       match hh:c.args.toList,h4 with
       | [y],_=>rw[hh]at h5;subst h5;simpa using h2
      have ht:c.argTypes[0]? =some t:=by rw[<-h3];simp
      simp only[eT,hc,hl,Fv,Gy,lR,ht]
      rw[cO]at h
      exact kLen_ok h
     ·rw[bH]at h
      split at h
      ·rename_i hb
       have hb:=bK_eq2 hb
       subst hb
       cases hv:kApp P R hl g c t x with
       |none=>rw[hv,cc]at h;exact dt h
       |some r=>
        rw[hv,bX]at h
        cases h
        unfold kApp at hv
        obtain⟨h4,hv⟩:=bh hv
        simp only[aH]at hv
        obtain⟨y,h6,t2,h7,hv⟩:=hv
        have h4:=ES h4
        rw[dX]at h4
        obtain⟨_,h5⟩:=jN _ _ _ h1
        rw[eE]at h2 h3 h6 h7
        have hl:c.args.toList=[x,y]:=by
         match hh:c.args.toList,h4 with
         | [p,q],_=>
           rw[hh]at h5 h6;subst h5
           have e1:p=x:=by simpa using h2
           have e2:q=y:=by simpa using h6
           rw[e1,e2]
        have ht:c.argTypes[0]? =some t:=by rw[<-h3];simp
        have ht2:c.argTypes[1]? =some t2:=by rw[<-h7];simp
        simp only[eT,hc,hl,Fv,Gy,lR]
        rw[cO,cO]at hv
        exact AL ht ht2 hv
      ·exact dt h
noncomputable def kNil(P:Program)(R:Rd)(hl:Nat)(g:Nat->Value)(x:Operand):dT:=oe (qD (aX g x)) (fun a=>some (.pointer (some a),.none)) (fr P R hl g (.nilCheck x))
noncomputable def kNot(P:Program)(R:Rd)(hl:Nat)(g:Nat->Value)(op:UnOp)(t:TypeId)(x:Operand):dT:=UnOp.rec (motive:=fun _=>dT) (fr P R hl g (.unOp op t x)) (fr P R hl g (.unOp op t x)) (ob (mf (aX g x)) fun b=>bb b (some (.bool false,.none)) (some (.bool true,.none))) (fr P R hl g (.unOp op t x)) op
abbrev KOp:=Program->Rd->Nat->(Nat->Value)->dT
noncomputable def kOp(op:Op):KOp:=Op.rec (motive:=fun _=>KOp)
 (fun x _ _ _ g=>some (aX g x,.none)) (fun x _ _ _ g=>some (aX g x,.none)) (fun c a b _ _ _ g=>kPick (aX g c) (aX g a) (aX g b))
 (fun e P _ hl _=>Bp P hl e) (fun e x _ _ hl g=>kBox hl e (aX g x))
 (fun t ps P _ _ g=>xy P t (fPs g ps.toList)) (fun t l ps P R hl g=>oe (ii P hl t l (fPs g ps.toList)) (fun r=>some r) (fr P R hl g (.buildSlice t l ps))) (fun t m k x P R _ g=>gI P R t (aX g m) (aX g k) (aX g x))
 (fun t a P R _ g=>vW P R t (aX g a)) (fun t a x P R _ g=>wW P R t (aX g a) (aX g x))
 (fun _ _ _ _ _=>none) (fun _ _ _ _ _=>none)
 (fun x P R hl g=>kNil P R hl g x) (fun op t x y _ P _ _ g=>kBin P op t (aX g x) (aX g y)) (fun op t x P R hl g=>kNot P R hl g op t x) (fun s d x P R hl g=>fr P R hl g (.convert s d x))
 (fun _ _ _ _ _ _=>none) (fun t x P R hl g=>fr P R hl g (.makeInterface t x)) (fun fn p q P R hl g=>fr P R hl g (.makeFunc fn p q)) (fun t r P R hl g=>fr P R hl g (.makeMap t r))
 (fun _ _ _ _ _ _=>none) (fun t l c P R hl g=>fr P R hl g (.makeSlice t l c)) (fun t x lo hi mx P R hl g=>fr P R hl g (.slice t x lo hi mx))
 (fun s x f P _ _ g=>kFA P s (aX g x) f) (fun t x f P R hl g=>fr P R hl g (.field t x f)) (fun t x i P _ _ g=>kIA P t (aX g x) (aX g i)) (fun t x i P _ _ g=>xG P t (aX g x) (aX g i))
 (fun t x k ok P R _ g=>oe (vMap (aX g x)) (fun r=>oe r (fun _=>sV P R t (aX g x) (aX g k) ok) (tH (kN P R t (aX g x) (aX g k) ok))) none)
 (fun t m k x P R _ g=>gI P R t (aX g m) (aX g k) (aX g x)) (fun t m k P R hl g=>fr P R hl g (.mapEntry t m k)) (fun t m s x P R hl g=>fr P R hl g (.entryStore t m s x))
 (fun _ _ _ _ _ _=>none) (fun _ _ _ _ _ _=>none) (fun _ _ _ _ _=>none) (fun _ _ _ _ _ _ _ _=>none)
 (fun t i _ _ _ g=>qA (aX g t) i) (fun c P R hl g=>Aj P R hl g c) (fun _ _ _ _ _=>none) (fun _ _ _ _ _=>none) (fun _ _ _ _ _=>none)
 (fun _ _ _ _ _ _=>none) (fun _ _ _ _ _ _ _=>none) (fun _ _ _ _ _ _=>none) op
theorem kOp_ok{P:Program}{R:Rd}{hl:Nat}{g:Nat->Value}{op:Op}{u:Value}{fx:Fx}(h:kOp op P R hl g=some (u,fx)):eT P R hl (sy g) op=some (u,fx):=by
 cases op with
 |move x=>have h:some (aX g x,Fx.none)=some (u,fx):=h;rw[cO]at h;exact h
 |assign x=>have h:some (aX g x,Fx.none)=some (u,fx):=h;rw[cO]at h;exact h
 |pick c a b=>
  have h:kPick (aX g c) (aX g a) (aX g b)=some (u,fx):=h
  unfold kPick at h
  rw[aH]at h
  obtain⟨t,h1,h⟩:=h
  rw[cO]at h1
  simp only[eT,mz h1]
  rw[bH,cO,cO]at h
  cases t<;>exact h
 |alloc e=>exact CZ h
 |box e x=>have h:kBox hl e (aX g x)=some (u,fx):=h;rw[cO]at h;exact B3 h
 |build t ps=>have h:xy P t (fPs g ps.toList)=some (u,fx):=h;rw[AQ]at h;exact Dc h
 |buildSlice t l ps=>
  have h:oe (ii P hl t l (fPs g ps.toList)) (fun r=>some r) (fr P R hl g (.buildSlice t l ps))=some (u,fx):=h
  rw[AQ]at h
  cases hv:ii P hl t l (ps.toList.map fun(i,x)=>(i,sy g x))with
  |none=>rw[hv,cc]at h;exact dt h
  |some r=>rw[hv,bX]at h;cases h;exact uz hv
 |insert t m k x=>have h:gI P R t (aX g m) (aX g k) (aX g x)=some (u,fx):=h;rw[cO,cO,cO]at h;exact oA h
 |load t a=>have h:vW P R t (aX g a)=some (u,fx):=h;rw[cO]at h;exact yD h
 |store t a x=>have h:wW P R t (aX g a) (aX g x)=some (u,fx):=h;rw[cO,cO]at h;exact Cn h
 |nilCheck x=>
  have h:kNil P R hl g x=some (u,fx):=h
  unfold kNil at h
  cases hv:qD (aX g x)with
  |none=>rw[hv,cc]at h;exact dt h
  |some a=>rw[hv,bX]at h;rw[cO]at hv;simp only[eT,j5 hv];exact h
 |binOp op t x y yt=>have h:kBin P op t (aX g x) (aX g y)=some (u,fx):=h;rw[cO,cO]at h;exact kBin_ok h
 |unOp op t x=>
  have h:kNot P R hl g op t x=some (u,fx):=h
  cases op with
  |not=>
   have h:(ob (mf (aX g x)) fun b=>bb b (some (Value.bool false,Fx.none)) (some (Value.bool true,Fx.none)))=some (u,fx):=h
   rw[aH]at h
   obtain⟨b,h1,h⟩:=h
   rw[cO]at h1
   simp only[eT,evUn,mz h1,Option.map_some]
   cases b<;>exact h
  |neg=>exact dt h
  |xor=>exact dt h
  |plus=>exact dt h
 |convert s d x=>exact dt h
 |makeInterface t x=>exact dt h
 |makeFunc fn p q=>exact dt h
 |makeMap t r=>exact dt h
 |makeSlice t l c=>exact dt h
 |slice t x lo hi mx=>exact dt h
 |fieldAddr s x f=>have h:kFA P s (aX g x) f=some (u,fx):=h;rw[cO]at h;exact kFA_ok h
 |field t x f=>exact dt h
 |indexAddr t x i=>have h:kIA P t (aX g x) (aX g i)=some (u,fx):=h;rw[cO,cO]at h;exact kIA_ok h
 |index t x i=>have h:xG P t (aX g x) (aX g i)=some (u,fx):=h;rw[cO,cO]at h;exact Dn h
 |lookup t x k ok=>
  have h:oe (vMap (aX g x)) (fun r=>oe r (fun _=>sV P R t (aX g x) (aX g k) ok) (tH (kN P R t (aX g x) (aX g k) ok))) none=some (u,fx):=h
  rw[cO,cO]at h
  cases hv:vMap (sy g x)with
  |none=>rw[hv,cc]at h;cases h
  |some r=>
   rw[hv,bX]at h
   cases r with
   |none=>rw[cc]at h;exact qg h
   |some n=>rw[bX]at h;exact AA h
 |mapUpdate t m k x=>have h:gI P R t (aX g m) (aX g k) (aX g x)=some (u,fx):=h;rw[cO,cO,cO]at h;exact oA h
 |mapEntry t m k=>exact dt h
 |entryStore t m s x=>exact dt h
 |extract t i=>have h:qA (aX g t) i=some (u,fx):=h;rw[cO]at h;exact yY h
 |call c=>exact De h
 |_=>cases h
end Go.Ev
