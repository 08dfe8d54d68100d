import Derived.Test.YtjcomcgpjjianaaA9
set_option linter.all false
set_option maxHeartbeats 16000000
set_option maxRecDepth 8000
open Go.Value renaming int→O
open Go.IntKind renaming i64→U
namespace Go.Ev
inductive Tri(α:Type) where
 |nil
 |node (l:Tri α) (v:Option α) (r:Tri α)
namespace Tri
variable {α:Type}
def get:Tri α->Nat->Option α
 | .nil,_=>none
 | .node l v r,n=>match n with
   | 0=>v
   |m+1=>match Nat.beq (Nat.mod m 2) 0 with
    |true=>l.get (Nat.div m 2)
    |false=>r.get (Nat.div m 2)
def put:Nat->Tri α->Nat->α->Option (Tri α)
 | 0,_,_,_=>none
 |d+1,.nil,n,x=>match n with
  | 0=>some (.node .nil (some x) .nil)
  |m+1=>match Nat.beq (Nat.mod m 2) 0 with
   |true=>match put d .nil (Nat.div m 2) x with|some l=>some (.node l none .nil)|none=>none
   |false=>match put d .nil (Nat.div m 2) x with|some r=>some (.node .nil none r)|none=>none
 |d+1,.node l v r,n,x=>match n with
  | 0=>some (.node l (some x) r)
  |m+1=>match Nat.beq (Nat.mod m 2) 0 with
   |true=>match put d l (Nat.div m 2) x with|some l=>some (.node l v r)|none=>none
   |false=>match put d r (Nat.div m 2) x with|some r=>some (.node l v r)|none=>none
theorem zh{m k:Nat}(h:Nat.mod m 2=Nat.mod k 2)(h':Nat.div m 2=Nat.div k 2):m=k:=by
 have h1:m%2=k%2:=h
 have h2:m/2=k/2:=h'
 omega
theorem get_put: ∀(d:Nat) (t:Tri α) (n:Nat) (x:α) (t':Tri α),t.put d n x=some t'-> ∀k,t'.get k=if k=n then some x else t.get k:=by
 intro d
 induction d with
 |zero=>intro t n x t' h;cases t<;>cases h
 |succ d ih=>
  have key: ∀(l r:Tri α) (v:Option α) (n:Nat) (x:α) (t':Tri α),(match n with
   | 0=>some (Tri.node l (some x) r)
   |m+1=>match Nat.beq (Nat.mod m 2) 0 with
    |true=>match put d l (Nat.div m 2) x with|some l=>some (.node l v r)|none=>none
    |false=>match put d r (Nat.div m 2) x with|some r=>some (.node l v r)|none=>none)=some t'-> ∀k,t'.get k=if k=n then some x else(Tri.node l v r).get k:=by
   intro l r v n x t' h k
   cases n with
   |zero=>
    cases h
    cases k with
    |zero=>rfl
    |succ k=>rfl
   |succ m=>
    simp only at h
    cases hb:Nat.beq (Nat.mod m 2) 0 with
    |true=>
     rw[hb]at h
     simp only at h
     cases hp:put d l (Nat.div m 2) x with
     |none=>rw[hp]at h;cases h
     |some l'=>
      rw[hp]at h;cases h
      cases k with
      |zero=>rfl
      |succ k=>
       simp only[get]
       cases hk:Nat.beq (Nat.mod k 2) 0 with
       |true=>
        simp only[ih _ _ _ _ hp]
        have e1:=ES hb
        have e2:=ES hk
        by_cases e:k=m
        ·subst e;simp
        ·rw[if_neg (fun h=>e (zh (e2.trans e1.symm) h)),if_neg (by omega)]
       |false=>
        simp only
        rw[if_neg]
        intro e;have:k=m:=by omega
        subst this;rw[hb]at hk;cases hk
    |false=>
     rw[hb]at h
     simp only at h
     cases hp:put d r (Nat.div m 2) x with
     |none=>rw[hp]at h;cases h
     |some r'=>
      rw[hp]at h;cases h
      cases k with
      |zero=>rfl
      |succ k=>
       simp only[get]
       cases hk:Nat.beq (Nat.mod k 2) 0 with
       |true=>
        simp only
        rw[if_neg]
        intro e;have:k=m:=by omega
        subst this;rw[hb]at hk;cases hk
       |false=>
        simp only[ih _ _ _ _ hp]
        have e1:Nat.mod m 2≠0:=fun h=>by rw[h]at hb;cases hb
        have e2:Nat.mod k 2≠0:=fun h=>by rw[h]at hk;cases hk
        by_cases e:k=m
        ·subst e;simp
        ·rw[if_neg (fun h=>e (zh (by have h1:m%2≠0:=e1;have h2:k%2≠0:=e2;show k%2=m%2;omega) h)),if_neg (by omega)]
  intro t n x t' h
  cases t with
  |nil=>
   intro k
   have:=key .nil .nil none n x t' h k
   rw[this]
   by_cases e:k=n
   ·rw[if_pos e,if_pos e]
   ·rw[if_neg e,if_neg e]
    cases k with
    |zero=>rfl
    |succ k=>simp only[get];split<;>rfl
  |node l v r=>exact key l r v n x t' h
theorem bound: ∀t:Tri α,∃N,∀k,N<=k->t.get k=none
 | .nil=>⟨0,fun _ _=>rfl⟩
 | .node l v r=>by
   obtain⟨A,ha⟩:=bound l
   obtain⟨B,hb⟩:=bound r
   refine⟨2*(A+B)+3,fun k hk=> ?_⟩
   cases k with
   |zero=>omega
   |succ k=>
    simp only[get]
    split
    ·exact ha _ (by show A<=k/2;omega)
    ·exact hb _ (by show B<=k/2;omega)
end Tri
def mq(n:Nat):Option Nat:=match n with| 0=>some 0|m+1=>some (m+1)
def fInt(n:Int):Option Int:=match n with
 | .ofNat m=>match mq m with|some m=>some (.ofNat m)|none=>none
 | .negSucc m=>match mq m with|some m=>some (.negSucc m)|none=>none
def si(s:Option Nat):Option (Option Nat):=match s with|none=>some none|some n=>match mq n with|some n=>some (some n)|none=>none
def vO(a:Option Addr):Option (Option Addr):=match a with
 |none=>some none
 |some ⟨b,o,s⟩=>match mq b,mq o,si s with|some b,some o,some s=>some (some ⟨b,o,s⟩)|_,_,_=>none
def fp{α:Type}(f:α->Option α):List α->Option (List α)
 | []=>some []
 |x::l=>match f x with
  |some x=>match fp f l with|some l=>some (x::l)|none=>none
  |none=>none
def eR:Nat->Value->Option Value
 | 0,_=>none
 |d+1,v=>match v with
  | .bool b=>match b with|true=>some (.bool true)|false=>some (.bool false)
  | .int k n=>match fInt n with|some n=>some (.int k n)|none=>none
  | .pointer a=>match vO a with|some a=>some (.pointer a)|none=>none
  | .slice a l c=>match vO a,mq l,mq c with|some a,some l,some c=>some (.slice a l c)|_,_,_=>none
  | .map r=>match si r with|some r=>some (.map r)|none=>none
  | .string ⟨⟨l⟩⟩=>match fp some l with|some l=>some (.string ⟨⟨l⟩⟩)|none=>none
  | .func fn ⟨f⟩ ⟨c⟩=>match fp (eR d) f,fp (eR d) c with|some f,some c=>some (.func fn ⟨f⟩ ⟨c⟩)|_,_=>none
  | .iface t v=>match eR d v with|some v=>some (.iface t v)|none=>none
  | .agg ⟨l⟩=>match fp (eR d) l with|some l=>some (.agg ⟨l⟩)|none=>none
  | .tuple ⟨l⟩=>match fp (eR d) l with|some l=>some (.tuple ⟨l⟩)|none=>none
  | .nilFunc=>some .nilFunc
  | .nilIface=>some .nilIface
  | .chan r=>match si r with|some r=>some (.chan r)|none=>none
  |_=>none
theorem iN{n m:Nat}(h:mq n=some m):m=n:=by cases n<;>cases h<;>rfl
theorem fInt_eq{n m:Int}(h:fInt n=some m):m=n:=by
 cases n with
 |ofNat n=>
  simp only[fInt]at h
  cases h':mq n with
  |none=>rw[h']at h;cases h
  |some k=>rw[h']at h;cases h;rw[iN h']
 |negSucc n=>
  simp only[fInt]at h
  cases h':mq n with
  |none=>rw[h']at h;cases h
  |some k=>rw[h']at h;cases h;rw[iN h']
theorem tg{n m:Option Nat}(h:si n=some m):m=n:=by
 cases n with
 |none=>cases h;rfl
 |some n=>
  simp only[si]at h
  cases h':mq n with
  |none=>rw[h']at h;cases h
  |some k=>rw[h']at h;cases h;rw[iN h']
theorem yB{n m:Option Addr}(h:vO n=some m):m=n:=by
 cases n with
 |none=>cases h;rfl
 |some n=>
  obtain⟨b,o,s⟩:=n
  simp only[vO]at h
  cases h1:mq b with
  |none=>rw[h1]at h;cases h
  |some b'=>
   cases h2:mq o with
   |none=>rw[h1,h2]at h;cases h
   |some o'=>
    cases h3:si s with
    |none=>rw[h1,h2,h3]at h;cases h
    |some s'=>rw[h1,h2,h3]at h;cases h;rw[iN h1,iN h2,tg h3]
theorem my{α:Type}{f:α->Option α}(hf: ∀x y,f x=some y->y=x): ∀{l m:List α},fp f l=some m->m=l
 | [],m,h=>by cases h;rfl
 |x::l,m,h=>by
  simp only[fp]at h
  cases h1:f x with
  |none=>rw[h1]at h;cases h
  |some x'=>
   rw[h1]at h
   simp only at h
   cases h2:fp f l with
   |none=>rw[h2]at h;cases h
   |some l'=>rw[h2]at h;cases h;rw[hf _ _ h1,my hf h2]
theorem lx: ∀(d:Nat) (v u:Value),eR d v=some u->u=v:=by
 intro d
 induction d with
 |zero=>intro v u h;cases h
 |succ d ih=>
  intro v u h
  have hl: ∀{l m:List Value},fp (eR d) l=some m->m=l:=fun h=>my ih h
  cases v with
  |bool b=>cases b<;>cases h<;>rfl
  |int k n=>
   simp only[eR]at h
   cases h1:fInt n with
   |none=>rw[h1]at h;cases h
   |some n'=>rw[h1]at h;cases h;rw[fInt_eq h1]
  |pointer a=>
   simp only[eR]at h
   cases h1:vO a with
   |none=>rw[h1]at h;cases h
   |some n'=>rw[h1]at h;cases h;rw[yB h1]
  |slice a l c=>
   simp only[eR]at h
   cases h1:vO a with
   |none=>rw[h1]at h;cases h
   |some n'=>
    cases h2:mq l with
    |none=>rw[h1,h2]at h;cases h
    |some l'=>
     cases h3:mq c with
     |none=>rw[h1,h2,h3]at h;cases h
     |some c'=>rw[h1,h2,h3]at h;cases h;rw[yB h1,iN h2,iN h3]
  |map r=>
   simp only[eR]at h
   cases h1:si r with
   |none=>rw[h1]at h;cases h
   |some n'=>rw[h1]at h;cases h;rw[tg h1]
  |string s=>
   obtain⟨⟨l⟩⟩:=s
   simp only[eR]at h
   cases h1:fp some l with
   |none=>rw[h1]at h;cases h
   |some n'=>rw[h1]at h;cases h;rw[my (fun x y h=>by cases h;rfl) h1]
  |func fn f c=>
   obtain⟨f⟩:=f
   obtain⟨c⟩:=c
   simp only[eR]at h
   cases h1:fp (eR d) f with
   |none=>rw[h1]at h;cases h
   |some n'=>
    cases h2:fp (eR d) c with
    |none=>rw[h1,h2]at h;cases h
    |some l'=>rw[h1,h2]at h;cases h;rw[hl h1,hl h2]
  |iface t v=>
   simp only[eR]at h
   cases h1:eR d v with
   |none=>rw[h1]at h;cases h
   |some n'=>rw[h1]at h;cases h;rw[ih _ _ h1]
  |agg l=>
   obtain⟨l⟩:=l
   simp only[eR]at h
   cases h1:fp (eR d) l with
   |none=>rw[h1]at h;cases h
   |some n'=>rw[h1]at h;cases h;rw[hl h1]
  |tuple l=>
   obtain⟨l⟩:=l
   simp only[eR]at h
   cases h1:fp (eR d) l with
   |none=>rw[h1]at h;cases h
   |some n'=>rw[h1]at h;cases h;rw[hl h1]
  |nilFunc=>cases h;rfl
  |nilIface=>cases h;rfl
  |chan r=>
   simp only[eR]at h
   cases h1:si r with
   |none=>rw[h1]at h;cases h
   |some n'=>rw[h1]at h;cases h;rw[tg h1]
  |float k b=>cases h
  |complex k a b=>cases h
def fAO(o:AO):Option AO:=match o with
 | .cells c e=>match fp (eR 8) c with|some c=>some (.cells c e)|none=>none
 | .ro c=>match fp (eR 8) c with|some c=>some (.ro c)|none=>none
 | .loop a b c d e f g=>some (.loop a b c d e f g)
 | .map es=>match fp (fun p=>match p with| (k,v)=>match eR 8 k,eR 8 v with|some k,some v=>some (k,v)|_,_=>none) es with|some es=>some (.map es)|none=>none
 | .dead=>some .dead
theorem xW{o u:AO}(h:fAO o=some u):u=o:=by
 have hl: ∀{l m:List Value},fp (eR 8) l=some m->m=l:=fun h=>my (lx 8) h
 cases o with
 |cells c e=>
  simp only[fAO]at h
  cases h1:fp (eR 8) c with
  |none=>rw[h1]at h;cases h
  |some n'=>rw[h1]at h;cases h;rw[hl h1]
 |ro c=>
  simp only[fAO]at h
  cases h1:fp (eR 8) c with
  |none=>rw[h1]at h;cases h
  |some n'=>rw[h1]at h;cases h;rw[hl h1]
 |map es=>
  simp only[fAO]at h
  split at h
  ·rename_i es' h1
   cases h
   rw[my (fun x y h=> ?_) h1]
   obtain⟨k,v⟩:=x
   simp only at h
   cases h2:eR 8 k with
   |none=>rw[h2]at h;cases h
   |some k'=>
    cases h3:eR 8 v with
    |none=>rw[h2,h3]at h;cases h
    |some v'=>rw[h2,h3]at h;cases h;rw[lx _ _ _ h2,lx _ _ _ h3]
  ·cases h
 |loop=>cases h;rfl
 |dead=>cases h;rfl
abbrev Rd:=Nat->AO
inductive Fx where
 |none
 |push (o:AO)
 |set (n:Nat) (o:AO)
 |setPush (n:Nat) (o o':AO)
def Fx.apply(H:AH):Fx->AH
 | .none=>H
 | .push o=>H++[o]
 | .set n o=>H.set n o
 | .setPush n o o'=>H.set n o++[o']
def ye(R:Rd)(n:Nat):Option (List Value):=match R n with| .cells c _=>some c| .ro c=>some c|_=>none
def read1R(R:Rd)(n i:Nat):Option Value:=(ye R n).bind (·[i]?)
def qG(R:Rd)(n i k:Nat):Option (List Value):=(ye R n).bind fun c=>if i+k<=c.length then some ((c.drop i).take k)else none
def sT(P:Program)(R:Rd)(t:TypeId)(a:Value):Option Value:=match a with
 | .pointer (some ⟨n,i,none⟩)=>
   match kw P t with
   |some true=>(bJ P t).bind fun k=>(qG R n i k).map fun l=> .agg l.toArray
   |some false=>read1R R n i
   |none=>none
 |_=>none
theorem Bv(P:Program)(H:AH)(t:TypeId)(a:Value):sT P (at_ H) t a=dQ P H t a:=rfl
def qh(P:Program)(R:Rd)(t:TypeId)(a v:Value):Option (Value×Fx):=match a with
 | .pointer (some ⟨n,i,none⟩)=>
   match R n,acells v with
   | .cells c e,some l=>if bJ P t=some l.length/\i+l.length<=c.length/\l.all one=true then some (undef,.set n (.cells (setAll c i l) e))else none
   |_,_=>none
 |_=>none
def qP(hl:Nat)(e:TypeId)(v:Value):Option (Value×Fx):=(acells v).map fun l=>(.pointer (some ⟨hl,0,none⟩),.push (.cells l e))
def pW(P:Program)(hl:Nat)(e:TypeId):Option (Value×Fx):=(cw P e).bind fun z=>if plain z=true then qP hl e z else none
def gL(P:Program)(hl:Nat)(t:TypeId)(len:Nat)(ps:List (Nat×Value)):Option (Value×Fx):=match P.underlying t with
 |some (.slice e)=>
  if len=0/\ps=[]/\(bJ P e).isSome=true then some (.slice (some ⟨hl,0,none⟩) 0 0,.push (.cells [] e))else
  match bJ P e,cw P e with
  |some size,some z=>
   if plain z=true/\(ps.all fun x=>(acells x.2).isSome)=true/\len*size<=16777216/\len*size≠0 then
    (Instr.fill (fun i=>some (i*size,size)) (madeCells z.cells (len*size)) ps).map fun c=>(.slice (some ⟨hl,0,none⟩) len len,.push (.cells c.toList e))
   else none
  |_,_=>none
 |_=>none
def pM(P:Program)(hl:Nat)(t:TypeId)(l c:Value):Option (Value×Fx):=match l,c,P.underlying t with
 | .int _ l,.int _ c,some (.slice e)=>
   match P.info? e with
   |some i=>match i.zero with
    |some z=>if plain z=true/\0<=l/\l<=c/\(i.bytes:Int)*c<=281474976710656/\c<=9223372036854775807 then
     some (.slice (some ⟨hl,0,none⟩) l.toNat c.toNat,.push (.cells (madeCells z.cells (c.toNat*i.size)).toList e))else none
    |none=>none
   |none=>none
 |_,_,_=>none
def sY(hl:Nat)(r:Option Value):Option (Value×Fx):=match r with|none=>some (.map (some hl),.push (.map []))|_=>none
def xZ(P:Program)(R:Rd)(t:TypeId)(x:Value):Option Value:=match P.underlying t,x with
 |some .string,.string s=>some (O U s.size)
 |some (.slice _),.slice _ n _=>some (O U n)
 |some (.array n _),.agg _=>some (O U n)
 |some (.map _ _),.map none=>some (O U 0)
 |some (.map _ _),.map (some r)=>match R r with| .map es=>some (O U es.length)|_=>none
 |_,_=>none
def newsR(P:Program)(R:Rd)(it:TypeInfo)(xt:Option TypeId)(x:Value):Option (Nat×List Value):=match xt.bind P.underlying with
 |some (.int _)=>match x,it.zero with
  | .int _ m,some z=>if 0<=m/\m<=9223372036854775807/\plain z=true/\z.cells.size=it.size/\0<it.size/\m*it.bytes<=281474976710656 then some (m.toNat,(Builtin.zeroCells z.cells m.toNat).toList)else none
  |_,_=>none
 |some _=>match x with
  | .slice none 0 0=>some (0,[])
  | .slice (some ⟨_,_,some _⟩) l _=>if l=0 then some (0,[])else none
  | .slice (some ⟨n,i,none⟩) l _=>(qG R n i (l*it.size)).map fun c=>(l,c)
  |_=>none
 |none=>none
def kJ(P:Program)(R:Rd)(hl:Nat)(ts:Array TypeId)(s x:Value):Option (Value×Fx):=match ts[0]?.bind P.underlying with
 |some (.slice e)=>
  match P.info? e with
  |some it=>
   match it.zero,newsR P R it ts[1]? x with
   |some z,some (m,l)=>
    if z.cells.size=it.size/\0<it.size/\l.all one=true then
     match s with
     | .slice none 0 0=>
       if m=0 then some (s,.none)
       else if m*it.bytes<=140737488355328/\m<=9223372036854775807 then some (.slice (some ⟨hl,0,none⟩) m (unk+it.size),.push (.cells l e))else none
     | .slice (some ⟨n,i,none⟩) len c=>
       if(len+m)*it.bytes<=140737488355328/\len+m<=9223372036854775807 then
        if c=unk+it.size then
         match R n with
         | .cells cont e'=>if e'=e/\i=0/\cont.length=len*it.size then
          some (.slice (some ⟨hl,0,none⟩) (len+m) (unk+it.size),.setPush n .dead (.cells (cont++l) e))else none
         |_=>none
        else if c<unk then
         if len+m<=c then
          match R n with
          | .cells cont e'=>if i+(len+m)*it.size<=cont.length then some (.slice (some ⟨n,i,none⟩) (len+m) c,.set n (.cells (setAll cont (i+len*it.size) l) e'))else none
          |_=>none
         else if len<=c then
          (qG R n i (len*it.size)).map fun old=>(.slice (some ⟨hl,0,none⟩) (len+m) (unk+it.size),.push (.cells (old++l) e))
         else none
        else none
       else none
     |_=>none
    else none
   |_,_=>none
  |none=>none
 |_=>none
def kN(P:Program)(R:Rd)(t:TypeId)(x k:Value)(ok:Bool):Option Value:=match P.underlying t with
 |some (.map kt e)=>
  if plain k=true/\dR P 10000 kt k=true/\(P.underlying kt).isSome=true then
   match cw P e with
   |some z=>
    if plain z=true then
     match x with
     | .map none=>some (if ok=true then .tuple #[z,.bool false]else z)
     | .map (some n)=>
       match R n with
       | .map es=>match bP P kt k es 0 with
         |some (some (_,v))=>some (if ok=true then .tuple #[v,.bool true]else v)
         |some none=>some (if ok=true then .tuple #[z,.bool false]else z)
         |none=>none
       |_=>none
     |_=>none
    else none
   |none=>none
  else none
 |_=>none
def iQ(P:Program)(R:Rd)(t:TypeId)(m k v:Value):Option (Value×Fx):=match P.underlying t,m with
 |some (.map kt _),.map (some n)=>
  if plain k=true/\dR P 10000 kt k=true/\(P.underlying kt).isSome=true then
   match R n with
   | .map es=>match bP P kt k es 0 with
     |some (some (i,_))=>if Instr.sameBits 10000 ((es[i]?.map (·.1)).getD k) k=true then some (undef,.set n (.map (es.set i (k,v))))else none
     |some none=>some (undef,.set n (.map (es++[(k,v)])))
     |none=>none
   |_=>none
  else none
 |_,_=>none
def rE(P:Program)(R:Rd)(t:TypeId)(m k:Value):Option (Value×Fx):=match P.underlying t,m with
 |some (.map kt e),.map (some n)=>
  if plain k=true/\dR P 10000 kt k=true/\(P.underlying kt).isSome=true then
   match R n with
   | .map es=>match bP P kt k es 0 with
     |some (some (i,v))=>if Instr.sameBits 10000 ((es[i]?.map (·.1)).getD k) k=true/\i<es.length then some (.tuple #[v,O U i],.set n (.map (es.set i (k,(es[i]?.map (·.2)).getD v))))else none
     |some none=>match cw P e with
      |some z=>if plain z=true then some (.tuple #[z,O U es.length],.set n (.map (es++[(k,z)])))else none
      |none=>none
     |none=>none
   |_=>none
  else none
 |_,_=>none
def oK(R:Rd)(m st v:Value):Option (Value×Fx):=match m,st with
 | .map (some n),.int _ i=>
   match R n with
   | .map es=>if 0<=i/\i<es.length then(es[i.toNat]?).map fun x=>(undef,.set n (.map (es.set i.toNat (x.1,v))))else none
   |_=>none
 |_,_=>none
def tk(P:Program)(R:Rd)(ts:Array TypeId)(x:Value):Option (Value×Fx):=match ts[0]?.bind P.underlying,x with
 |some (.slice e),.slice a l _=>
  if l=0 then some (.tuple #[],.none)else
  match a,cw P e with
  |some ⟨n,i,none⟩,some z=>
   match R n with
   | .cells cont e'=>if plain z=true/\(Builtin.zeroCells z.cells l).toList.all one=true/\i+(Builtin.zeroCells z.cells l).toList.length<=cont.length then
    some (.tuple #[],.set n (.cells (setAll cont i (Builtin.zeroCells z.cells l).toList) e'))else none
   |_=>none
  |_,_=>none
 |_,_=>none
def lR(P:Program)(R:Rd)(hl:Nat)(b:Builtin)(ts:Array TypeId)(args:List Value):Option (Value×Fx):=match b,args with
 | .len,[x]=>match ts[0]? with|some t=>(xZ P R t x).map fun v=>(v,.none)|none=>none
 | .append,[s,x]=>kJ P R hl ts s x
 | .clear,[x]=>tk P R ts x
 | .max,[.int k x,.int k' y]=>if k=k' then some (.int k (if y>x then y else x),.none)else none
 | .min,[.int k x,.int k' y]=>if k=k' then some (.int k (if y<x then y else x),.none)else none
 |_,_=>none
def eT(P:Program)(R:Rd)(hl:Nat)(ρ:Operand->Value)(op:Op):Option (Value×Fx):=match op with
 | .move x| .assign x=>some (ρ x,.none)
 | .pick c a b=>match ρ c with| .bool t=>some (if t=true then ρ a else ρ b,.none)|_=>none
 | .alloc e=>pW P hl e
 | .box e x=>qP hl e (ρ x)
 | .build t ps=>(bI P t (ps.toList.map fun(i,x)=>(i,ρ x))).map fun v=>(v,.none)
 | .buildSlice t len ps=>gL P hl t len (ps.toList.map fun(i,x)=>(i,ρ x))
 | .insert t m k x| .mapUpdate t m k x=>iQ P R t (ρ m) (ρ k) (ρ x)
 | .load t a=>(sT P R t (ρ a)).map fun v=>(v,.none)
 | .store t a x=>qh P R t (ρ a) (ρ x)
 | .nilCheck x=>match ρ x with| .pointer (some a)=>some (.pointer (some a),.none)| .func (.func f) p q=>some (.func (.func f) p q,.none)|_=>none
 | .binOp op t x y _=>(dx P op t (ρ x) (ρ y)).map fun v=>(v,.none)
 | .unOp op _ x=>(evUn op (ρ x)).map fun v=>(v,.none)
 | .convert s d x=>(xd P s d (ρ x)).map fun v=>(v,.none)
 | .makeInterface t x=>(pI P t (ρ x)).map fun v=>(v,.none)
 | .makeFunc fn p q=>some (.func fn (p.map ρ) (q.map ρ),.none)
 | .makeMap _ r=>sY hl (r.map ρ)
 | .makeSlice t l c=>pM P hl t (ρ l) (ρ c)
 | .slice t x lo hi mx=>(lw P t (ρ x) (lo.map ρ) (hi.map ρ) (mx.map ρ)).map fun v=>(v,.none)
 | .fieldAddr s x f=>(dw P s (ρ x) f).map fun v=>(v,.none)
 | .field t x f=>(lQ P t (ρ x) f).map fun v=>(v,.none)
 | .indexAddr t x i=>(cJ P t (ρ x) (ρ i)).map fun v=>(v,.none)
 | .index t x i=>(eF P t (ρ x) (ρ i)).map fun v=>(v,.none)
 | .lookup t x k ok=>(kN P R t (ρ x) (ρ k) ok).map fun v=>(v,.none)
 | .mapEntry t m k=>rE P R t (ρ m) (ρ k)
 | .entryStore _ m s x=>oK R (ρ m) (ρ s) (ρ x)
 | .extract t i=>(gz (ρ t) i).map fun v=>(v,.none)
 | .call c=>match c.callee with
   | .builtin b=>lR P R hl b c.argTypes (c.args.toList.map ρ)
   |_=>none
 |_=>none
theorem eJ{o:Option Value}{H:AH}{v:Value}{fx:Fx}(h:(o.map fun v=>(v,Fx.none))=some (v,fx)):(o.map fun v=>OpR.val v H)=some (.val v (fx.apply H)):=by
 simp only[EB,Fe]at h
 obtain⟨u,rfl,rfl,rfl⟩:=h
 rfl
theorem rR{f:Option (Value×AH)}{g:Option (Value×Fx)}{H:AH}(hfg: ∀v fx,g=some (v,fx)->f=some (v,fx.apply H)){v:Value}{fx:Fx}(h:g=some (v,fx)):
 (f.map fun r=>OpR.val r.1 r.2)=some (.val v (fx.apply H)):=by rw[hfg v fx h];rfl
theorem wH{H:AH}{e:TypeId}{x v:Value}{fx:Fx}(h:qP H.length e x=some (v,fx)):lZ H e x=some (v,fx.apply H):=by
 simp only[qP,EB,Fe]at h
 obtain⟨l,h1,rfl,rfl⟩:=h
 simp only[lZ,h1,Option.map_some,Fx.apply]
theorem wX{P:Program}{H:AH}{ts:Array TypeId}{s x v:Value}{fx:Fx}(h:kJ P (at_ H) H.length ts s x=some (v,fx)):bD P H ts s x=some (v,fx.apply H):=by
 have hn: ∀it xt,newsR P (at_ H) it xt x=aC P H it xt x:=fun _ _=>rfl
 have hr: ∀n i k,qG (at_ H) n i k=ak H n i k:=fun _ _ _=>rfl
 unfold kJ at h
 unfold bD
 simp only[hn,hr]at h
 split at h
 ·rename_i e he
  simp only[he]
  split at h
  ·rename_i it hi
   simp only[hi]
   split at h
   ·rename_i z m l hz hm
    simp only[hz,hm]
    split at h
    ·rename_i hc
     rw[if_pos hc]
     split at h
     ·simp only
      split at h
      ·rename_i h1;rw[if_pos h1];cases h;rfl
      ·rename_i h1;rw[if_neg h1]
       split at h
       ·rename_i h2;rw[if_pos h2];cases h;rfl
       ·cases h
     ·rename_i n i len c
      simp only
      split at h
      ·rename_i h1;rw[if_pos h1]
       split at h
       ·rename_i h2;rw[if_pos h2]
        split at h
        ·rename_i cont e' ha
         simp only[ha]
         split at h
         ·rename_i h3;rw[if_pos h3];cases h;rfl
         ·cases h
        ·cases h
       ·rename_i h2;rw[if_neg h2]
        split at h
        ·rename_i h3;rw[if_pos h3]
         split at h
         ·rename_i h4;rw[if_pos h4]
          split at h
          ·rename_i cont e' ha
           simp only[ha]
           split at h
           ·rename_i h5;rw[if_pos h5];cases h;rfl
           ·cases h
          ·cases h
         ·rename_i h4;rw[if_neg h4]
          split at h
          ·rename_i h5;rw[if_pos h5]
           simp only[EB,Fe]at h
           obtain⟨old,h6,rfl,rfl⟩:=h
           rw[h6];rfl
          ·cases h
        ·cases h
      ·cases h
     ·cases h
    ·cases h
   ·cases h
  ·cases h
 ·cases h
theorem zD{P:Program}{H:AH}{ts:Array TypeId}{x v:Value}{fx:Fx}(h:tk P (at_ H) ts x=some (v,fx)):pE P H ts x=some (v,fx.apply H):=by
 unfold tk at h
 unfold pE
 split at h
 ·rename_i e a l cp hu
  simp only[hu]
  split at h
  ·rename_i h1;rw[if_pos h1];cases h;rfl
  ·rename_i h1;rw[if_neg h1]
   split at h
   ·rename_i n i z hz
    simp only[hz]
    split at h
    ·rename_i cont e' h2
     simp only[h2]
     split at h
     ·rename_i h3;rw[if_pos h3];cases h;rfl
     ·cases h
    ·cases h
   ·cases h
 ·cases h
theorem evOpR_ok{P:Program}{H:AH}{ρ:Operand->Value}{op:Op}{v:Value}{fx:Fx}(h:eT P (at_ H) H.length ρ op=some (v,fx)):cH P noC H ρ op=some (.val v (fx.apply H)):=by
 cases op with
 |move x=>cases h;rfl
 |assign x=>cases h;rfl
 |pick c a b=>
  simp only[eT]at h
  simp only[cH]
  split at h
  ·rename_i t ht;rw[ht];cases h;rfl
  ·cases h
 |alloc e=>
  simp only[eT]at h
  refine rR (fun v fx h=> ?_) h
  simp only[pW,EN]at h
  obtain⟨z,h1,h2⟩:=h
  split at h2
  ·rename_i hp
   simp only[gN,h1,Option.bind_some,if_pos hp]
   exact wH h2
  ·cases h2
 |box e x=>exact rR (fun v fx h=>wH h) h
 |build t ps=>exact eJ h
 |buildSlice t len ps=>
  simp only[eT]at h
  refine rR (fun v fx h=> ?_) h
  unfold gL at h
  unfold aQ
  split at h
  ·rename_i e he
   simp only[he]
   split at h
   ·rename_i h1;rw[if_pos h1];cases h;rfl
   ·rename_i h1;rw[if_neg h1]
    split at h
    ·rename_i size z h2 h3
     simp only[h2,h3]
     split at h
     ·rename_i h4;rw[if_pos h4]
      simp only[EB,Fe]at h
      obtain⟨c,h5,rfl,rfl⟩:=h
      rw[h5];rfl
     ·cases h
    ·cases h
  ·cases h
 |insert t m k x|mapUpdate t m k x=>
  simp only[eT,iQ]at h
  simp only[cH,cR]
  split at h
  ·rename_i kt e n h1 h2
   simp only[h1,h2]
   split at h
   ·rename_i h3;rw[if_pos h3]
    split at h
    ·rename_i es h4
     simp only[h4]
     split at h
     ·rename_i i u h5
      simp only[h5]
      split at h
      ·rename_i h6;rw[if_pos h6];cases h;rfl
      ·cases h
     ·rename_i h5;simp only[h5];cases h;rfl
     ·cases h
    ·cases h
   ·cases h
  ·cases h
 |load t a=>exact eJ h
 |store t a x=>
  simp only[eT,qh]at h
  simp only[cH,nN]
  split at h
  ·rename_i n i h1
   simp only[h1]
   split at h
   ·rename_i c e l h2 h3
    simp only[h2,h3]
    split at h
    ·rename_i h4;rw[if_pos h4];cases h;rfl
    ·cases h
   ·cases h
  ·cases h
 |nilCheck x=>
  simp only[eT]at h
  simp only[cH]
  split at h
  ·rename_i a ha;rw[ha];cases h;rfl
  ·rename_i f p q ha;rw[ha];cases h;rfl
  ·cases h
 |binOp op t x y yt=>exact eJ h
 |unOp op t x=>exact eJ h
 |convert s d x=>exact eJ h
 |makeInterface t x=>exact eJ h
 |makeFunc fn p q=>cases h;rfl
 |makeMap t r=>
  simp only[eT]at h
  refine rR (fun v fx h=> ?_) h
  unfold sY at h
  unfold cK
  split at h
  ·rename_i hr;rw[hr];cases h;rfl
  ·cases h
 |makeSlice t l c=>
  simp only[eT]at h
  refine rR (fun v fx h=> ?_) h
  unfold pM at h
  unfold cF
  split at h
  ·rename_i l' c' e h1 h2 h3
   simp only[h1,h2,h3]
   split at h
   ·rename_i i h4
    simp only[h4]
    split at h
    ·rename_i z h5
     simp only[h5]
     split at h
     ·rename_i h6;rw[if_pos h6];cases h;rfl
     ·cases h
    ·cases h
   ·cases h
  ·cases h
 |slice t x lo hi mx=>exact eJ h
 |fieldAddr s x f=>exact eJ h
 |field t x f=>exact eJ h
 |indexAddr t x i=>exact eJ h
 |index t x i=>exact eJ h
 |lookup t x k ok=>exact eJ (o:=cU P H t (ρ x) (ρ k) ok) h
 |mapEntry t m k=>
  simp only[eT]at h
  refine rR (fun v fx h=> ?_) h
  unfold rE at h
  unfold lV
  split at h
  ·rename_i kt e n h1 h2
   simp only[h1,h2]
   split at h
   ·rename_i h3;rw[if_pos h3]
    split at h
    ·rename_i es h4
     simp only[h4]
     split at h
     ·rename_i i u h5
      simp only[h5]
      split at h
      ·rename_i h6;rw[if_pos h6];cases h;rfl
      ·cases h
     ·rename_i h5
      simp only[h5]
      split at h
      ·rename_i z h6
       simp only[h6]
       split at h
       ·rename_i h7;rw[if_pos h7];cases h;rfl
       ·cases h
      ·cases h
     ·cases h
    ·cases h
   ·cases h
  ·cases h
 |entryStore t m s x=>
  simp only[eT,oK]at h
  simp only[cH,iU]
  split at h
  ·rename_i n k i h1 h2
   simp only[h1,h2]
   split at h
   ·rename_i es h3
    simp only[h3]
    split at h
    ·rename_i h4;rw[if_pos h4]
     simp only[EB,Fe]at h
     obtain⟨y,h5,rfl,rfl⟩:=h
     rw[h5];rfl
    ·cases h
   ·cases h
  ·cases h
 |extract t i=>exact eJ h
 |call c=>
  simp only[eT]at h
  simp only[cH,ft]
  split at h
  ·rename_i b hb
   simp only[hb]
   unfold lR at h
   unfold eC
   split at h
   ·rename_i x hx
    simp only[hx]
    split at h
    ·rename_i t ht;rw[ht];exact eJ (o:=rV P H t x) h
    ·cases h
   ·rename_i s x hx
    simp only[hx]
    exact rR (fun v fx h=>wX h) h
   ·rename_i x hx
    simp only[hx]
    exact rR (fun v fx h=>zD h) h
   ·rename_i k x k' y hx
    simp only[hx]
    split at h
    ·rename_i hk;rw[if_pos hk];cases h;rfl
    ·cases h
   ·rename_i k x k' y hx
    simp only[hx]
    split at h
    ·rename_i hk;rw[if_pos hk];cases h;rfl
    ·cases h
   ·cases h
  ·cases h
 |_=>cases h
end Go.Ev
