import Derived.Test.YtjcomcgpjjianaaA11
import Derived.Test.YtjcomcgpjjianaaA12
set_option linter.all false
set_option maxHeartbeats 16000000
set_option maxRecDepth 8000
open Go.Value renaming int→O
open Go.IntKind renaming i64→U
namespace Go.Ev
structure Hp where
 T:Tri AO
 sz:Nat
 low:Nat
 ws:List Nat
noncomputable def gE(E:Tri Value)(t:Nat):Value:=Option.rec (motive:=fun _=>Value) undef (fun v=>v) (E.tget t)
noncomputable def rdT(T:Tri AO)(sz:Nat):Rd:=fun n=>bb (Nat.ble sz n) .dead (Option.rec (motive:=fun _=>AO) .dead (fun o=>o) (T.tget n))
noncomputable def minN(a b:Nat):Nat:=bb (Nat.ble a b) a b
noncomputable def mG(T:Tri AO)(sz low:Nat)(ws:List Nat)(o:AO):Option Hp:=ob (T.tput 40 sz o) fun T=>nn (Nat.succ sz) fun z=>some ⟨T,z,low,ws⟩
noncomputable def setT(T:Tri AO)(sz low:Nat)(ws:List Nat)(n:Nat)(o:AO):Option Hp:=ob (T.tput 40 n o) fun T=>nn (minN n low) fun l=>some ⟨T,sz,l,n::ws⟩
noncomputable def doFx(fx:Fx)(h:Hp):Option Hp:=Hp.rec (motive:=fun _=>Option Hp) (fun T sz low ws=>Fx.rec (motive:=fun _=>Option Hp) (some ⟨T,sz,low,ws⟩) (fun o=>mG T sz low ws o) (fun n o=>setT T sz low ws n o)
 (fun n o o'=>ob (setT T sz low ws n o) fun h=>Hp.rec (motive:=fun _=>Option Hp) (fun T sz low ws=>mG T sz low ws o') h) fx) h
noncomputable def og(n:Nat)(E:Tri Value)(dst:Option Tmp)(v:Value):Option (Tri Value):=Option.rec (motive:=fun _=>Option (Tri Value)) (some E) (fun d=>bb (Nat.ble n d) (some E) (E.tput 40 d v)) dst
noncomputable def vGone(v:Value):Bool:=Value.rec (motive_1:=fun _=>Bool) (motive_2:=fun _=>Unit) (motive_3:=fun _=>Unit) (fun _=>false) (fun _ _=>false) (fun _ _=>false) (fun _ _ _=>false) (fun _=>false)
 (fun _=>false) (fun _ _ _=>false) (fun _=>false) (fun r=>Option.rec (motive:=fun _=>Bool) true (fun _=>false) r) (fun _ _ _ _ _=>false) false (fun _ _ _=>false) false (fun _ _=>false) (fun _ _=>false) (fun _ _=>()) () (fun _ _ _ _=>()) v
noncomputable def vYield(v:Value):Option Nat:=Value.rec (motive_1:=fun _=>Option Nat) (motive_2:=fun _=>Unit) (motive_3:=fun _=>Unit) (fun _=>none) (fun _ _=>none) (fun _ _=>none) (fun _ _ _=>none) (fun _=>none)
 (fun _=>none) (fun _ _ _=>none) (fun _=>none) (fun r=>r) (fun _ _ _ _ _=>none) none (fun _ _ _=>none) none (fun _ _=>none) (fun _ _=>none) (fun _ _=>()) () (fun _ _ _ _=>()) v
noncomputable def fnF(f:Fn):Option FuncId:=Fn.rec (motive:=fun _=>Option FuncId) (fun f=>some f) (fun _=>none) (fun _ _=>none) (fun _ _ _ _=>none) (fun _=>none) f
noncomputable def vFun(v:Value):Option (FuncId×List Value×List Value):=Value.rec (motive_1:=fun _=>Option (FuncId×List Value×List Value)) (motive_2:=fun _=>List Value) (motive_3:=fun _=>Unit) (fun _=>none) (fun _ _=>none) (fun _ _=>none) (fun _ _ _=>none) (fun _=>none)
 (fun _=>none) (fun _ _ _=>none) (fun _=>none) (fun _=>none) (fun f _ _ l m=>ob (fnF f) fun f=>some (f,l,m)) none (fun _ _ _=>none) none (fun _ _=>none) (fun _ _=>none) (fun l _=>l) () (fun _ _ _ _=>()) v
noncomputable def vIface(v:Value):Bool:=Value.rec (motive_1:=fun _=>Bool) (motive_2:=fun _=>Unit) (motive_3:=fun _=>Unit) (fun _=>false) (fun _ _=>false) (fun _ _=>false) (fun _ _ _=>false) (fun _=>false)
 (fun _=>false) (fun _ _ _=>false) (fun _=>false) (fun _=>false) (fun _ _ _ _ _=>false) false (fun _ _ _=>true) false (fun _ _=>false) (fun _ _=>false) (fun _ _=>()) () (fun _ _ _ _=>()) v
theorem vGone_eq{v:Value}(h:vGone v=true):v= .chan none:=by
 cases v with
 |chan r=>cases r with
  |none=>rfl
  |some n=>cases h
 |_=>cases h
theorem Ch{v:Value}{n:Nat}(h:vYield v=some n):v= .chan (some n):=by cases v<;>first| (cases h;rfl)|cases h
theorem fnF_eq{f:Fn}{g:FuncId}(h:fnF f=some g):f= .func g:=by cases f<;>first| (cases h;rfl)|cases h
theorem BI{v:Value}{g:FuncId}{l m:List Value}(h:vFun v=some (g,l,m)):v= .func (.func g) ⟨l⟩ ⟨m⟩:=by
 cases v with
 |func f a b=>
  obtain⟨a⟩:=a
  obtain⟨b⟩:=b
  have h:ob (fnF f) (fun f=>some (f,a,b))=some (g,l,m):=h
  rw[aH]at h
  obtain⟨q,h1,h2⟩:=h
  cases h2
  rw[fnF_eq h1]
 |_=>cases h
theorem CP{v:Value}(h:vIface v=true): ∃t u,v= .iface t u:=by cases v<;>first|exact⟨_,_,rfl⟩|cases h
noncomputable def awL(ops:Array Oper)(g:Nat->Value)(gd:Option (Nat×Bool)):Option Bool:=Option.rec (motive:=fun _=>Option Bool) (some true) (fun jw=>ob (jP ops.toList jw.1) fun p=>ob p.dst fun d=>oe (mf (g d)) (fun b=>bb b (some jw.2) (bb jw.2 (some false) (some true))) (bb (vGone (g d)) (some false) none)) gd
theorem lP{ops:Array Oper}{a:Env}{g:Nat->Value}(hg: ∀t,ae a t=g t){o:Oper}{b:Bool}(h:awL ops g o.guard=some b):aJ ops a o=some b:=by
 unfold aJ
 cases hgd:o.guard with
 |none=>rw[hgd]at h;exact h
 |some jw=>
  obtain⟨j,want⟩:=jw
  rw[hgd]at h
  have h:(ob (jP ops.toList j) fun p=>ob p.dst fun d=>oe (mf (g d)) (fun b=>bb b (some want) (bb want (some false) (some true))) (bb (vGone (g d)) (some false) none))=some b:=h
  simp only[aH]at h
  obtain⟨p,h1,d,h2,h⟩:=h
  rw[eE]at h1
  have h1:ops[j]? =some p:=by rw[<-h1];simp
  simp only[h1,h2,hg]
  cases hb:mf (g d)with
  |some c=>
   rw[hb,bX]at h
   rw[mz hb]
   simp only
   cases c<;>cases want<;>exact h
  |none=>
   rw[hb,cc]at h
   obtain⟨h3,h4⟩:=bh h
   rw[vGone_eq h3]
   exact h4
inductive Wr where
 |no
 |only (n:Nat)
 |from(n:Nat)
def Wr.leaves:Wr->Nat->Bool
 | .no,_=>true
 | .only m,n=> !(Nat.beq n m)
 | .from m,n=>Nat.blt n m
def Wr.leavesR:Wr->Nat->Nat->Bool
 | .no,_,_=>true
 | .only m,a,b=>Nat.blt m a||Nat.ble b m
 | .from m,_,b=>Nat.ble b m
structure Tre where
 k:Kd
 w:Wr
 z:Nat
structure Rn3 where
 tr:List Tre
 x:AX
 E:Tri Value
 h:Hp
structure eM where
 pan:Bool
 v:Value
 h:Hp
abbrev dZ:=FuncId->List Value->Tri AO->Nat->Option eM
abbrev gB:=Hp->Nat->List Value->Option (Bool×Hp)
noncomputable def wrOf(fx:Fx):Wr:=Fx.rec (motive:=fun _=>Wr) .no (fun _=> .no) (fun n _=> .only n) (fun n _ _=> .only n) fx
noncomputable def fxK(fx:Fx):Kd:=Fx.rec (motive:=fun _=>Kd) .loud (fun _=> .loud) (fun _ _=> .eff) (fun _ _ _=> .eff) fx
noncomputable def kdP(v:Value):Kd:=Option.rec (motive:=fun _=>Kd) .loud (fun a=>bb (gy a) (.one a.block) .loud) (qD v)
noncomputable def kdC(g:Nat->Value)(c:Call)(fx:Fx):Kd:=Callee.rec (motive:=fun _=>Kd) (fun _=>fxK fx) (fun _ _=>fxK fx) (fun b=>bb (Nat.beq (bK b) 1) (Option.rec (motive:=fun _=>Kd) (fxK fx) (fun x=>Option.rec (motive:=fun _=>Kd) (fxK fx) (fun _=>bb (Nat.beq (fQ c.args.toList) 1) .still (fxK fx)) (vSl (aX g x))) (jP c.args.toList 0)) (fxK fx)) c.callee
noncomputable def kdD(g:Nat->Value)(op:Op)(fx:Fx):Kd:=Op.rec (motive:=fun _=>(Nat->Value)->Fx->Kd) (fun _ _ _=> .still) (fun _ _ _=> .still) (fun _ _ _ _ _=> .still) (fun _ _ _=> .still) (fun _ _ _ _=> .still) (fun _ _ _ _=> .still) (fun _ _ _ _ _=> .still) (fun _ _ _ _ _ fx=>fxK fx)
 (fun _ x g _=>kdP (aX g x)) (fun _ _ _ _ fx=>fxK fx) (fun _ _ fx=>fxK fx) (fun _ _ fx=>fxK fx)
 (fun _ _ _=> .still) (fun _ _ _ _ _ _ _=> .still) (fun _ _ _ _ _=> .still) (fun _ _ _ _ _=> .still) (fun _ _ _ fx=>fxK fx) (fun _ _ _ _=> .still) (fun _ _ _ _ _=> .still) (fun _ _ _ _=> .still) (fun _ _ _ fx=>fxK fx) (fun _ _ _ _ _=> .still) (fun _ _ _ _ _ _ _=> .still)
 (fun _ _ _ _ _=> .still) (fun _ _ _ _ _=> .still) (fun _ _ _ _ _=> .still) (fun _ _ _ _ _=> .still) (fun _ _ _ _ _ fx=>fxK fx) (fun _ _ _ _ _ fx=>fxK fx) (fun _ _ _ _ fx=>fxK fx) (fun _ _ _ _ _ fx=>fxK fx) (fun _ _ _ fx=>fxK fx) (fun _ _ _ fx=>fxK fx)
 (fun _ _ fx=>fxK fx) (fun _ _ _ _ _ fx=>fxK fx) (fun _ _ _ _=> .still) (fun c g fx=>kdC g c fx) (fun _ _ fx=>fxK fx) (fun _ _ fx=>fxK fx)
 (fun _ _ fx=>fxK fx) (fun _ _ _ fx=>fxK fx) (fun _ _ _ _ fx=>fxK fx) (fun _ _ _ fx=>fxK fx) op g fx
noncomputable def opC(op:Op):Option Call:=Op.rec (motive:=fun _=>Option Call) (fun _=>none) (fun _=>none) (fun _ _ _=>none) (fun _=>none) (fun _ _=>none) (fun _ _=>none) (fun _ _ _=>none) (fun _ _ _ _=>none) (fun _ _=>none) (fun _ _ _=>none) (fun _=>none) (fun _=>none)
 (fun _=>none) (fun _ _ _ _ _=>none) (fun _ _ _=>none) (fun _ _ _=>none) (fun _ _=>none) (fun _ _=>none) (fun _ _ _=>none) (fun _ _=>none) (fun _ _=>none) (fun _ _ _=>none) (fun _ _ _ _ _=>none) (fun _ _ _=>none) (fun _ _ _=>none)
 (fun _ _ _=>none) (fun _ _ _=>none) (fun _ _ _ _=>none) (fun _ _ _ _=>none) (fun _ _ _=>none) (fun _ _ _ _=>none) (fun _ _=>none) (fun _ _=>none) (fun _=>none) (fun _ _ _ _=>none) (fun _ _=>none) (fun c=>some c) (fun _=>none) (fun _=>none)
 (fun _=>none) (fun _ _=>none) (fun _ _ _=>none) (fun _ _=>none) op
noncomputable def opP(op:Op):Option Operand:=Op.rec (motive:=fun _=>Option Operand) (fun _=>none) (fun _=>none) (fun _ _ _=>none) (fun _=>none) (fun _ _=>none) (fun _ _=>none) (fun _ _ _=>none) (fun _ _ _ _=>none) (fun _ _=>none) (fun _ _ _=>none) (fun _=>none) (fun _=>none)
 (fun _=>none) (fun _ _ _ _ _=>none) (fun _ _ _=>none) (fun _ _ _=>none) (fun _ _=>none) (fun _ _=>none) (fun _ _ _=>none) (fun _ _=>none) (fun _ _=>none) (fun _ _ _=>none) (fun _ _ _ _ _=>none) (fun _ _ _=>none) (fun _ _ _=>none)
 (fun _ _ _=>none) (fun _ _ _=>none) (fun _ _ _ _=>none) (fun _ _ _ _=>none) (fun _ _ _=>none) (fun _ _ _ _=>none) (fun _ _=>none) (fun _ _=>none) (fun _=>none) (fun _ _ _ _=>none) (fun _ _=>none) (fun _=>none) (fun _=>none) (fun _=>none)
 (fun x=>some x) (fun _ _=>none) (fun _ _ _=>none) (fun _ _=>none) op
noncomputable def ceF(c:Callee):Option Operand:=Callee.rec (motive:=fun _=>Option Operand) (fun f=>some f) (fun _ _=>none) (fun _=>none) c
theorem opC_eq{op:Op}{c:Call}(h:opC op=some c):op= .call c:=by cases op<;>first| (cases h;rfl)|cases h
theorem opP_eq{op:Op}{x:Operand}(h:opP op=some x):op= .panic x:=by cases op<;>first| (cases h;rfl)|cases h
theorem ceF_eq{c:Callee}{f:Operand}(h:ceF c=some f):c= .value f:=by cases c<;>first| (cases h;rfl)|cases h
noncomputable def fTop(v:Value):Option Value:=Value.rec (motive_1:=fun _=>Option Value) (motive_2:=fun _=>Unit) (motive_3:=fun _=>Unit) (fun b=>some (.bool b)) (fun k n=>some (.int k n)) (fun _ _=>none) (fun _ _ _=>none) (fun s=>some (.string s))
 (fun a=>some (.pointer a)) (fun a l c=>some (.slice a l c)) (fun r=>some (.map r)) (fun r=>some (.chan r)) (fun f a b _ _=>some (.func f a b)) (some .nilFunc) (fun t v _=>some (.iface t v)) (some .nilIface) (fun c _=>some (.agg c)) (fun c _=>some (.tuple c))
 (fun _ _=>()) () (fun _ _ _ _=>()) v
theorem BT{v u:Value}(h:fTop v=some u):u=v:=by cases v<;>first| (cases h;rfl)|cases h
noncomputable def fArgs(g:Nat->Value)(l:List Operand):Option (List Value):=List.rec (motive:=fun _=>Option (List Value)) (some []) (fun x _ ih=>ob (fTop (aX g x)) fun v=>ob ih fun l=>some (v::l)) l
theorem yC{g:Nat->Value}: ∀{l:List Operand} {r:List Value},fArgs g l=some r->r=l.map (sy g)
 | [],r,h=>by cases h;rfl
 |x::l,r,h=>by
  have h:(ob (fTop (aX g x)) fun v=>ob (fArgs g l) fun l=>some (v::l))=some r:=h
  simp only[aH]at h
  obtain⟨v,h1,q,h2,h3⟩:=h
  cases h3
  rw[yC h2,BT h1,cO];rfl
noncomputable def sB(a b:List Value):List Value:=List.rec (motive:=fun _=>List Value) b (fun x _ ih=>x::ih) a
theorem sM(a b:List Value):sB a b=a++b:=by
 induction a with
 |nil=>rfl
 |cons x a ih=>show x::sB a b=_;rw[ih];rfl
noncomputable def et(a b:List Nat):List Nat:=List.rec (motive:=fun _=>List Nat) b (fun x _ ih=>x::ih) a
noncomputable def pN(n:Nat)(dst:Option Tmp)(ih:Tri Value->Hp->Option Rn3)(E:Tri Value)(k:Kd)(w:Wr)(z:Nat)(v:Value)(h:Hp):Option Rn3:=ob (og n E dst v) fun E=>ob (ih E h) fun r=>Rn3.rec (motive:=fun _=>Option Rn3) (fun tr x E h=>some ⟨⟨k,w,z⟩::tr,x,E,h⟩) r
noncomputable def runG(P:Program)(n:Nat)(o:Oper)(ih:Tri Value->Hp->Option Rn3)(E:Tri Value)(h:Hp):Option Rn3:=Hp.rec (motive:=fun _=>Option Rn3) (fun T sz low ws=>ob (kOp o.op P (rdT T sz) sz (gE E)) fun r=>Prod.rec (motive:=fun _=>Option Rn3) (fun v fx=>ob (doFx fx ⟨T,sz,low,ws⟩) fun h=>
 pN n o.dst ih E (kdD (gE E) o.op fx) (wrOf fx) sz v h) r) h
noncomputable def runK(call:dZ)(yl:gB)(n:Nat)(o:Oper)(c:Call)(f:Operand)(ih:Tri Value->Hp->Option Rn3)(E:Tri Value)(h:Hp):Option Rn3:=ob (fArgs (gE E) c.args.toList) fun args=>oe (vFun (aX (gE E) f))
 (fun gfc=>Prod.rec (motive:=fun _=>Option Rn3) (fun g fc=>Hp.rec (motive:=fun _=>Option Rn3) (fun T sz low ws=>
  ob (call g (sB (sB fc.1 args) fc.2) T sz) fun r=>eM.rec (motive:=fun _=>Option Rn3) (fun pn v h'=>Hp.rec (motive:=fun _=>Option Rn3) (fun T' sz' low' ws'=>
   nn (minN low' low) fun l=>bb pn (some ⟨[⟨.eff,.from 0,sz⟩],.panic v,E,⟨T',sz',l,et ws' ws⟩⟩)
    (bb (Nat.ble sz low') (pN n o.dst ih E .loud .no sz v ⟨T',sz',l,et ws' ws⟩) (pN n o.dst ih E .eff (.from low') sz v ⟨T',sz',l,et ws' ws⟩))) h') r) h) gfc)
 (ob (vYield (aX (gE E) f)) fun nl=>ob (yl h nl args) fun r=>Prod.rec (motive:=fun _=>Option Rn3) (fun b h=>pN n o.dst ih E .eff (.from 0) 0 (.bool b) h) r)
noncomputable def runO(P:Program)(call:dZ)(yl:gB)(n:Nat)(ops:Array Oper)(o:Oper)(ih:Tri Value->Hp->Option Rn3)(E:Tri Value)(h:Hp):Option Rn3:=ob (awL ops (gE E) o.guard) fun w=>bb w
 (oe (opC o.op) (fun c=>oe (ceF c.callee) (fun f=>runK call yl n o c f ih E h) (runG P n o ih E h))
  (oe (opP o.op) (fun x=>bb (vIface (aX (gE E) x)) (some ⟨[⟨.eff,.from 0,h.sz⟩],.panic (aX (gE E) x),E,h⟩) none) (runG P n o ih E h)))
 (pN n o.dst ih E .still .no h.sz gone h)
noncomputable def qC(P:Program)(call:dZ)(yl:gB)(n:Nat)(ops:Array Oper)(l:List Oper):Tri Value->Hp->Option Rn3:=List.rec (motive:=fun _=>Tri Value->Hp->Option Rn3) (fun E h=>some ⟨[],.normal,E,h⟩) (fun o _ ih E h=>runO P call yl n ops o ih E h) l
noncomputable def fKds(l:List Tre):Option (List Kd):=List.rec (motive:=fun _=>Option (List Kd)) (some []) (fun t _ ih=>ob ih fun l=>Kd.rec (motive:=fun _=>Option (List Kd)) (some (.still::l)) (some (.loud::l)) (fun _=>some (.one 0::l)) (some (.eff::l)) t.k) l
structure CR where
 a:Nat
 r:Nat
 d:Option Nat
def dK(l:List Nat):Nat:=l.foldl (fun s t=>s ||| 2^t) 0
def crs(ops:List Oper):List CR:=List.zipWith (fun a o=>⟨a,dK (kW ops o),o.dst⟩) (om ops []) ops
noncomputable def fCR(l:List CR):Option (List CR):=List.rec (motive:=fun _=>Option (List CR)) (some []) (fun c _ ih=>ob ih fun l=>nn c.a fun a=>nn c.r fun r=>oe c.d (fun d=>nn d fun d=>some (⟨a,r,some d⟩::l)) (some (⟨a,r,none⟩::l))) l
noncomputable def rS(ops:List Oper):Option (List CR):=fCR (crs ops)
noncomputable def mr(m t:Nat):Bool:=Nat.beq (Nat.mod (Nat.shiftRight m t) 2) 1
noncomputable def orO(o:Option Nat)(f:Nat->Bool):Bool:=Option.rec (motive:=fun _=>Bool) true f o
noncomputable def lAll{α:Type}(f:α->Bool)(l:List α):Bool:=List.rec (motive:=fun _=>Bool) true (fun x _ ih=>bb (f x) ih false) l
noncomputable def zC(ci cj:CR):Bool:=bb (orO cj.d fun t=>bb (mr ci.r t) false (orO ci.d fun u=>bb (Nat.beq u t) false true)) (orO ci.d fun t=>bb (mr cj.r t) false true) false
noncomputable def goA(l:List CR)(acc:List (Nat×CR))(i:Nat):Bool:=List.rec (motive:=fun _=>List (Nat×CR)->Nat->Bool) (fun _ _=>true) (fun c _ ih acc i=>bb (lAll (fun p=>bb (mr c.a p.1) true (zC c p.2)) acc) (ih ((i,c)::acc) (Nat.succ i)) false) l acc i
noncomputable def isE(k:Kd):Bool:=Kd.rec (motive:=fun _=>Bool) false false (fun _=>false) true k
noncomputable def isL(k:Kd):Bool:=Kd.rec (motive:=fun _=>Bool) false true (fun _=>false) true k
noncomputable def goB(l:List (CR×Kd))(acc:List (Nat×Kd))(i:Nat):Bool:=List.rec (motive:=fun _=>List (Nat×Kd)->Nat->Bool) (fun _ _=>true) (fun c _ ih acc i=>bb (bb (isL c.2) (lAll (fun p=>bb (bb (isE c.2) (isL p.2) (isE p.2)) (mr c.1.a p.1) true) acc) true) (ih ((i,c.2)::acc) (Nat.succ i)) false) l acc i
def xR:List Oper->Nat->Bool
 | [],_=>true
 |o::r,i=>(deps o).all (· <i)&&xR r (i+1)
noncomputable def chkA(ops:List Oper):Bool:=bb (xR ops 0) (Option.rec (motive:=fun _=>Bool) false (fun rows=>goA rows [] 0) (rS ops)) false
noncomputable def chkB(ops:List Oper)(ks:List Kd):Bool:=Option.rec (motive:=fun _=>Bool) false (fun rows=>bb (Nat.beq (fQ ks) (fQ rows)) (goB (rows.zip ks) [] 0) false) (rS ops)
noncomputable def befN(rows:List CR)(i j:Nat):Bool:=Option.rec (motive:=fun _=>Bool) false (fun c=>mr c.a j) (jP rows i)
noncomputable def exI(ops:List Oper)(ks:List Kd)(e:Nat):List Nat:=Option.rec (motive:=fun _=>List Nat) (List.range ops.length) (fun rows=>(List.range ops.length).filter fun i=>match cg ks i with| .one _=> !(decide (i=e)||(if e<i then befN rows i e else befN rows e i))|_=>false) (rS ops)
noncomputable def exK(ops:List Oper)(ks:List Kd)(e:Nat):List Nat:=Option.rec (motive:=fun _=>List Nat) (List.range e) (fun rows=>(List.range e).filter fun j=>(match ops[j]? with|some o=>lL (cg ks j) o.op|none=>false)&& !befN rows e j) (rS ops)
noncomputable def nmOf(k:Kd):Option Nat:=Kd.rec (motive:=fun _=>Option Nat) none none (fun n=>some n) none k
noncomputable def zAt(tr:List Tre)(j:Nat):Option Nat:=ob (jP tr j) fun t=>some t.z
noncomputable def effOk(ops:List Oper)(ks:List Kd)(tr:List Tre)(e:Nat)(t:Tre):Bool:=bb (lAll (fun i=>Option.rec (motive:=fun _=>Bool) false (fun n=>bb (Nat.blt n t.z) (t.w.leaves n) false) (ob (jP tr i) fun u=>nmOf u.k)) (exI ops ks e))
 (lAll (fun j=>Option.rec (motive:=fun _=>Bool) false (fun z=>Option.rec (motive:=fun _=>Bool) false (fun z'=>t.w.leavesR z z') (zAt tr (Nat.succ j))) (zAt tr j)) (exK ops ks e)) false
noncomputable def qJ(ops:List Oper)(ks:List Kd)(tr:List Tre)(l:List Tre)(e:Nat):Bool:=List.rec (motive:=fun _=>Nat->Bool) (fun _=>true) (fun t _ ih e=>bb (isE t.k) (bb (effOk ops ks tr e t) (ih (Nat.succ e)) false) (ih (Nat.succ e))) l e
def noDef(ops:List Oper):Bool:=ops.all fun o=>match o.op with| .defer _=>false|_=>true
noncomputable def chkTr(ops:List Oper)(tr:List Tre):Bool:=bb (Nat.beq (fQ tr) (fQ ops)) (Option.rec (motive:=fun _=>Bool) false (fun ks=>bb (bb (chkA ops) (chkB ops ks) false) (bb (noDef ops) (qJ ops ks tr tr 0) false) false) (fKds tr)) false
noncomputable def rQ(l:List Oper)(E:Tri Value):Option (Tri Value):=List.rec (motive:=fun _=>Tri Value->Option (Tri Value)) (fun E=>some E) (fun o _ ih E=>oe o.dst (fun d=>ob (E.tput 40 d undef) fun E=>ih E) (ih E)) l E
noncomputable def listE(E:Tri Value)(n:Nat):Option (List (Nat×Value)):=Nat.rec (motive:=fun _=>Option (List (Nat×Value))) (some []) (fun n ih=>ob (fTop (gE E n)) fun v=>ob ih fun l=>some ((n,v)::l)) n
noncomputable def qj(l:List (Nat×Value)):Option (Tri Value):=List.rec (motive:=fun _=>Option (Tri Value)) (some .nil) (fun p _ ih=>ob ih fun E=>E.tput 40 p.1 p.2) l
noncomputable def Aw(n:Nat)(l:List (Tmp×Value))(E:Tri Value):Option (Tri Value):=List.rec (motive:=fun _=>Tri Value->Option (Tri Value)) (fun E=>some E) (fun p _ ih E=>ob (og n E (some p.1) p.2) fun E=>ih E) l E
def leq{α:Type}(f:α->α->Bool):List α->List α->Bool
 | [],[]=>true
 |x::l,y::m=>match f x y with|true=>leq f l m|false=>false
 |_,_=>false
def veq:Nat->Value->Value->Bool
 | 0,_,_=>false
 |d+1,u,v=>match u,v with
  | .bool a,.bool b=>a==b
  | .int k a,.int l b=>decide (k=l)&&decide (a=b)
  | .pointer a,.pointer b=>decide (a=b)
  | .slice a l c,.slice b m e=>decide (a=b)&&decide (l=m)&&decide (c=e)
  | .map a,.map b=>decide (a=b)
  | .string ⟨⟨a⟩⟩,.string ⟨⟨b⟩⟩=>decide (a=b)
  | .func fn ⟨f⟩ ⟨c⟩,.func gn ⟨g⟩ ⟨e⟩=>decide (fn=gn)&&leq (veq d) f g&&leq (veq d) c e
  | .iface t u,.iface s v=>decide (t=s)&&veq d u v
  | .agg ⟨a⟩,.agg ⟨b⟩=>leq (veq d) a b
  | .tuple ⟨a⟩,.tuple ⟨b⟩=>leq (veq d) a b
  | .nilFunc,.nilFunc=>true
  | .nilIface,.nilIface=>true
  | .chan a,.chan b=>decide (a=b)
  |_,_=>false
def aoeq(a b:AO):Bool:=match a,b with
 | .cells c e,.cells d f=>leq (veq 8) c d&&decide (e=f)
 | .ro c,.ro d=>leq (veq 8) c d
 | .map es,.map fs=>leq (fun p q=>veq 8 p.1 q.1&&veq 8 p.2 q.2) es fs
 | .dead,.dead=>true
 |_,_=>false
structure St where
 E:Tri Value
 h:Hp
abbrev EvF:=Nat->Nat->Code->Tri Value->Hp->Option (AX×St)
abbrev rJ:=Program->dZ->EvF->Nat->Nat->Tri Value->Hp->Option (AX×St)
noncomputable def aoL(o:AO):Option (LoopState×Option Code×Array Tmp×Code×Code×Nat×List (Nat×Value)):=AO.rec (motive:=fun _=>Option (LoopState×Option Code×Array Tmp×Code×Code×Nat×List (Nat×Value))) (fun _ _=>none) (fun st pd ps a b m e=>some (st,pd,ps,a,b,m,e)) (fun _=>none) (fun _=>none) none o
theorem aoL_eq{o:AO}{st:LoopState}{pd:Option Code}{ps:Array Tmp}{a b:Code}{m:Nat}{e:List (Nat×Value)}(h:aoL o=some (st,pd,ps,a,b,m,e)):o= .loop st pd ps a b m e:=by
 cases o<;>first| (cases h;rfl)|cases h
noncomputable def tQ(s:LoopState):Bool:=LoopState.rec (motive:=fun _=>Bool) false true false false s
noncomputable def BB(x:AX):Option (Bool×Option Code×LoopState):=AX.rec (motive:=fun _=>Option (Bool×Option Code×LoopState)) (some (true,none,.ready)) (fun i=>some (false,some (.exit i),.done)) (some (false,some .ret,.done)) (fun _=>none) x
noncomputable def hRd(h:Hp)(n:Nat):AO:=Hp.rec (motive:=fun _=>AO) (fun T sz _ _=>rdT T sz n) h
noncomputable def dY(x:AX):Bool:=AX.rec (motive:=fun _=>Bool) true (fun _=>false) false (fun _=>false) x
noncomputable def lHas(n:Nat)(l:List Nat):Bool:=List.rec (motive:=fun _=>Bool) false (fun x _ ih=>bb (Nat.beq x n) true ih) l
noncomputable def w8(ev:EvF):gB:=fun h nl args=>
 match h with
 |⟨T,sz,low,ws⟩=>match aoL (rdT T sz nl)with
  |some (.ready,pd,ps,assign,body,m,env)=>match Nat.beq (fQ args) ps.size,qj env with
   |true,some E=>match Aw m (ps.toList.zip args) E with
    |some E=>match ev 2 m assign E ⟨T,sz,low,[]⟩with
     |some (.normal,⟨E1,⟨T1,sz1,low1,ws1⟩⟩)=>match lHas nl ws1,setT T1 sz1 low1 [] nl (.loop .busy pd ps assign body m env)with
      |false,some ⟨T2,sz2,low2,_⟩=>match ev 2 m body E1 ⟨T2,sz2,low2,[]⟩with
       |some (x,⟨_,⟨T3,sz3,low3,ws3⟩⟩)=>match lHas nl ws3,BB x with
        |false,some (go,jump,st)=>match setT T3 sz3 low3 [] nl (.loop st jump ps assign body m env)with
         |some ⟨T4,sz4,low4,_⟩=>some (go,⟨T4,sz4,low4,nl::et ws3 (et ws1 ws)⟩)
         |none=>none
        |_,_=>none
       |none=>none
      |_,_=>none
     |_=>none
    |none=>none
   |_,_=>none
  |_=>none
noncomputable def xL(ops:Array Oper)(dr:Bool):rJ:=fun P call ev md n E h=>
 bb dr
  (ob (qC P call (fun _ _ _=>none) n ops ops.toList E h) fun r=>Rn3.rec (motive:=fun _=>Option (AX×St)) (fun tr x E h=>bb (chkTr ops.toList tr)
   (bb (dY x) (some (x,⟨E,h⟩)) (ob (rQ ops.toList E) fun E=>some (x,⟨E,h⟩))) none) r)
  (ob (qC P call (bb (Nat.beq md 0) (w8 ev) (fun _ _ _=>none)) n ops ops.toList E h) fun r=>Rn3.rec (motive:=fun _=>Option (AX×St)) (fun _ x E h=>some (x,⟨E,h⟩)) r)
structure jL where
 pre:List Oper
 o2:Oper
 o3:Oper
 o4:Oper
 o5:Oper
 ops3:List Oper
 rest:Code
 i1:Nat
 i2:Nat
 q:Tmp
 rops:Array Oper
def ri:Code->Code->Option jL
 | .region _ ops false,.block i1 (.loop (.seq (.region _ ⟨[o3,o4]⟩ false) (.seq (.cond (.tmp q) .skip (.exit j)) (.block i2 (.seq (.region _ ⟨o5::ops3⟩ false) rest)))))=>
   match ops.toList.getLast? with
   |some o2=>match o2.op with
    | .range .. =>match Nat.beq i1 j with|true=>some ⟨ops.toList.dropLast,o2,o3,o4,o5,ops3,rest,i1,i2,q,ops⟩|false=>none
    |_=>none
   |none=>none
 |_,_=>none
structure zy where
 mt:TypeId
 it:Tmp
 p:Tmp
 q:Tmp
 d:Tmp
 X:Operand
def mpars(sh:jL):Option zy:=match sh.o2,sh.o3,sh.o4,sh.o5 with
 |{op:= .range mt X,dst:=some it,guard:=none,..},{op:= .next (.tmp it2) false,dst:=some p,guard:=none,..},{op:= .extract (.tmp p2) 0,dst:=some q,guard:=none,..},{op:= .entry (.tmp it3),dst:=some d,guard:=none,..}=>
  if it2=it/\p2=p/\q=sh.q/\it3=it/\it≠p/\it≠q/\p≠q then some ⟨mt,it,p,q,d,X⟩else none
 |_,_,_,_=>none
def fU(l:List Oper):List Tmp:=l.filterMap (·.dst)
def jx:Code->List Tmp
 | .region _ ops _=>fU ops.toList
 | .seq x y=>jx x++jx y
 | .cond _ x y=>jx x++jx y
 | .block _ c=>jx c
 | .loop c=>jx c
 |_=>[]
noncomputable def sJ(l:List Nat):Option (List Nat):=List.rec (motive:=fun _=>Option (List Nat)) (some []) (fun x _ ih=>ob ih fun l=>nn x fun x=>some (x::l)) l
noncomputable def yN(l:List Tmp)(E:Tri Value):Option (Tri Value):=List.rec (motive:=fun _=>Tri Value->Option (Tri Value)) (fun E=>some E) (fun t _ ih E=>ob (E.tput 40 t undef) fun E=>ih E) l E
noncomputable def Ar(run:List Oper->Tri Value->Hp->Option Rn3)(ev:Code->Tri Value->Hp->Option (AX×St))(n:Nat)(sh:jL)(junk:List Tmp)(d:Tmp)(es:List (Value×Value))(i:Nat)(s:St):Option St:=match es[i]? with
 |some (k,v)=>match og n s.E (some d) (.tuple ⟨[k,v]⟩)with
  |some E1=>match run sh.ops3 E1 s.h with
   |some ⟨_,.normal,E2,h2⟩=>match ev sh.rest E2 h2 with
    |some (x,s3)=>match (match x with| .normal=>true| .exit j=>Nat.beq j sh.i2|_=>false),yN junk s3.E with
     |true,some E=>some ⟨E,s3.h⟩
     |_,_=>none
    |none=>none
   |_=>none
  |none=>none
 |none=>none
noncomputable def steq(z:Nat)(live:List Tmp)(s t:St):Bool:=(live.all fun x=>veq 8 (gE s.E x) (gE t.E x))&&(decide (s.h.sz=z)&&decide (t.h.sz=z))&&(s.h.ws.all fun n=>aoeq (rdT s.h.T s.h.sz n) (rdT t.h.T t.h.sz n))&&(t.h.ws.all fun n=>aoeq (rdT s.h.T s.h.sz n) (rdT t.h.T t.h.sz n))
def lMap{α:Type}(f:α->Option α):List α->Option (List α)
 | []=>some []
 |x::l=>match f x with
  |some x=>match lMap f l with|some l=>some (x::l)|none=>none
  |none=>none
def msts(rnd:Nat->St->Option St):Nat->List St->Option (List St)
 | 0,l=>some l
 |i+1,l=>match msts rnd i l with
  |some l=>match lMap (rnd i) l with
   |some m=>some (l++m)
   |none=>none
  |none=>none
noncomputable def Ak(z:Nat)(live:List Tmp)(rnd:Nat->St->Option St)(n:Nat)(l:List St)(mp:Nat)(es:List (Value×Value))(it:Tmp)(nm:Nat):Bool:=(l.all fun s=>aoeq (hRd s.h mp) (.map es)&&veq 8 (gE s.E it) (.pointer (some ⟨nm,0,none⟩)))&&
 (List.range l.length).all fun m=>(List.range n).all fun i=>match Nat.testBit m i with
  |true=>true
  |false=>match l[m]?,l[m ||| 2^i]? with
   |some s,some t=>match rnd i s with|some s'=>steq z live s' t|none=>false
   |_,_=>false
noncomputable def kH(sh:jL)(pa:zy):List Tmp:=pa.d::(fU sh.ops3++jx sh.rest)
noncomputable def mrnd(P:Program)(call:dZ)(ev:EvF)(n:Nat)(sh:jL)(pa:zy)(junk:List Tmp)(es:List (Value×Value)):Nat->St->Option St:=Ar (qC P call (fun _ _ _=>none) n ⟨sh.o5::sh.ops3⟩) (ev 3 n) n sh junk pa.d es
noncomputable def mapK(P:Program)(call:dZ)(ev:EvF)(n:Nat)(sh:jL)(E:Tri Value)(h:Hp):Option (AX×St):=match mpars sh with
 |some pa=>match qC P call (fun _ _ _=>none) n sh.rops sh.pre E h with
  |some ⟨_,.normal,E1,⟨T,sz,low,ws⟩⟩=>match vMap (aX (gE E1) pa.X),undM P pa.mt with
   |some (some m),some _=>match aoM (rdT T sz m),mq sz,(decide (pa.it<n)&&decide (pa.p<n)&&decide (pa.q<n))with
    |some es,some nm,true=>match (es.all fun kv=>plain kv.1),og n E1 (some pa.it) (.pointer (some ⟨nm,0,none⟩)),mG T sz low [] .dead with
     |true,some E1',some h2=>match yN [pa.p,pa.q] E1' with
      |some E2=>match sJ ((kH sh pa).filter fun t=>(E2.tget t).isNone),sJ ((kH sh pa).filter fun t=>(E2.tget t).isSome)with
       |some junk,some live=>match msts (mrnd P call ev n sh pa (pa.p::pa.q::junk) es) es.length [⟨E2,h2⟩]with
        |some l=>match Ak h2.sz live (mrnd P call ev n sh pa (pa.p::pa.q::junk) es) es.length l m es pa.it nm with
         |true=>match l.getLast? with
          |some s2=>match og n s2.E (some pa.p) (.tuple #[.bool false])with
           |some E3=>match og n E3 (some pa.q) (.bool false)with
            |some E4=>some (.normal,⟨E4,⟨s2.h.T,s2.h.sz,s2.h.low,et s2.h.ws ws⟩⟩)
            |none=>none
           |none=>none
          |none=>none
         |false=>none
        |none=>none
       |_,_=>none
      |none=>none
     |_,_,_=>none
    |_,_,_=>none
   |_,_=>none
  |_=>none
 |none=>none
noncomputable def seqK(x y:Code):rJ:=fun P call ev md n E h=>
 oe (bb (Nat.beq md 2) none (ri x y)) (fun sh=>mapK P call ev n sh E h)
  (ob (ev md n x E h) fun xs=>Prod.rec (motive:=fun _=>Option (AX×St)) (fun x s=>bb (dY x) (St.rec (motive:=fun _=>Option (AX×St)) (fun E h=>ev md n y E h) s) (some (x,s))) xs)
noncomputable def condK(c:Operand)(x y:Code):rJ:=fun _ _ ev md n E h=>ob (mf (aX (gE E) c)) fun b=>bb b (ev md n x E h) (ev md n y E h)
noncomputable def zW(x:AX):Option Nat:=AX.rec (motive:=fun _=>Option Nat) none (fun i=>some i) none (fun _=>none) x
noncomputable def blockK(id:Nat)(c:Code):rJ:=fun _ _ ev md n E h=>
 ob (ev md n c E h) fun xs=>Prod.rec (motive:=fun _=>Option (AX×St)) (fun x s=>oe (zW x) (fun i=>bb (Nat.beq i id) (some (.normal,s)) (some (x,s))) (some (x,s))) xs
noncomputable def loopK(c:Code):rJ:=fun _ _ ev md n E h=>
 ob (ev md n c E h) fun xs=>Prod.rec (motive:=fun _=>Option (AX×St)) (fun x s=>bb (dY x) (St.rec (motive:=fun _=>Option (AX×St)) (fun E h=>ev md n (.loop c) E h) s) (some (x,s))) xs
def qK:Option Code->Option AX
 |none=>some .normal
 |some .ret=>some .ret
 |some (.exit i)=>some (.exit i)
 |_=>none
noncomputable def z9(g:Operand)(ps:Array Tmp)(assign body:Code):rJ:=fun _ call _ md n E h=>
 bb (Nat.beq md 1) (ob (vFun (aX (gE E) g)) fun gf=>ob (listE E n) fun env=>Hp.rec (motive:=fun _=>Option (AX×St)) (fun T sz low ws=>ob (mq sz) fun nl=>ob (mG T sz low ws (.loop .ready none ps assign body n env)) fun h1=>
  Hp.rec (motive:=fun _=>Option (AX×St)) (fun T sz low ws=>ob (call gf.1 (sB (sB gf.2.1 [.chan (some nl)]) gf.2.2) T sz) fun r=>bb r.pan none
   (ob (aoL (hRd r.h nl)) fun lp=>bb (tQ lp.1) none (Hp.rec (motive:=fun _=>Option (AX×St)) (fun T sz low' ws'=>nn (minN low' low) fun l=>ob (setT T sz l (et ws' ws) nl .dead) fun h2=>ob (qK lp.2.1) fun x=>some (x,⟨E,h2⟩)) r.h))) h1) h) none
noncomputable def codeK(c:Code):rJ:=Code.rec (motive:=fun _=>rJ) (fun _ _ _ _ _ E h=>some (.normal,⟨E,h⟩)) (fun _ ops dr=>xL ops dr) (fun x y _ _=>seqK x y) (fun c x y _ _=>condK c x y) (fun id c _=>blockK id c) (fun c _=>loopK c)
 (fun g ps a b _ _=>z9 g ps a b) (fun i _ _ _ _ _ E h=>some (.exit i,⟨E,h⟩)) (fun _ _ _ _ _ _ _ _ _=>none) (fun _ _ _ _ _ _ _ _=>none) (fun _ _ _ _ _ _ _ _=>none) (fun _ _ _ _ _ E h=>some (.ret,⟨E,h⟩)) (fun _ _ _ _ _ _ _ _=>none) c
noncomputable def evC(P:Program)(call:dZ)(k:Nat):EvF:=Nat.rec (motive:=fun _=>EvF) (fun _ _ _ _ _=>none) (fun _ ih md n c E h=>codeK c P call ih md n E h) k
noncomputable def yw(i:Nat)(l:List Value)(E:Tri Value):Option (Tri Value):=List.rec (motive:=fun _=>Nat->Tri Value->Option (Tri Value)) (fun _ E=>some E) (fun v _ ih i E=>ob (E.tput 40 i v) fun E=>ih (Nat.succ i) E) l i E
noncomputable def xY(P:Program)(E:Tri Value)(h:Hp)(r:ResultVar):Option Value:=ResultVar.rec (motive:=fun _=>Option Value) (fun t=>some (gE E t)) (fun c t=>Hp.rec (motive:=fun _=>Option Value) (fun T sz _ _=>ob (vW P (rdT T sz) t (gE E c)) fun r=>some r.1) h) r
def resR(P:Program)(fn:Func)(E:Tri Value)(h:Hp)(one:Program->Tri Value->Hp->ResultVar->Option Value):Option Value:=match fn.results.toList with
 | [r]=>one P E h r
 | [r,t]=>match one P E h r,one P E h t with|some v,some u=>some (.tuple ⟨[v,u]⟩)|_,_=>none
 | [r,t,q]=>match one P E h r,one P E h t,one P E h q with|some v,some u,some w=>some (.tuple ⟨[v,u,w]⟩)|_,_,_=>none
 | []=>some (.tuple #[])
 |_=>none
structure w7 where
 c0:Code
 g:FuncId
 t:Tmp
 rest:Code
def qE:Code->Option w7
 | .seq c0 (.seq (.region _ ⟨[o]⟩ false) rest)=>match o with
   |{op:= .defer ⟨.value (.func g),⟨[.tmp t]⟩,_⟩,dst:=none,guard:=none,..}=>some ⟨c0,g,t,rest⟩
   |_=>none
 |_=>none
abbrev Hook:=FuncId->Nat->Option Value->Rd->Option Fx
noncomputable def oW(P:Program)(fn:Func)(E:Tri Value)(h:Hp):Option eM:=ob (resR P fn E h xY) fun v=>ob (eR 8 v) fun v=>some ⟨false,v,h⟩
noncomputable def wm(x:AX):Option (Option Value):=AX.rec (motive:=fun _=>Option (Option Value)) (some none) (fun _=>none) (some none) (fun v=>some (some v)) x
noncomputable def xV(P:Program)(ev:EvF)(md:Nat)(fn:Func)(c:Code)(E:Tri Value)(h:Hp):Option eM:=ob (ev md fn.ntmps c E h) fun xs=>Prod.rec (motive:=fun _=>Option eM) (fun x s=>St.rec (motive:=fun _=>Option eM) (fun E h=>ob (wm x) fun pv=>oe pv (fun v=>some ⟨true,v,h⟩) (oW P fn E h)) s) xs
noncomputable def xi(P:Program)(hook:Hook)(ev:EvF)(fn:Func)(ds:w7)(E:Tri Value)(h:Hp):Option eM:=ob (ev 0 fn.ntmps ds.c0 E h) fun xs=>Prod.rec (motive:=fun _=>Option eM) (fun x s=>bb (dY x) (St.rec (motive:=fun _=>Option eM) (fun E h=>ob (qD (gE E ds.t)) fun a=>bb (gy a) (bb (Nat.beq a.off 0)
 (ob (ev 0 fn.ntmps ds.rest E h) fun ys=>Prod.rec (motive:=fun _=>Option eM) (fun y s=>ob (wm y) fun pv=>St.rec (motive:=fun _=>Option eM) (fun E h=>Hp.rec (motive:=fun _=>Option eM) (fun T sz low ws=>
  ob (hook ds.g a.block pv (rdT T sz)) fun fx=>ob (doFx fx ⟨T,sz,low,ws⟩) fun h=>oW P fn E h) h) s) ys) none) none) s) none) xs
noncomputable def callK(P:Program)(hook:Hook)(ext:dZ)(md:FuncId->Nat)(fuel:Nat)(ih:dZ):dZ:=fun f args T sz=>
 oe (ext f args T sz) (fun r=>some r) (ob (jP P.funcs.toList f) fun fn=>ob fn.body fun c=>bb (Nat.ble (fQ args) fn.ntmps) (ob (yw 0 args .nil) fun E=>oe (qE c)
  (fun ds=>xi P hook (evC P ih fuel) fn ds E ⟨T,sz,sz,[]⟩) (xV P (evC P ih fuel) (md f) fn c E ⟨T,sz,sz,[]⟩)) none)
noncomputable def oI(P:Program)(hook:Hook)(ext:dZ)(md:FuncId->Nat)(fuel:Nat)(d:Nat):dZ:=Nat.rec (motive:=fun _=>dZ) (fun _ _ _ _=>none) (fun _ ih=>callK P hook ext md fuel ih) d
end Go.Ev
