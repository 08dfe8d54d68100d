import Derived.Test.YtjcomcgpjjianaaA0
set_option linter.all false
set_option maxHeartbeats 16000000
set_option maxRecDepth 8000
open Go.Value renaming int→O
open Go.IntKind renaming i64→U
namespace Go.Ev
abbrev Loc:=Nat×Nat×Nat
abbrev Ren:=Nat->Option Loc
def unk:Nat:=18446744073709551616
theorem mK:unk=18446744073709551616:=rfl
def capRel(len c c' i s:Nat):Prop:=len<=c'/\((c<unk/\c'=c)\/(unk<=c/\i+c'*(c-unk)<=s))
def gone:Value:= .chan none
inductive VR(σ:Ren):Value->Value->Prop
 |gone:VR σ (.chan none) (.tuple #[])
 |junk (v:Value):VR σ (.tuple #[]) v
 |bool (b:Bool):VR σ (.bool b) (.bool b)
 |int (k:IntKind) (n:Int):VR σ (.int k n) (.int k n)
 |string (s:ByteArray):VR σ (.string s) (.string s)
 |ptrNil:VR σ (.pointer none) (.pointer none)
 |ptr {n i b o s:Nat} (h:σ n=some (b,o,s)):VR σ (.pointer (some ⟨n,i,none⟩)) (.pointer (some ⟨b,o+i,none⟩))
 |slNil:VR σ (.slice none 0 0) (.slice none 0 0)
 |yield {n b s:Nat} (h:σ n=some (b,0,s)):VR σ (.chan (some n)) (.func (.yield b) #[] #[])
 |sl {n i len c c' b o s:Nat} (h:σ n=some (b,o,s)) (hc:capRel len c c' (o+i) s):VR σ (.slice (some ⟨n,i,none⟩) len c) (.slice (some ⟨b,o+i,none⟩) len c')
 |slE {i c c':Nat} {a':Addr}:VR σ (.slice (some ⟨0,i,some 0⟩) 0 c) (.slice (some a') 0 c')
 |mapNil:VR σ (.map none) (.map none)
 |map {n b s:Nat} (h:σ n=some (b,0,s)):VR σ (.map (some n)) (.map (some b))
 |nilFunc:VR σ .nilFunc .nilFunc
 |nilIface:VR σ .nilIface .nilIface
 |iface (t:TypeId) {v v':Value} (h:VR σ v v'):VR σ (.iface t v) (.iface t v')
 |func (fn:Fn) {f f' c c':Array Value} (hf:f.size=f'.size) (hf': ∀(i:Nat) (v v':Value),f[i]? =some v->f'[i]? =some v'->VR σ v v')
  (hc:c.size=c'.size) (hc': ∀(i:Nat) (v v':Value),c[i]? =some v->c'[i]? =some v'->VR σ v v'):VR σ (.func fn f c) (.func fn f' c')
 |agg {c c':Array Value} (hc:c.size=c'.size) (hc': ∀(i:Nat) (v v':Value),c[i]? =some v->c'[i]? =some v'->VR σ v v'):VR σ (.agg c) (.agg c')
 |tuple {c c':Array Value} (hc:c.size=c'.size) (hc': ∀(i:Nat) (v v':Value),c[i]? =some v->c'[i]? =some v'->VR σ v v'):VR σ (.tuple c) (.tuple c')
theorem VR.mono{σ σ':Ren}(hs: ∀n x,σ n=some x->σ' n=some x){v v':Value}(h:VR σ v v'):VR σ' v v':=by
 induction h with
 |gone=>exact .gone
 |junk v=>exact .junk v
 |bool b=>exact .bool b
 |int k n=>exact .int k n
 |string s=>exact .string s
 |ptrNil=>exact .ptrNil
 |ptr h=>exact .ptr (hs _ _ h)
 |slNil=>exact .slNil
 |sl h hc=>exact .sl (hs _ _ h) hc
 |yield h=>exact .yield (hs _ _ h)
 |slE=>exact .slE
 |mapNil=>exact .mapNil
 |map h=>exact .map (hs _ _ h)
 |nilFunc=>exact .nilFunc
 |nilIface=>exact .nilIface
 |iface t _ ih=>exact .iface t ih
 |func fn hf _ hc _ ih1 ih2=>exact .func fn hf ih1 hc ih2
 |agg hc _ ih=>exact .agg hc ih
 |tuple hc _ ih=>exact .tuple hc ih
def Rs(σ:Ren)(l l':List Value):Prop:=l.length=l'.length/\ ∀(i:Nat) (v v':Value),l[i]? =some v->l'[i]? =some v'->VR σ v v'
theorem Rs.nil(σ:Ren):Rs σ [] []:=⟨rfl,by simp⟩
theorem Rs.cons{σ:Ren}{v v':Value}{l l':List Value}(h:VR σ v v')(hl:Rs σ l l'):Rs σ (v::l) (v'::l'):=by
 refine⟨by simp[hl.1],fun i u u' hu hu'=> ?_⟩
 cases i with
 |zero=>simp at hu hu';subst hu;subst hu';exact h
 |succ i=>simp at hu hu';exact hl.2 i u u' hu hu'
theorem Rs.mono{σ σ':Ren}(hs: ∀n x,σ n=some x->σ' n=some x){l l':List Value}(h:Rs σ l l'):Rs σ' l l':=⟨h.1,fun i v v' a b=>(h.2 i v v' a b).mono hs⟩
theorem Rs.get{σ:Ren}{l l':List Value}(h:Rs σ l l'){i:Nat}{v:Value}(hv:l[i]? =some v): ∃v',l'[i]? =some v'/\VR σ v v':=by
 obtain⟨hi,_⟩:=Ey.1 hv
 have hi':i<l'.length:=by have:=h.1;omega
 exact⟨l'[i],Ex hi',h.2 i _ _ hv (Ex hi')⟩
theorem Rs.append{σ:Ren}{l l' m m':List Value}(h:Rs σ l l')(k:Rs σ m m'):Rs σ (l++m) (l'++m'):=by
 refine⟨by simp[h.1,k.1],fun i v v' a b=> ?_⟩
 rw[FI]at a b
 have:=h.1
 split at a<;>split at b<;>first|omega|skip
 ·exact h.2 i v v' a b
 ·rw[h.1]at a;exact k.2 _ v v' a b
theorem Rs.take{σ:Ren}{l l':List Value}(h:Rs σ l l')(n:Nat):Rs σ (l.take n) (l'.take n):=by
 refine⟨by simp[h.1],fun i v v' a b=> ?_⟩
 rw[GC]at a b
 split at a<;>split at b<;>simp_all
 exact h.2 i v v' a b
theorem Rs.drop{σ:Ren}{l l':List Value}(h:Rs σ l l')(n:Nat):Rs σ (l.drop n) (l'.drop n):=by
 refine⟨by simp[h.1],fun i v v' a b=> ?_⟩
 rw[GD]at a b
 exact h.2 _ v v' a b
theorem Rs.set{σ:Ren}{l l':List Value}(h:Rs σ l l')(n:Nat){v v':Value}(hv:VR σ v v'):Rs σ (l.set n v) (l'.set n v'):=by
 refine⟨by simp[h.1],fun i u u' a b=> ?_⟩
 rw[Ff]at a b
 have:=h.1
 split at a
 ·rename_i e;subst e
  split at a
  ·rename_i hl;rw[if_pos rfl,if_pos (by omega)]at b
   cases a;cases b;exact hv
  ·cases a
 ·rename_i e
  rw[if_neg e]at b
  exact h.2 i u u' a b
theorem Rs.map{σ:Ren}{α:Type}(l:List α)(f g:α->Value)(h: ∀a∈l,VR σ (f a) (g a)):Rs σ (l.map f) (l.map g):=by
 refine⟨by simp,fun i v v' a b=> ?_⟩
 simp only[EM,EB]at a b
 obtain⟨x,hx,rfl⟩:=a
 obtain⟨y,hy,rfl⟩:=b
 rw[hx]at hy;cases hy
 exact h x (EE hx)
theorem Rs.replicate{σ:Ren}(n:Nat){v v':Value}(h:VR σ v v'):Rs σ (List.replicate n v) (List.replicate n v'):=by
 refine⟨by simp,fun i u u' a b=> ?_⟩
 simp only[FD]at a b
 split at a<;>simp_all
def ae:List (Nat×Value)->Nat->Value
 | [],_=>undef
 | (k,v)::r,t=>if k=t then v else ae r t
inductive AO where
 |cells (c:List Value) (e:TypeId)
 |loop (st:LoopState) (pend:Option Code) (ps:Array Tmp) (assign body:Code) (n:Nat) (env:List (Nat×Value))
 |ro (c:List Value)
 |map (es:List (Value×Value))
 |dead
 deriving Inhabited
abbrev AH:=List AO
def at_(H:AH)(n:Nat):AO:=(H[n]?).getD .dead
def AO.rw:AO->Bool
 | .cells .. | .map .. | .loop .. =>true
 |_=>false
def AO.live:AO->Bool
 | .dead=>false
 |_=>true
def OR(σ:Ren)(w:World)(x:Loc):AO->Prop
 | .cells c e=>x.2.1=0/\ ∃cs:Array Value,w.heap[x.1]? =some (.cells cs e (0,0))/\c.length<=cs.size/\cs.size=x.2.2/\
  ∀(i:Nat) (v v':Value),c[i]? =some v->cs[i]? =some v'->VR σ v v'
 | .ro c=> ∀(i:Nat) (v:Value),c[i]? =some v-> ∃v',w.cell? ⟨x.1,x.2.1+i,none⟩=some v'/\VR σ v v'
 | .map es=>x.2.1=0/\ ∃ents:Array MapEntry,w.heap[x.1]? =some (.map ents ents.size)/\ents.size=es.length/\
  ∀(i:Nat) (k v:Value) (e:MapEntry),es[i]? =some (k,v)->ents[i]? =some e->e.key=k/\VR σ v e.val/\e.born=i
 | .loop st pend ps assign body n env=>x.2.1=0/\ ∃L:Loop,w.heap[x.1]? =some (.loop L)/\L.state=st/\L.pending=pend/\L.params=ps/\L.assign=assign/\L.body=body/\
  L.tmps.size=n/\ ∀t,VR σ (ae env t) (L.tmps.getD t undef)
 | .dead=>True
structure HR(σ:Ren)(H:AH)(w:World):Prop where
 dom: ∀n x,σ n=some x->n<H.length/\x.1<w.heap.size
 obj: ∀n x,σ n=some x->OR σ w x (at_ H n)
 inj: ∀n m x y,σ n=some x->σ m=some y->n≠m->(at_ H n).rw=true->(at_ H m).live=true->x.1≠y.1
structure Ext(σ:Ren)(H:AH)(w:World)(σ':Ren)(H':AH)(w':World):Prop where
 sub: ∀n x,σ n=some x->σ' n=some x
 new: ∀n x,σ' n=some x->σ n=some x\/(σ n=none/\H.length<=n)
 len:H.length<=H'.length
 size:w.heap.size<=w'.heap.size
 os:w'.os=w.os
 tape:w'.tape=w.tape
 output:w'.output=w.output
 frame: ∀b,b<w.heap.size->(∀n x,σ n=some x->(at_ H n).rw=true->x.1≠b)->w'.heap[b]? =w.heap[b]?
 rwm: ∀n x,σ' n=some x->(at_ H' n).rw=true->x.1<w.heap.size-> ∃m y,σ m=some y/\(at_ H m).rw=true/\y.1=x.1
 lvm: ∀n x,σ' n=some x->(at_ H' n).live=true->x.1<w.heap.size-> ∃m y,σ m=some y/\(at_ H m).live=true/\y.1=x.1
theorem Ext.refl(σ:Ren)(H:AH)(w:World):Ext σ H w σ H w:=⟨fun _ _ h=>h,fun _ _ h=> .inl h,EJ _,EJ _,rfl,rfl,rfl,fun _ _ _=>rfl,fun n x h r _=>⟨n,x,h,r,rfl⟩,fun n x h r _=>⟨n,x,h,r,rfl⟩⟩
theorem Ext.trans{σ:Ren}{H:AH}{w:World}{σ1:Ren}{H1:AH}{w1:World}{σ2:Ren}{H2:AH}{w2:World}(a:Ext σ H w σ1 H1 w1)(b:Ext σ1 H1 w1 σ2 H2 w2):Ext σ H w σ2 H2 w2 where
 sub n x h:=b.sub n x (a.sub n x h)
 new n x h:=by
  rcases b.new n x h with h1|⟨h1,hl⟩
  ·exact a.new n x h1
  ·refine .inr ⟨?_,Fz a.len hl⟩
   cases h0:σ n with
   |none=>rfl
   |some y=>rw[a.sub n y h0]at h1;cases h1
 len:=Fz a.len b.len
 size:=Fz a.size b.size
 os:=b.os.trans a.os
 tape:=b.tape.trans a.tape
 output:=b.output.trans a.output
 frame c hc hn:=by
  rw[b.frame c (EV hc a.size) (fun n x h1 h2 e=> ?_),a.frame c hc hn]
  obtain⟨m,y,h3,h4,h5⟩:=a.rwm n x h1 h2 (by omega)
  exact hn m y h3 h4 (by omega)
 rwm n x h1 h2 h3:=by
  obtain⟨m,y,h4,h5,h6⟩:=b.rwm n x h1 h2 (EV h3 a.size)
  obtain⟨k,z,h7,h8,h9⟩:=a.rwm m y h4 h5 (by omega)
  exact⟨k,z,h7,h8,by omega⟩
 lvm n x h1 h2 h3:=by
  obtain⟨m,y,h4,h5,h6⟩:=b.lvm n x h1 h2 (EV h3 a.size)
  obtain⟨k,z,h7,h8,h9⟩:=a.lvm m y h4 h5 (by omega)
  exact⟨k,z,h7,h8,by omega⟩
theorem OR.keep{σ σ':Ren}{w w':World}{x:Loc}{o:AO}(hs: ∀n y,σ n=some y->σ' n=some y)(hb:w'.heap[x.1]? =w.heap[x.1]?)(h:OR σ w x o):OR σ' w' x o:=by
 cases o with
 |cells c e=>
  obtain⟨h0,cs,h1,h2,h2',h3⟩:=h
  exact⟨h0,cs,by rw[hb,h1],h2,h2',fun i v v' a b=>(h3 i v v' a b).mono hs⟩
 |ro c=>
  intro i v hv
  obtain⟨v',h1,h2⟩:=h i v hv
  refine⟨v',?_,h2.mono hs⟩
  rw[<-h1]
  unfold World.cell?
  simp only[hb]
 |map es=>
  obtain⟨h0,ents,h1,h2,h3⟩:=h
  exact⟨h0,ents,by rw[hb,h1],h2,fun i k v e a b=>⟨(h3 i k v e a b).1,(h3 i k v e a b).2.1.mono hs,(h3 i k v e a b).2.2⟩⟩
 |loop st pend ps assign body n env=>
  obtain⟨h0,L,h1,h2,h3,h4,h5,h6,h7,h8⟩:=h
  exact⟨h0,L,by rw[hb,h1],h2,h3,h4,h5,h6,h7,fun t=>(h8 t).mono hs⟩
 |dead=>trivial
def upd(σ:Ren)(n:Nat)(x:Loc):Ren:=fun m=>if m=n then some x else σ m
theorem dI(σ:Ren)(n:Nat)(x:Loc):upd σ n x n=some x:=by simp[upd]
theorem kC{σ:Ren}{n m:Nat}(x:Loc)(h:m≠n):upd σ n x m=σ m:=by simp[upd,h]
theorem HR.fresh{σ:Ren}{H:AH}{w:World}(h:HR σ H w):σ H.length=none:=by
 cases e:σ H.length with
 |none=>rfl
 |some x=>have:=(h.dom _ _ e).1;omega
theorem HR.sub_upd{σ:Ren}{H:AH}{w:World}(h:HR σ H w)(x:Loc): ∀n y,σ n=some y->upd σ H.length x n=some y:=by
 intro n y hn
 have:=(h.dom _ _ hn).1
 rw[kC _ (by omega)];exact hn
theorem ag{H G:AH}{n:Nat}(h:n<H.length):at_ (H++G) n=at_ H n:=by
 unfold at_;rw[Fo h]
theorem aL(H:AH)(o:AO):at_ (H++[o]) H.length=o:=by
 unfold at_;simp
theorem au{H:AH}{n:Nat}(h:n<H.length)(o:AO):at_ (H.set n o) n=o:=by
 unfold at_;simp[h]
theorem af{H:AH}{n m:Nat}(h:n≠m)(o:AO):at_ (H.set n o) m=at_ H m:=by
 unfold at_;rw[List.getElem?_set_ne h]
theorem HR.alloc{σ:Ren}{H:AH}{w:World}(h:HR σ H w)(o:AO)(b:Obj)(s:Nat)(ho:OR (upd σ H.length (w.heap.size,0,s)) (w.alloc b) (w.heap.size,0,s) o):
 HR (upd σ H.length (w.heap.size,0,s)) (H++[o]) (w.alloc b)/\Ext σ H w (upd σ H.length (w.heap.size,0,s)) (H++[o]) (w.alloc b):=by
 have hsz:(w.alloc b).heap.size=w.heap.size+1:=by simp
 have hold: ∀k,k<w.heap.size->(w.alloc b).heap[k]? =w.heap[k]? :=fun k hk=>GA w b k hk
 have hcase: ∀n x,upd σ H.length (w.heap.size,0,s) n=some x->(n=H.length/\x=(w.heap.size,0,s))\/(σ n=some x/\n<H.length/\x.1<w.heap.size):=by
  intro n x hx
  by_cases e:n=H.length
  ·subst e;rw[dI]at hx;cases hx;exact .inl ⟨rfl,rfl⟩
  ·rw[kC _ e]at hx;exact .inr ⟨hx,h.dom _ _ hx⟩
 refine⟨⟨?_,?_,?_⟩,⟨h.sub_upd _,?_,by simp,by omega,rfl,rfl,rfl,fun c hc _=>hold c hc,?_,?_⟩⟩
 ·intro n x hx
  rcases hcase n x hx with ⟨rfl,rfl⟩|⟨_,h1,h2⟩
  ·simp
  ·exact⟨by simp;omega,by omega⟩
 ·intro n x hx
  rcases hcase n x hx with ⟨rfl,rfl⟩|⟨h0,h1,h2⟩
  ·rw[aL];exact ho
  ·rw[ag h1];exact(h.obj n x h0).keep (h.sub_upd _) (hold _ h2)
 ·intro n m x y hx hy hne hr hl
  rcases hcase n x hx with ⟨rfl,rfl⟩|⟨h0,h1,h2⟩<;>rcases hcase m y hy with ⟨rfl,rfl⟩|⟨k0,k1,k2⟩
  ·exact absurd rfl hne
  ·simp;omega
  ·simp;omega
  ·rw[ag h1]at hr;rw[ag k1]at hl
   exact h.inj n m x y h0 k0 hne hr hl
 ·intro n x hx
  rcases hcase n x hx with ⟨rfl,rfl⟩|⟨h0,_,_⟩
  ·exact .inr ⟨h.fresh,EJ _⟩
  ·exact .inl h0
 ·intro n x hx hr hlt
  rcases hcase n x hx with ⟨rfl,rfl⟩|⟨h0,h1,h2⟩
  ·simp at hlt
  ·rw[ag h1]at hr
   exact⟨n,x,h0,hr,rfl⟩
 ·intro n x hx hr hlt
  rcases hcase n x hx with ⟨rfl,rfl⟩|⟨h0,h1,h2⟩
  ·simp at hlt
  ·rw[ag h1]at hr
   exact⟨n,x,h0,hr,rfl⟩
theorem HR.update{σ:Ren}{H:AH}{w w':World}(h:HR σ H w){n:Nat}{x:Loc}(hn:σ n=some x)(hr:(at_ H n).rw=true)(o:AO)(hs:w'.heap.size=w.heap.size)(hos:w'.os=w.os)(htp:w'.tape=w.tape)(hout:w'.output=w.output)(hb: ∀b,b≠x.1->w'.heap[b]? =w.heap[b]?)(ho:OR σ w' x o):
 HR σ (H.set n o) w'/\Ext σ H w σ (H.set n o) w':=by
 have hlt:=(h.dom n x hn).1
 refine⟨⟨?_,?_,?_⟩,⟨fun _ _ h=>h,fun _ _ h=> .inl h,by simp,by omega,hos,htp,hout,?_,?_,?_⟩⟩
 ·intro m y hm
  have:=h.dom m y hm
  exact⟨by simpa using this.1,by omega⟩
 ·intro m y hm
  by_cases e:n=m
  ·subst e;rw[hn]at hm;cases hm
   rw[au hlt];exact ho
  ·rw[af e]
   cases hl:(at_ H m).live with
   |true=>exact(h.obj m y hm).keep (fun _ _ h=>h) (hb _ (Fg (h.inj n m x y hn hm e hr hl)))
   |false=>
    cases ho':at_ H m with
    |dead=>trivial
    |cells c e=>rw[ho']at hl;cases hl
    |ro c=>rw[ho']at hl;cases hl
    |map es=>rw[ho']at hl;cases hl
    |loop=>rw[ho']at hl;cases hl
 ·intro k m y z hk hm hne hrk hlm
  have hrk':(at_ H k).rw=true:=by
   by_cases e:n=k
   ·subst e;exact hr
   ·rwa [af e]at hrk
  by_cases e:n=m
  ·subst e
   have hl:(at_ H n).live=true:=by
    cases ho':at_ H n with
    |dead=>rw[ho']at hr;cases hr
    |cells c e=>rfl
    |ro c=>rfl
    |map es=>rfl
    |loop=>rfl
   exact h.inj k n y z hk hm hne hrk' hl
  ·rw[af e]at hlm
   exact h.inj k m y z hk hm hne hrk' hlm
 ·intro b hb1 hb2
  exact hb b (Fg (hb2 n x hn hr))
 ·intro m y hm hrm _
  by_cases e:n=m
  ·subst e;exact⟨n,y,hm,hr,rfl⟩
  ·rw[af e]at hrm
   exact⟨m,y,hm,hrm,rfl⟩
 ·intro m y hm hrm _
  by_cases e:n=m
  ·subst e
   refine⟨n,y,hm,?_,rfl⟩
   cases ho':at_ H n<;>rw[ho']at hr<;>first|rfl|cases hr
  ·rw[af e]at hrm
   exact⟨m,y,hm,hrm,rfl⟩
theorem HR.world{σ:Ren}{H:AH}{w w':World}(h:HR σ H w)(hb:w'.heap=w.heap):HR σ H w':=by
 refine⟨fun n x hn=>by rw[hb];exact h.dom n x hn,fun n x hn=>(h.obj n x hn).keep (fun _ _ h=>h) (by rw[hb]),h.inj⟩
theorem Ext.world{σ:Ren}{H:AH}{w w':World}(hb:w'.heap=w.heap)(ho:w'.os=w.os)(ht:w'.tape=w.tape)(hu:w'.output=w.output):Ext σ H w σ H w':=⟨fun _ _ h=>h,fun _ _ h=> .inl h,EJ _,by rw[hb];exact EJ _,ho,ht,hu,fun _ _ _=>by rw[hb],fun n x h r _=>⟨n,x,h,r,rfl⟩,fun n x h r _=>⟨n,x,h,r,rfl⟩⟩
def one(v:Value):Bool:=match v with| .agg _| .tuple _| .chan _=>false|_=>true
def acells(v:Value):Option (List Value):=match v with| .agg cs=>some cs.toList| .tuple _=>none| .chan _=>none|v=>some [v]
def kw(P:Program)(t:TypeId):Option Bool:=(P.underlying t).map fun| .struct _=>true| .array _ _=>true|_=>false
def bJ(P:Program)(t:TypeId):Option Nat:=(P.info? t).map (·.size)
def cw(P:Program)(t:TypeId):Option Value:=(P.info? t).bind (·.zero)
theorem VR.one{σ:Ren}{v v':Value}(h:VR σ v v')(ho:one v=true):Value.oneCell' v'=true:=by
 cases h<;>first|rfl| (simp[Ev.one]at ho)
theorem VR.acells{σ:Ren}{v v':Value}(h:VR σ v v'){l:List Value}(ha:acells v=some l):Rs σ l v'.cells.toList:=by
 cases h with
 |agg hc hc'=>
  simp only[Ev.acells,ER]at ha;subst ha
  exact⟨by simpa[Value.cells]using hc,fun i v v' a b=>hc' i v v' (by simpa using a) (by simpa[Value.cells]using b)⟩
 |junk=>simp[Ev.acells]at ha
 |gone=>simp[Ev.acells]at ha
 |yield=>simp[Ev.acells]at ha
 |tuple=>simp[Ev.acells]at ha
 |bool b=>simp only[Ev.acells,ER]at ha;subst ha;exact Rs.cons (.bool b) (.nil σ)
 |int k n=>simp only[Ev.acells,ER]at ha;subst ha;exact Rs.cons (.int k n) (.nil σ)
 |string s=>simp only[Ev.acells,ER]at ha;subst ha;exact Rs.cons (.string s) (.nil σ)
 |ptrNil=>simp only[Ev.acells,ER]at ha;subst ha;exact Rs.cons .ptrNil (.nil σ)
 |ptr h=>simp only[Ev.acells,ER]at ha;subst ha;exact Rs.cons (.ptr h) (.nil σ)
 |slNil=>simp only[Ev.acells,ER]at ha;subst ha;exact Rs.cons .slNil (.nil σ)
 |sl h hc=>simp only[Ev.acells,ER]at ha;subst ha;exact Rs.cons (.sl h hc) (.nil σ)
 |slE=>simp only[Ev.acells,ER]at ha;subst ha;exact Rs.cons .slE (.nil σ)
 |mapNil=>simp only[Ev.acells,ER]at ha;subst ha;exact Rs.cons .mapNil (.nil σ)
 |map h=>simp only[Ev.acells,ER]at ha;subst ha;exact Rs.cons (.map h) (.nil σ)
 |nilFunc=>simp only[Ev.acells,ER]at ha;subst ha;exact Rs.cons .nilFunc (.nil σ)
 |nilIface=>simp only[Ev.acells,ER]at ha;subst ha;exact Rs.cons .nilIface (.nil σ)
 |iface t h=>simp only[Ev.acells,ER]at ha;subst ha;exact Rs.cons (.iface t h) (.nil σ)
 |func fn a b c d=>simp only[Ev.acells,ER]at ha;subst ha;exact Rs.cons (.func fn a b c d) (.nil σ)
theorem Rs.agg{σ:Ren}{l l':List Value}(h:Rs σ l l'):VR σ (.agg l.toArray) (.agg l'.toArray):=
 .agg (by simpa using h.1) fun i v v' a b=>h.2 i v v' (by simpa using a) (by simpa using b)
theorem Rs.tuple{σ:Ren}{l l':List Value}(h:Rs σ l l'):VR σ (.tuple l.toArray) (.tuple l'.toArray):=
 .tuple (by simpa using h.1) fun i v v' a b=>h.2 i v v' (by simpa using a) (by simpa using b)
section
variable {P:Program}{w:World}
theorem bu{t:TypeId}{d:TypeDesc}(h:P.underlying t=some d):(underlying t).run P w= .ok d w:=run_underlying h w
theorem eb{t:TypeId}{n:Nat}(h:bJ P t=some n):(sizeOf t).run P w= .ok n w:=by
 unfold bJ at h
 simp only[EB]at h
 obtain⟨i,hi,rfl⟩:=h
 rw[run_sizeOf w hi];simp[Program.cellsOf,hi]
theorem ji{t:TypeId}{b:Bool}(h:kw P t=some b):(isAgg t).run P w= .ok b w:=by
 unfold kw at h
 simp only[EB]at h
 obtain⟨d,hd,rfl⟩:=h
 unfold isAgg
 simp only[ED,bu hd,Result.andThen_ok]
 cases d<;>rfl
theorem mB{t:TypeId}{v:Value}(h:cw P t=some v):(zeroValue t).run P w= .ok v w:=by
 unfold cw at h
 simp only[EN]at h
 obtain⟨i,hi,hz⟩:=h
 unfold zeroValue
 simp only[ED,run_typeInfo w hi,Result.andThen_ok,hz,Sem.run_pure]
end
def aP(H:AH)(n:Nat):Option (List Value):=match at_ H n with| .cells c _=>some c| .ro c=>some c|_=>none
def aj(H:AH)(n i:Nat):Option Value:=(aP H n).bind (·[i]?)
def ak(H:AH)(n i k:Nat):Option (List Value):=(aP H n).bind fun c=>if i+k<=c.length then some ((c.drop i).take k)else none
theorem zj{σ:Ren}{H:AH}{w:World}(hr:HR σ H w){n i b o s:Nat}{v:Value}(hn:σ n=some (b,o,s))(h:aj H n i=some v):
 ∃v',w.cell? ⟨b,o+i,none⟩=some v'/\VR σ v v':=by
 have ho:=hr.obj n _ hn
 unfold aj aP at h
 cases e:at_ H n with
 |cells c t=>
  rw[e]at h ho
  obtain⟨h0,cs,h1,h2,_,h3⟩:=ho
  simp only[Option.bind_some]at h
  simp only at h0 h1;subst h0
  obtain⟨hi,_⟩:=Ey.1 h
  have hi':i<cs.size:=by omega
  refine⟨cs[i],?_,h3 i v _ h (by simp[hi'])⟩
  rw[EU,cell_of_row w b i cs t (0,0) h1];simp[hi']
 |ro c=>
  rw[e]at h ho
  simp only[Option.bind_some]at h
  exact ho i v h
 |map es=>rw[e]at h;simp at h
 |loop=>rw[e]at h;simp at h
 |dead=>rw[e]at h;simp at h
theorem eP(b o i:Nat):(⟨b,o,none⟩:Addr).add i=⟨b,o+i,none⟩:=by
 unfold Addr.add;split<;>simp_all
theorem qq{σ:Ren}{H:AH}{w:World}(hr:HR σ H w){n i k b o s:Nat}{l:List Value}(hn:σ n=some (b,o,s))(h:ak H n i k=some l):
 ∃l',l'.length=k/\(∀(P:Program) (w1:World),w1.heap=w.heap->(loadCells ⟨b,o+i,none⟩ k).run P w1= .ok l'.toArray w1)/\Rs σ l l':=by
 have hlen:l.length=k:=by
  unfold ak at h
  simp only[EN]at h
  obtain⟨c,hc,h⟩:=h
  split at h
  ·cases h;simp;omega
  ·cases h
 have hget: ∀j,j<k-> ∃v',l[j]? =some l[j]! /\w.cell? ⟨b,o+i+j,none⟩=some v'/\VR σ l[j]! v':=by
  intro j hj
  have hlj:l[j]? =some l[j]! :=by
   rw[Ex (by omega)];congr 1;rw[List.getElem!_eq_getElem?_getD,Ex (by omega)];rfl
  have:aj H n (i+j)=some l[j]! :=by
   unfold ak at h
   simp only[EN]at h
   obtain⟨c,hc,h⟩:=h
   split at h
   ·cases h
    unfold aj;rw[hc];simp only[Option.bind_some]
    rw[<-hlj,GC,if_pos hj,GD]
   ·cases h
  obtain⟨v',h1,h2⟩:=zj hr hn this
  exact⟨v',hlj,by rw[FJ];exact h1,h2⟩
 let f:Nat->Value:=fun j=>((w.cell? ⟨b,o+i+j,none⟩).getD (.tuple #[]))
 refine⟨(List.range k).map f,by simp,fun P w1 hw1=> ?_,by simp[hlen],fun j v v' a b'=> ?_⟩
 ·have hcw: ∀a,w1.cell? a=w.cell? a:=fun a=>by unfold World.cell?;rw[hw1]
  have:=run_loadCells_list (P:=P) (w:=w1) ⟨b,o+i,none⟩ ((List.range k).map f) (by
   intro j v hv
   simp only[EM,EB]at hv
   obtain⟨x,hx,rfl⟩:=hv
   obtain⟨hj,hx⟩:=Ey.1 hx
   simp at hj hx;subst hx
   obtain⟨v',_,h2,_⟩:=hget j hj
   rw[eP,hcw];simp[f,h2])
  simpa using this
 ·obtain⟨hj,_⟩:=Ey.1 a
  obtain⟨u,h1,h2,h3⟩:=hget j (by omega)
  rw[a]at h1;cases h1
  simp only[EM,EB]at b'
  obtain⟨x,hx,rfl⟩:=b'
  obtain⟨hj',hx⟩:=Ey.1 hx
  simp at hj' hx;subst hx
  simp only[f,h2,Option.getD_some];exact h3
def dQ(P:Program)(H:AH)(t:TypeId)(a:Value):Option Value:=match a with
 | .pointer (some ⟨n,i,none⟩)=>
   match kw P t with
   |some true=>(bJ P t).bind fun k=>(ak H n i k).map fun l=> .agg l.toArray
   |some false=>aj H n i
   |none=>none
 |_=>none
theorem vw{P:Program}{σ:Ren}{H:AH}{w:World}(hr:HR σ H w){t:TypeId}{a a' v:Value}(ha:VR σ a a')(h:dQ P H t a=some v):
 ∃v',(Instr.loadAt t a').run P w= .ok v' w/\VR σ v v':=by
 unfold dQ at h
 split at h
 ·rename_i n i
  cases ha with
  |ptr hn=>
   rename_i b o s
   split at h
   ·rename_i hagg
    simp only[EN,EB]at h
    obtain⟨k,hk,l,hl,rfl⟩:=h
    obtain⟨l',h1,h2,h3⟩:=qq hr hn hl
    refine⟨.agg l'.toArray,?_,h3.agg⟩
    simp only[Instr.loadAt,Instr.sureAddr,loadVar,ED,Sem.run_pure,Result.andThen_ok,ji hagg,if_true,eb hk,h2 P w rfl]
   ·rename_i hagg
    obtain⟨v',h1,h2⟩:=zj hr hn h
    refine⟨v',?_,h2⟩
    simp only[Instr.loadAt,Instr.sureAddr,loadVar,ED,Sem.run_pure,Result.andThen_ok,ji hagg,EO,if_false]
    simp[load,Sem.run,h1]
   ·cases h
 ·cases h
def setAll(c:List Value)(i:Nat):List Value->List Value
 | []=>c
 |v::l=>setAll (c.set i v) (i+1) l
def nN(P:Program)(H:AH)(t:TypeId)(a v:Value):Option AH:=match a with
 | .pointer (some ⟨n,i,none⟩)=>
   match at_ H n,acells v with
   | .cells c e,some l=>if bJ P t=some l.length/\i+l.length<=c.length/\l.all one=true then some (H.set n (.cells (setAll c i l) e))else none
   |_,_=>none
 |_=>none
theorem xO{σ:Ren}{w:World}{n b s:Nat}{c:List Value}{e:TypeId}{i:Nat}{v v':Value}{H:AH}(hr:HR σ H w)(hn:σ n=some (b,0,s))(ha:at_ H n= .cells c e)(hi:i<c.length)(hv:VR σ v v'):
 HR σ (H.set n (.cells (c.set i v) e)) (w.setCell ⟨b,i,none⟩ v')/\Ext σ H w σ (H.set n (.cells (c.set i v) e)) (w.setCell ⟨b,i,none⟩ v'):=by
 have ho:=hr.obj n _ hn
 rw[ha]at ho
 obtain⟨_,cs,h1,h2,h2',h3⟩:=ho
 have hh:(w.setCell ⟨b,i,none⟩ v').heap[b]? =some (.cells (cs.setIfInBounds i v') e (0,0)):=by
  simp only[World.setCell,GF]
  simp only at h1
  simp[h1]
 refine hr.update (x:=(b,0,s)) hn (by rw[ha];rfl) _ (by simp[World.setCell]) rfl rfl rfl (fun k hk=>RowKit.Below.heap_setCell w _ v' k hk) ⟨rfl,cs.setIfInBounds i v',hh,by simpa using h2,by simpa using h2',?_⟩
 intro j u u' hu hu'
 rw[Ff]at hu
 rw[FC]at hu'
 split at hu
 ·rename_i e;subst e
  rw[if_pos rfl]at hu'
  split at hu'
  ·cases hu;cases hu';exact hv
  ·cases hu'
 ·rename_i e;rw[if_neg e]at hu'
  exact h3 j u u' hu hu'
theorem vo(l:List Value): ∀(c:List Value) (i:Nat),(setAll c i l).length=c.length:=by
 induction l with
 |nil=>intro c i;rfl
 |cons v l ih=>intro c i;simp[setAll,ih]
theorem gV{P:Program}{σ:Ren}{n b i s:Nat}{e:TypeId}: ∀(l l':List Value) (k:Nat) (c:List Value) (H:AH) (w:World),HR σ H w->σ n=some (b,0,s)->at_ H n= .cells c e->i+k+l.length<=c.length->l.all one=true->Rs σ l l'-> ∃w',(storeCells ⟨b,i,none⟩ l' k).run P w= .ok () w'/\HR σ (H.set n (.cells (setAll c (i+k) l) e)) w'/\Ext σ H w σ (H.set n (.cells (setAll c (i+k) l) e)) w':=by
 intro l
 induction l with
 |nil=>
  intro l' k c H w hr hn ha hi hone hl
  have:l'=[]:=by have:=hl.1;simp at this;exact FQ this.symm
  subst this
  have hs:H.set n (.cells (setAll c (i+k) []) e)=H:=by
   have hlt:=(hr.dom n _ hn).1
   apply FM
   intro j
   rw[Ff]
   split
   ·rename_i hj;subst hj
    unfold at_ at ha
    rw[Ex hlt]at ha⊢
    simp only[Option.getD_some]at ha
    simp[hlt,setAll,ha]
   ·rfl
  rw[hs]
  exact⟨w,by simp[storeCells],hr,Ext.refl _ _ _⟩
 |cons v l ih=>
  intro l' k c H w hr hn ha hi hone hl
  cases l' with
  |nil=>have:=hl.1;simp at this
  |cons v' l'=>
   have hv:VR σ v v':=hl.2 0 v v' rfl rfl
   have hl2:Rs σ l l':=⟨by have:=hl.1;simpa using this,fun j u u' a b=>hl.2 (j+1) u u' (by simpa using a) (by simpa using b)⟩
   simp only[List.length_cons,List.all_cons,EC]at hi hone
   obtain⟨hr1,hx1⟩:=xO (i:=i+k) hr hn ha (by omega) hv
   have hlt:=(hr.dom n _ hn).1
   obtain⟨w2,h1,h2,h3⟩:=ih l' (k+1) (c.set (i+k) v) _ _ hr1 hn (au hlt _) (by simp;omega) hone.2 hl2
   have hss: ∀o,(H.set n (.cells (c.set (i+k) v) e)).set n o=H.set n o:=fun o=>by rw[GU]
   rw[hss]at h2 h3
   refine⟨w2,?_,h2,hx1.trans h3⟩
   have ho:=hr.obj n _ hn
   rw[ha]at ho
   obtain⟨_,cs,g1,g2,_,g3⟩:=ho
   simp only at g1
   have hcell:w.cell? ⟨b,i+k,none⟩=some cs[i+k]! :=by
    rw[cell_of_row w b (i+k) cs e (0,0) g1,EQ (by omega)]
    congr 1;rw[getElem!_pos cs (i+k) (by omega)]
   have hfr:w.frozen? ⟨b,i+k,none⟩=false:=frozen_of_row w b (i+k) cs e g1
   have hone':=hv.one hone.1
   simp only[storeCells,ED,eP]
   rw[run_store P w _ v' _ hone']
   simp only[hcell,hfr,EO,if_false,Result.andThen_ok]
   exact h1
theorem Bs{P:Program}{σ:Ren}{H H':AH}{w:World}(hr:HR σ H w){t:TypeId}{a a' v v':Value}(ha:VR σ a a')(hv:VR σ v v')(h:nN P H t a v=some H'):
 ∃w',(Instr.storeAt t a' v').run P w= .ok () w'/\HR σ H' w'/\Ext σ H w σ H' w':=by
 unfold nN at h
 split at h
 ·rename_i n i
  cases ha with
  |ptr hn=>
   rename_i b o s
   split at h
   ·rename_i c e l hc hl
    split at h
    ·rename_i hcond
     cases h
     obtain⟨hs,hi,hone⟩:=hcond
     have ho:=hr.obj n _ hn
     rw[hc]at ho
     obtain⟨h0,_⟩:=ho
     simp only at h0;subst h0
     have hrs:=hv.acells hl
     obtain⟨w',h1,h2,h3⟩:=gV (P:=P) (i:=i) l v'.cells.toList 0 c H w hr hn hc (by omega) hone hrs
     refine⟨w',?_,h2,h3⟩
     have hsz:v'.cells.size=l.length:=by have:=hrs.1;simpa using this.symm
     simp only[Instr.storeAt,Instr.sureAddr,storeVar,ED,Sem.run_pure,Result.andThen_ok,eb hs,hsz,ne_eq,not_true,if_false,EU]
     exact h1
    ·cases h
   ·cases h
 ·cases h
theorem nI{σ:Ren}{H:AH}{w:World}(hr:HR σ H w)(e:TypeId){l l':List Value}(hl:Rs σ l l'):
 HR (upd σ H.length (w.heap.size,0,l'.length)) (H++[.cells l e]) (w.alloc (.cells l'.toArray e))/\Ext σ H w (upd σ H.length (w.heap.size,0,l'.length)) (H++[.cells l e]) (w.alloc (.cells l'.toArray e)):=by
 refine hr.alloc _ _ _ ⟨rfl,l'.toArray,heap_alloc_new w _,by simp[hl.1],by simp,fun i v v' a b=> ?_⟩
 exact(hl.2 i v v' a (by simpa using b)).mono (hr.sub_upd _)
def lZ(H:AH)(e:TypeId)(v:Value):Option (Value×AH):=(acells v).map fun l=>(.pointer (some ⟨H.length,0,none⟩),H++[.cells l e])
theorem AG(P:Program)(w:World)(t:TypeId)(v:Value):(newVar t v).run P w= .ok ⟨w.heap.size,0,none⟩ (w.alloc (.cells v.cells t)):=by
 rfl
theorem yA{P:Program}{σ:Ren}{H H':AH}{w:World}(hr:HR σ H w){e:TypeId}{v v' r:Value}(hv:VR σ v v')(h:lZ H e v=some (r,H')):
 ∃r' w' σ',(Instr.box e v').run P w= .ok r' w'/\VR σ' r r'/\HR σ' H' w'/\Ext σ H w σ' H' w':=by
 unfold lZ at h
 simp only[EB,Fe]at h
 obtain⟨l,hl,rfl,rfl⟩:=h
 obtain⟨h1,h2⟩:=nI hr e (hv.acells hl)
 refine⟨.pointer (some ⟨w.heap.size,0,none⟩),_,_,?_,?_,h1,h2⟩
 ·simp[Instr.box,AG]
 ·have:=VR.ptr (σ:=upd σ H.length (w.heap.size,0,v'.cells.toList.length)) (i:=0) (dI _ _ _)
  simpa using this
end Go.Ev
