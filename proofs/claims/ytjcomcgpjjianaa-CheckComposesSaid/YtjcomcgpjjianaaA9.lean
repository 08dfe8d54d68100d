import Derived.Test.YtjcomcgpjjianaaA8
set_option linter.all false
set_option maxHeartbeats 16000000
set_option maxRecDepth 8000
open Go.Value renaming int→O
open Go.IntKind renaming i64→U
namespace Go.Ev
def nF(S:AH)(na:Nat)(e:TypeId)(sz:Nat)(s:Value)(len:Nat)(cont:List Value):Prop:=(s= .slice none 0 0/\len=0/\cont=[])\/ ∃C,s= .slice (some ⟨na,0,none⟩) len C/\na<S.length/\at_ S na= .cells cont e/\cont.length=len*sz/\((C=len/\len<unk)\/C=unk+sz)
theorem nF.append{P:Program}{S:AH}{na:Nat}{ts:Array TypeId}{e:TypeId}{it:TypeInfo}{z s:Value}{len:Nat}{cont el:List Value}(h0:ts[0]?.bind P.underlying=some (.slice e))(hi:P.info? e=some it)(hz:it.zero=some z)(hzs:z.cells.size=it.size)(hs:0<it.size){d:TypeDesc}{t:TypeId}(h1:ts[1]? =some t)(hu:P.underlying t=some d)(hd: ∀k,d≠ .int k)(hel:el.length=it.size)(ho:el.all one=true)(hb:(len+1)*it.bytes<=140737488355328)(hb2:len+1<=9223372036854775807)(hg:nF S na e it.size s len cont)(G:AH):
 ∃S',bD P (S++(G++[.cells el e])) ts s (.slice (some ⟨S.length+G.length,0,none⟩) 1 1)=some (.slice (some ⟨S.length+(G.length+1),0,none⟩) (len+1) (unk+it.size),S'++(G++[.cells el e,.cells (cont++el) e]))/\S'.length=S.length/\(∀k,at_ S' k=at_ S k\/(k=na/\at_ S' k= .dead))/\(s= .slice none 0 0->S'=S):=by
 have hn:aC P (S++(G++[.cells el e])) it ts[1]? (.slice (some ⟨S.length+G.length,0,none⟩) 1 1)=some (1,el):=by
  rw[h1]
  refine lJ hu hd ?_
  rw[aF,<-Nat.add_zero G.length,aF,oQ,if_pos (by omega),Hj,<-hel,F4,Fp]
 have hlen:(S++(G++[AO.cells el e])).length=S.length+(G.length+1):=by simp
 rcases hg with ⟨rfl,rfl,rfl⟩|⟨C,rfl,h2,h3,h4,h5⟩
 ·have:=lA (P:=P) (H:=S++(G++[.cells el e])) h0 hi hz hzs hs hn ho (by omega) (by omega) (by omega)
  refine⟨S,this.trans ?_,rfl,fun _=> .inl rfl,fun _=>rfl⟩
  rw[hlen];simp
 ·rcases h5 with ⟨rfl,h5⟩|rfl
  ·have hold:ak (S++(G++[.cells el e])) na 0 (C*it.size)=some cont:=by
    refine aD ?_
    unfold ak aP
    rw[h3]
    simp only[Option.bind_some]
    rw[if_pos (by omega),<-h4,F4,Fp]
   have:=fk (P:=P) (H:=S++(G++[.cells el e])) h0 hi hz hzs hs hn ho hb (by omega) h5 (EJ _) (by omega) hold
   refine⟨S,this.trans ?_,rfl,fun _=> .inl rfl,fun _=>rfl⟩
   rw[hlen];simp
  ·have hat:at_ (S++(G++[AO.cells el e])) na= .cells cont e:=by rw[ag h2];exact h3
   have:=lT (P:=P) (H:=S++(G++[.cells el e])) h0 hi hz hzs hs hn ho hb (by omega) hat h4
   refine⟨S.set na .dead,this.trans ?_,by rw[EA],fun k=> ?_,fun h=>by cases h⟩
   ·rw[hlen,Gq _ _ h2];simp
   ·by_cases hk:k=na
    ·subst hk;exact .inr ⟨rfl,au h2 _⟩
    ·exact .inl (af (Fg hk) _)
def kL(i0:Nat->Bool)(N:Nat)(ops:List Oper):List Kd:=(List.range ops.length).map fun i=>if i0 i=true then .one N else cg (mo (fun _=>false) ops) i
def noJ(ops:List Oper)(ks:List Kd):Bool:=(List.range ops.length).all fun e=> !(cg ks e).isEff||(exJ ops ks e).isEmpty
def chk1(i0:Nat->Bool)(ops:List Oper):Bool:=chk ops (kL i0 0 ops)&&noJ ops (kL i0 0 ops)
theorem fI{i0:Nat->Bool}{N:Nat}{ops:List Oper}(i:Nat):cg (kL i0 N ops) i=if i<ops.length then(if i0 i=true then .one N else cg (mo (fun _=>false) ops) i)else .eff:=by
 unfold kL
 conv=>lhs;unfold cg
 rw[EF,EM]
 by_cases h:i<ops.length
 ·rw[EW h,if_pos h];rfl
 ·rw[Fd (by simpa using h),if_neg h];rfl
theorem yF{i0:Nat->Bool}{ops:List Oper}(N i:Nat):(cg (kL i0 N ops) i).isEff=(cg (kL i0 0 ops) i).isEff:=by
 rw[fI,fI];split
 ·split<;>rfl
 ·rfl
theorem CX{i0:Nat->Bool}{ops:List Oper}(N i:Nat):(cg (kL i0 N ops) i).isLoud=(cg (kL i0 0 ops) i).isLoud:=by
 rw[fI,fI];split
 ·split<;>rfl
 ·rfl
theorem yR{i0:Nat->Bool}{ops:List Oper}(N i:Nat)(op:Op):lL (cg (kL i0 N ops) i) op=lL (cg (kL i0 0 ops) i) op:=by
 rw[fI,fI];split
 ·split
  ·simp[lL]
  ·rfl
 ·rfl
theorem zs{i0:Nat->Bool}{ops:List Oper}(N:Nat):chk ops (kL i0 N ops)=chk ops (kL i0 0 ops):=by
 unfold chk fW
 simp only[yF N,CX N]
theorem exJ_kds1{i0:Nat->Bool}{ops:List Oper}(N e:Nat):exJ ops (kL i0 N ops) e=exJ ops (kL i0 0 ops) e:=by
 unfold exJ
 simp only[yR N]
theorem exN_kds1{i0:Nat->Bool}{N:Nat}{ops:List Oper}{e n:Nat}(h:n∈exN ops (kL i0 N ops) e):n=N:=by
 unfold exN at h
 rw[FB]at h
 obtain⟨i,hi,h⟩:=h
 rw[fI,if_pos (ET.1 hi)]at h
 by_cases e1:i0 i=true
 ·rw[if_pos e1]at h
  simp only at h
  split at h
  ·cases h
  ·cases h;rfl
 ·rw[if_neg e1]at h
  unfold cg mo at h
  rw[EF,EM,EW (ET.1 hi)]at h
  simp only[Option.map_some,Option.getD_some,EO,if_false]at h
  cases ho:ops[i]? with
  |none=>rw[ho]at h;cases h
  |some o=>
   rw[ho]at h
   simp only at h
   cases hk:qM o.op with
   |one m=>unfold qM at hk;split at hk<;>cases hk
   |still=>rw[hk]at h;cases h
   |loud=>rw[hk]at h;cases h
   |eff=>rw[hk]at h;cases h
def ml(N:Nat)(ρ:Operand->Value)(H:AH)(op:Op):Kd->Option OpR->Option OpR
 | .still,r=>if iV ρ op=true then r else none
 | .loud,r=>match op with| .load .. | .lookup .. =>r|_=>none
 | .one _,r=>match op with
   | .load _ x=>match ρ x with| .pointer (some ⟨n,_,none⟩)=>if n=N then r else none|_=>none
   |_=>none
 | .eff,some (.val v H')=>match op with
   | .store _ x _=>match ρ x with| .pointer (some ⟨m,_,none⟩)=>if m=N then none else if H.length<=H'.length then some (.val v H')else none|_=>none
   |_=>none
 |_,_=>none
def kdI(i0:Nat->Bool)(N i:Nat)(op:Op):Kd:=if i0 i=true then .one N else qM op
def tn(P:Program)(n:Nat)(i0:Nat->Bool)(N i:Nat)(o:Oper)(a:Env)(H:AH):Option Bool->Rn
 |some true=>if wb o.op=true then .bad else rnOf n o.dst a (ml N (bq a) H o.op (kdI i0 N i o.op) (cH P noC H (bq a) o.op))
 |some false=> .go (aB n a o.dst gone) H
 |none=> .bad
def j9(P:Program)(n:Nat)(i0:Nat->Bool)(N:Nat)(ops:Array Oper):Nat->List Oper->Rn->Option (Env×AH)
 |_,[],.go a H=>some (a,H)
 |i,o::r,.go a H=>j9 P n i0 N ops (i+1) r (tn P n i0 N i o a H (aJ ops a o))
 |_,_,_=>none
theorem lN{P:Program}{n:Nat}{i0:Nat->Bool}{N:Nat}{ops:Array Oper}(i:Nat)(r:List Oper):j9 P n i0 N ops i r .bad=none:=by cases r<;>rfl
theorem yu{P:Program}{H H':AH}{ρ:Operand->Value}{t:TypeId}{x:Operand}{v:Value}(h:cH P noC H ρ (.load t x)=some (.val v H')):dQ P H t (ρ x)=some v/\H'=H:=by
 simp only[cH]at h
 cases hl:dQ P H t (ρ x)with
 |none=>rw[hl]at h;cases h
 |some w=>rw[hl]at h;cases h;exact⟨rfl,rfl⟩
theorem C9{P:Program}{H H':AH}{ρ:Operand->Value}{t:TypeId}{x y:Operand}{v:Value}{m i:Nat}(hx:ρ x= .pointer (some ⟨m,i,none⟩))(h:cH P noC H ρ (.store t x y)=some (.val v H')){N:Nat}(hN:m≠N):at_ H' N=at_ H N:=by
 simp only[cH,hx,nN]at h
 split at h
 ·split at h
  ·cases h;exact af hN _
  ·cases h
 ·cases h
theorem Dr.one{K:Cx}{ops:List Oper}{i0:Nat->Bool}{N:Nat}{Q:AX->Env->AH->Prop}{a':Env}{H':AH}(hJ:noJ ops (kL i0 0 ops)=true)(hq:Q .normal a' H'): ∀(r:List Oper) (i:Nat) (a:Env) (H:AH) (ls:List Nat),i+r.length=ops.length->ops.drop i=r->j9 K.P K.n i0 N ops.toArray i r (.go a H)=some (a',H')->Dr K ops (kL i0 N ops) Q i ls r a H
 | [],i,a,H,ls,_,_,h=>by cases h;exact Dr.nil hq
 |o::r,i,a,H,ls,hl,hd,h=>by
  obtain⟨g1,g2,g3⟩:=mQ hd
  have hkd:cg (kL i0 N ops) i=kdI i0 N i o.op:=by
   rw[fI,if_pos g2]
   unfold kdI
   by_cases e:i0 i=true
   ·rw[if_pos e,if_pos e]
   ·rw[if_neg e,if_neg e]
    unfold cg mo
    rw[EF,EM,EW g2]
    simp only[Option.map_some,g1,Option.getD_some,EO,if_false]
  have hl':i+1+r.length=ops.length:=by simp only[List.length_cons]at hl;omega
  simp only[j9]at h
  cases hg:aJ ops.toArray a o with
  |none=>rw[hg]at h;simp only[tn,lN]at h;cases h
  |some g=>
   rw[hg]at h
   cases g with
   |false=>exact Dr.past hg (Dr.one hJ hq r (i+1) _ _ _ hl' g3 h)
   |true=>
    simp only[tn]at h
    split at h
    ·rw[lN]at h;cases h
    ·cases he:ml N (bq a) H o.op (kdI i0 N i o.op) (cH K.P noC H (bq a) o.op)with
     |none=>rw[he]at h;simp only[rnOf,lN]at h;cases h
     |some e=>
      rw[he]at h
      cases e with
      |pan v H1=>simp only[rnOf,lN]at h;cases h
      |val v H1=>
       have hrest:=Dr.one hJ hq r (i+1) _ _ (ls++[H.length]) hl' g3 h
       cases hk:kdI i0 N i o.op with
       |still=>
        rw[hk]at he
        simp only[ml]at he
        split at he
        ·rename_i hs
         exact Dr.op hg (by rw[hkd,hk];exact⟨he,hs⟩) (by rw[hkd,hk];intro hx;cases hx) hrest
        ·cases he
       |loud=>
        rw[hk]at he
        simp only[ml]at he
        split at he
        ·rename_i hop
         have hst:=bO.ev he
         rw[hop]at he
         have h2:=(yu he).2
         exact Dr.op hg (by rw[hkd,hk];exact⟨hst,[],by rw[h2];simp⟩) (by rw[hkd,hk];intro hx;cases hx) hrest
        ·rename_i hop
         have hst:=bO.ev he
         rw[hop]at he
         have h2:=(lM he).2
         exact Dr.op hg (by rw[hkd,hk];exact⟨hst,[],by rw[h2];simp⟩) (by rw[hkd,hk];intro hx;cases hx) hrest
        ·cases he
       |one m=>
        have hm:m=N:=by
         unfold kdI at hk
         split at hk
         ·cases hk;rfl
         ·unfold qM at hk;split at hk<;>cases hk
        rw[hk]at he
        simp only[ml]at he
        split at he
        ·rename_i t x hop
         split at he
         ·rename_i n j hx
          split at he
          ·rename_i hn
           rw[hop]at he
           obtain⟨k1,k2⟩:=yu he
           refine Dr.op hg (by rw[hkd,hk];exact⟨t,x,j,hop,by rw[hx,hn,hm],k1,k2⟩) (by rw[hkd,hk];intro hx;cases hx) hrest
          ·cases he
         ·cases he
        ·cases he
       |eff=>
        rw[hk]at he
        cases hev:cH K.P noC H (bq a) o.op with
        |none=>rw[hev]at he;simp only[ml]at he;cases he
        |some e2=>
         rw[hev]at he
         cases e2 with
         |pan v2 H2=>simp only[ml]at he;cases he
         |val v2 H2=>
          simp only[ml]at he
          split at he
          ·rename_i t x y hop
           split at he
           ·rename_i m j hx
            split at he
            ·cases he
            ·rename_i hm
             split at he
             ·rename_i hlen
              cases he
              refine Dr.op hg (by rw[hkd,hk];exact⟨bO.ev hev,hlen⟩) (fun _=>⟨fun n hn=> ?_,?_⟩) hrest
              ·rw[exN_kds1 hn]
               rw[hop]at hev
               exact C9 hx hev hm
              ·rw[exJ_kds1]
               unfold noJ at hJ
               rw[EI]at hJ
               have:=hJ i (ET.2 g2)
               rw[<-yF N,hkd,hk]at this
               simp only[Kd.isEff,Bool.not_true,Gm]at this
               rw[List.isEmpty_iff]at this
               rw[this];intro j hj;cases hj
             ·cases he
           ·cases he
          ·cases he
theorem W.drawnOne{K:Cx}{Q:AX->Env->AH->Prop}{a a':Env}{H H':AH}{id:Nat}{ops:List Oper}(i0:Nat->Bool)(N:Nat)(hm:K.P.follows .mixedOrders=true)(hc:chk1 i0 ops=true)(he:j9 K.P K.n i0 N ops.toArray 0 ops (.go a H)=some (a',H'))(h:Q .normal a' H'):W K (.region id ops.toArray true) Q a H:=by
 unfold chk1 at hc
 simp only[EC]at hc
 obtain⟨h1,h2⟩:=hc
 exact W.drawn (kL i0 N ops) hm (by rw[zs];exact h1) (Dr.one h2 h ops 0 a H [] (by simp) rfl he)
theorem X.drawnOne{k:Xc'}{Q:AX->Env->AH->Prop}{a a':Env}{H H':AH}{id:Nat}{ops:List Oper}(i0:Nat->Bool)(N:Nat)(hm:k.P.follows .mixedOrders=true)(hc:chk1 i0 ops=true)(he:j9 k.P k.n i0 N ops.toArray 0 ops (.go a H)=some (a',H'))(h:Q .normal a' H'):X k (.region id ops.toArray true) Q a H:=by
 unfold chk1 at hc
 simp only[EC]at hc
 obtain⟨h1,h2⟩:=hc
 refine⟨_,a',H',h,fun D σ w hr Q' hq=> ?_⟩
 exact W.drawn (kL i0 N ops) hm (by rw[zs];exact h1) (Dr.one h2 hq ops 0 a H [] (by simp) rfl he)
end Go.Ev
namespace Go.Ev
open Go.ChangeMaps (setBlock)
theorem vT{P:Program}{o:Oper}{a:Act}{n n':Act->World->Prop}{Q Q':Exit->Act->World->Prop}(hn: ∀a w,n a w->n' a w)(hq: ∀e a w,Q e a w->Q' e a w):
 ∀r,o.upon P a n Q r->o.upon P a n' Q' r:=by
 intro r h
 unfold Oper.upon at h⊢
 split at h
 ·exact hn _ _ h
 ·exact hn _ _ h
 ·exact hn _ _ h
 ·refine Calls.mono h fun e w he=> ?_
  cases e with
  |returned v=>exact hn _ _ he
  |panicked c=>exact hq _ _ _ he
  |outgrown=>obtain⟨a,w,hh⟩:=he;exact⟨a,w,hq _ _ _ hh⟩
 ·exact Rows.mono h fun _ _ he=>hn _ _ he
 ·exact hq _ _ _ h
 ·exact h.elim
theorem mU{P:Program}{ops:Array Oper}{Q Q':Exit->Act->World->Prop}(hq: ∀e a w,Q e a w->Q' e a w): ∀(l:List Oper) (a:Act) (w:World),wpList P ops Q l a w->wpList P ops Q' l a w
 | [],_,_,h=>hq _ _ _ h
 |o::l,a,w,h=>by
  unfold wpList at h⊢
  split at h
  ·rename_i hw
   rw[if_pos hw]
   rcases h with h|⟨h1,b,v,h2⟩
   ·exact .inl (vT (fun a w=>mU hq l a w) hq _ h)
   ·exact .inr ⟨h1,b,v,hq _ _ _ h2⟩
  ·rename_i hw
   rw[if_neg hw]
   exact mU hq l _ _ h
theorem In.dark{K:Cx}{a:Env}{H:AH}{σ:Ren}{act:Act}{w w':World}{b:Nat}(h:In K a H σ act w)(hb:K.w.heap.size<=b)(hn: ∀n x,σ n=some x->(at_ H n).live=true->x.1≠b)(hs:w'.heap.size=w.heap.size)(hos:w'.os=w.os)(htp:w'.tape=w.tape)(hout:w'.output=w.output)(hk: ∀c,c≠b->w'.heap[c]? =w.heap[c]?):In K a H σ act w':=by
 refine⟨⟨fun n x hx=> ?_,fun n x hx=> ?_,h.hr.inj⟩,h.ar,h.df,?_⟩
 ·have:=h.hr.dom n x hx;exact⟨this.1,by omega⟩
 ·have ho:=h.hr.obj n x hx
  have hl:=hn n x hx
  cases ha:at_ H n with
  |dead=>trivial
  |loop=>rw[ha]at ho hl;exact ho.keep (fun _ _ h=>h) (hk _ (hl rfl))
  |cells c e=>rw[ha]at ho hl;exact ho.keep (fun _ _ h=>h) (hk _ (hl rfl))
  |ro c=>rw[ha]at ho hl;exact ho.keep (fun _ _ h=>h) (hk _ (hl rfl))
  |map es=>rw[ha]at ho hl;exact ho.keep (fun _ _ h=>h) (hk _ (hl rfl))
 ·have ex:=h.ex
  refine⟨ex.sub,ex.new,ex.len,by rw[hs];exact ex.size,hos.trans ex.os,htp.trans ex.tape,hout.trans ex.output,fun c hc hx=> ?_,ex.rwm,ex.lvm⟩
  rw[hk c (by omega)]
  exact ex.frame c hc hx
structure Under(K:Cx)(m nm:Nat)(es:List (Value×Value))(b:Nat)(s:List Nat)(a:Env)(H:AH)(σ:Ren)(act:Act)(w:World):Prop where
 st:In K a H σ act w
 nm:σ nm=some (b,0,1)
 old:K.w.heap.size<=b
 dark: ∀n x,σ n=some x->(at_ H n).live=true->x.1≠b
 ent:at_ H m= .map es
 it: ∃mb sz ents seen,σ m=some (mb,0,sz)/\w.heap[mb]? =some (.map ents es.length)/\ents.size=es.length/\w.heap[b]? =some (.mapIter (some mb) es.length seen es.length)/\(∀i,i<es.length->(seen.contains i=true↔i∈s))/\ ∀(i:Nat) (k v:Value) (e:MapEntry),es[i]? =some (k,v)->ents[i]? =some e->e.key=k/\VR σ v e.val/\e.born=i
def lK(b:Nat)(w:World):Nat:=match w.heap[b]? with
 |some (.mapIter (some mb) _ seen _)=>match w.heap[mb]? with
  |some (.map ents _)=>(leftOf ents seen).size
  |_=>0
 |_=>0
theorem BW{σ:Ren}{es:List (Value×Value)}{ents:Array MapEntry}(hs:ents.size=es.length)(h: ∀(i:Nat) (k v:Value) (e:MapEntry),es[i]? =some (k,v)->ents[i]? =some e->e.key=k/\VR σ v e.val/\e.born=i):
 (∀i (hi:i<ents.size),ents[i].born=i):=by
 intro i hi
 have h1:es[i]? =some (es[i]'(by omega)):=Ex (by omega)
 exact(h i (es[i]'(by omega)).1 (es[i]'(by omega)).2 ents[i] h1 (EQ hi)).2.2
theorem In.ofQuiet{K:Cx}{a:Env}{H:AH}{σ:Ren}{act:Act}{w:World}(h:In K a H σ act w)(d:Option Tmp){v v':Value}(hv:VR σ v v'):In K (aB K.n a d v) H σ (act.put d v') w:=⟨h.hr,h.ar.put d hv,by rw[dq];exact h.df,h.ex⟩
theorem W.Ea{K:Cx}{Q:AX->Env->AH->Prop}{a0 a:Env}{H0 H:AH}{ops:Array Oper}{r1 r2 r3 i1 i2:Nat}{o2 o3 o4 o5:Oper}{ops3:List Oper}{rest:Code}{X:Operand}{it p q d:Tmp}{mt kt vt:TypeId}{m:Nat}{es:List (Value×Value)}(hpre: ∀Qx:Exit->Act->World->Prop,(∀σ act w,In K a H σ act w->wpList K.P ops Qx [o2] act w)-> ∀σ act w,In K a0 H0 σ act w->wpList K.P ops Qx ops.toList act w)(h2:o2.op= .range mt X/\o2.dst=some it/\o2.guard=none)(h3:o3.op= .next (.tmp it) false/\o3.dst=some p/\o3.guard=none)(h4:o4.op= .extract (.tmp p) 0/\o4.dst=some q/\o4.guard=none)(h5:o5.op= .entry (.tmp it)/\o5.dst=some d/\o5.guard=none)(hu:K.P.underlying mt=some (.map kt vt))(hx:bq a X= .map (some m))(hxit:it<K.n/\p<K.n/\q<K.n/\it≠p/\it≠q/\p≠q)(hm:at_ H m= .map es)(hpl: ∀(i:Nat) (k v:Value),es[i]? =some (k,v)->plain k=true)(I:List Nat->Env->AH->Prop)(h0:I [] (aB K.n a (some it) (.pointer (some ⟨H.length,0,none⟩))) (H++[.dead]))(keep: ∀s a' H',I s a' H'->at_ H' m= .map es/\ae a' it= .pointer (some ⟨H.length,0,none⟩))(stop: ∀s a' H',I s a' H'->(∀i,i<es.length->i∈s)->Q .normal (aB K.n (aB K.n a' (some p) (.tuple #[.bool false])) (some q) (.bool false)) H')(round: ∀s a' H' (i:Nat) (k v:Value),I s a' H'->i∉s->es[i]? =some (k,v)-> ∀σ w,HR σ H' w-> ∀K':Cx,K'=⟨K.P,K.n,K.D,σ,H',w⟩->Wl K' (o5::ops3).toArray ops3 (AX.then (W K' rest (AX.inBlock i2 (AX.then (fun a'' H''=>I (i::s) a'' H'') (AX.inBlock i1 Q)))) (AX.inBlock i2 (AX.then (fun a'' H''=>I (i::s) a'' H'') (AX.inBlock i1 Q))))
  (aB K.n (aB K.n (aB K.n a' (some p) (.tuple #[.bool true,k,v])) (some q) (.bool true)) (some d) (.tuple #[k,v])) H'):
 W K (.seq (.region r1 ops false) (.block i1 (.loop (.seq (.region r2 #[o3,o4] false) (.seq (.cond (.tmp q) .skip (.exit i1)) (.block i2 (.seq (.region r3 (o5::ops3).toArray false) rest))))))) Q a0 H0:=by
 obtain⟨h2a,h2b,h2c⟩:=h2
 obtain⟨h3a,h3b,h3c⟩:=h3
 obtain⟨h4a,h4b,h4c⟩:=h4
 obtain⟨h5a,h5b,h5c⟩:=h5
 obtain⟨hitn,hpn,hqn,hip,hiq,hpq⟩:=hxit
 intro σ₀ act₀ w₀ hi₀
 refine wp_seq (wp_region_list (hpre _ ?_ σ₀ act₀ w₀ hi₀))
 clear hi₀ hpre
 intro σ act w hi
 have hv:=hi.ar.eval X
 rw[hx]at hv
 have hpt: ∀(ac:Act) (t:Tmp) (v:Value),ac.tmps.size=K.n->t<K.n->(ac.put (some t) v).eval (.tmp t)=v:=by
  intro ac t v hs ht
  simp[Act.put,Act.eval,hs,ht]
 have hpe: ∀(ac:Act) (t:Tmp) (v:Value),(ac.put (some t) v).tmps.size=ac.tmps.size:=by intro ac t v;simp[Act.put]
 generalize hvx:act.eval X=vX at hv
 cases hv with
 |map hσ=>
 rename_i mb sz
 have hom:=hi.hr.obj m _ hσ
 rw[hm]at hom
 obtain⟨_,ents,hmb,hes,hent⟩:=hom
 refine wpList_step fun k2 hk2=> ?_
 rw[if_pos (by unfold Region.wanted;rw[h2c])]
 unfold Oper.wp
 have hrun:(execOp act.eval o2).run K.P w=
  .ok (.value (.pointer (some ⟨w.heap.size,0,none⟩))) (w.alloc (.mapIter (some mb) es.length #[] es.length)):=by
  rw[execOp,h2a]
  simp only[hvx]
  have:w.heap[mb]? =some (.map ents ents.size):=hmb
  simp[Instr.range,Go.underlying,Go.program,hu,getObj,newObj,Sem.run,this,hes]
 rw[hrun]
 refine hk2 _ _ (wpList_nil ?_)
 rw[h2b]
 show(Code.block i1 _).wp K.P _ _ _
 have hb:w.heap.size<=w.heap.size:=EJ _
 obtain⟨hrA,hxA⟩:=hi.hr.alloc .dead (.mapIter (some mb) es.length #[] es.length) 1 trivial
 have hlt:=(hi.hr.dom m _ hσ).1
 have hmblt:=(hi.hr.dom m _ hσ).2
 have hsub:=hxA.sub
 have hin:In K (aB K.n a (some it) (.pointer (some ⟨H.length,0,none⟩))) (H++[.dead]) (upd σ H.length (w.heap.size,0,1))
  (act.put (some it) (.pointer (some ⟨w.heap.size,0,none⟩))) (w.alloc (.mapIter (some mb) es.length #[] es.length)):=⟨hrA,(hi.ar.mono hsub).put (some it) (VR.ptr (o:=0) (dI σ H.length (w.heap.size,0,1))),by rw[dq];exact hi.df,hi.ex.trans hxA⟩
 have hU:Under K m H.length es w.heap.size [] (aB K.n a (some it) (.pointer (some ⟨H.length,0,none⟩))) (H++[.dead]) (upd σ H.length (w.heap.size,0,1))
  (act.put (some it) (.pointer (some ⟨w.heap.size,0,none⟩))) (w.alloc (.mapIter (some mb) es.length #[] es.length)):=by
  refine⟨hin,dI _ _ _,hi.ex.size,fun n y hn hl=> ?_,by rw[ag hlt];exact hm,mb,sz,ents,#[],hsub _ _ hσ,?_,hes,by show(w.heap.push _)[w.heap.size]? =_;simp,by simp,fun i k v e q1 q2=> ?_⟩
  ·by_cases e:n=H.length
   ·subst e;rw[aL]at hl;cases hl
   ·rw[kC _ e]at hn
    have:=(hi.hr.dom n y hn).2
    omega
  ·have:w.heap[mb]? =some (.map ents ents.size):=hmb
   rw[GA w _ mb hmblt,this,hes]
  ·have:=hent i k v e q1 q2
   exact⟨this.1,this.2.1.mono hsub,this.2.2⟩
 generalize hbb:w.heap.size=b at hU
 clear hin hrA hxA hsub hrun hk2 hvx hmb hb
 refine wp_block (wp_loop (fun ac wd=> ∃s a' H' σ',I s a' H'/\Under K m H.length es b s a' H' σ' ac wd) (fun _ wd=>lK b wd) ⟨[],_,_,_,h0,hU⟩ ?_)
 clear hU
 intro ac wd ⟨s,a',H',σ',hI,Uu⟩
 obtain⟨hin,hnm,hold,hdark,hmap,mb',sz',ents',seen,q1,q2,q3,q4,q5,q6⟩:=Uu
 have hkp:=keep s a' H' hI
 have hborn:=BW q3 q6
 have hevit:ac.eval (.tmp it)= .pointer (some ⟨b,0,none⟩):=by
  have:=hin.ar.eval (.tmp it)
  rw[show bq a' (.tmp it)= .pointer (some ⟨H.length,0,none⟩)from hkp.2]at this
  generalize ac.eval (.tmp it)=y at this
  cases this with
  |ptr h=>rw[hnm]at h;cases h;rfl
 have hleft:lK b wd=(leftOf ents' seen).size:=by simp[lK,q4,q2]
 refine wp_seq (wp_region_list ?_)
 refine wpList_step fun k3 hk3=> ?_
 rw[if_pos (by unfold Region.wanted;rw[h3c])]
 unfold Oper.wp
 have hrun:(execOp ac.eval o3).run K.P wd=((Instr.next (.pointer (some ⟨b,0,none⟩)) false o3.type).run K.P wd).andThen fun v w=> .ok (.value v) w:=by
  rw[execOp,h3a]
  simp only[hevit,ED]
  rfl
 rw[hrun]
 rcases run_next_at (P:=K.P) wd o3.type b mb' es.length es.length seen ents' es.length q4 q2 (fun x hx=>by
  obtain⟨i,hi',rfl⟩:=FF hx
  simp at hi'⊢
  rw[hborn i hi'];omega) (EJ _)with ⟨hz,hn⟩|⟨e,he,w1,hw1,hn⟩
 ·
  rw[hn]
  refine hk3 _ _ ?_
  rw[h3b]
  have hin1:=hin.ofQuiet (some p) (v:= .tuple #[.bool false]) (v':= .tuple #[.bool false]) (.tuple rfl fun i v v' e1 e2=>by
   rw[e1]at e2;cases e2
   match i with
   | 0=>simp at e1;subst e1;exact .bool false
   |i+1=>simp at e1)
  refine wpList_step fun k4 hk4=> ?_
  rw[if_pos (by unfold Region.wanted;rw[h4c])]
  unfold Oper.wp
  rw[show(execOp (ac.put (some p) (.tuple #[.bool false])).eval o4).run K.P wd= .ok (.value (.bool false)) wd by
   rw[execOp,h4a]
   simp only[hpt ac p _ hin.ar.len hpn]
   simp[Instr.extract,Sem.run]]
  refine hk4 _ _ (wpList_nil ?_)
  rw[h4b]
  have hin2:=hin1.ofQuiet (some q) (.bool false)
  refine wp_seq (wp_cond (hpt _ q _ (by rw[hpe];exact hin.ar.len) hqn) ?_)
  rw[if_neg (by simp)]
  refine wp_exit ?_
  simp only[Exit.then,Exit.inBlock,if_true]
  refine⟨.normal,_,_,_,stop s a' H' hI fun i hi'=> ?_,trivial,hin2⟩
  have:=all_seen ents' seen hz (ents'[i]'(by omega)) (by simp)
  rw[hborn i (by omega)]at this
  exact(q5 i hi').1 this
 ·
  obtain⟨hmem,hns⟩:=mem_left he
  obtain⟨i,hi',hei⟩:=FF hmem
  have hi'':i<ents'.size:=by simpa using hi'
  have hei:ents'[i]=e:=by simpa using hei
  have hil:i<es.length:=by omega
  have hbi:e.born=i:=by rw[<-hei];exact hborn i hi''
  have hes':es[i]? =some ((es[i]'hil).1,(es[i]'hil).2):=Ex hil
  generalize (es[i]'hil).1=k at hes'
  generalize (es[i]'hil).2=v at hes'
  obtain⟨hek,hev,_⟩:=q6 i k v e hes' (by rw[EQ hi'',hei])
  rw[hn]
  refine hk3 _ _ ?_
  rw[h3b]
  have hblt:b<wd.heap.size:=(Fh.1 q4).1
  have hw1':w1.heap=wd.heap/\w1.os=wd.os/\w1.tape=wd.tape/\w1.output=wd.output:=by
   rcases hw1 with rfl|rfl<;>exact⟨rfl,rfl,rfl,rfl⟩
  have hmbne:mb'≠b:=fun e=>by rw[e,q4]at q2;cases q2
  generalize hw2:setBlock w1 b (.mapIter (some mb') es.length (seen.push e.born) es.length)=w2
  have hw2b:w2.heap[b]? =some (.mapIter (some mb') es.length (seen.push e.born) es.length):=by
   rw[<-hw2];simp[setBlock,hw1'.1,hblt]
  have hw2o: ∀c,c≠b->w2.heap[c]? =wd.heap[c]? :=by
   intro c hc;rw[<-hw2];simp[setBlock,hw1'.1,FC,Fg hc]
  have hw2s:w2.heap.size=wd.heap.size:=by rw[<-hw2];simp[setBlock,hw1'.1]
  have hin0:In K a' H' σ' ac w2:=hin.dark hold hdark hw2s (by rw[<-hw2];exact hw1'.2.1) (by rw[<-hw2];exact hw1'.2.2.1) (by rw[<-hw2];exact hw1'.2.2.2) hw2o
  have hpv:VR σ' (.tuple #[.bool true,k,v]) (.tuple #[.bool true,e.key,e.val]):= .tuple rfl fun j v1 v2 e1 e2=>by
   match j with
   | 0=>simp at e1 e2;subst e1;subst e2;exact .bool true
   | 1=>simp at e1 e2;subst e1;subst e2;rw[hek];exact cT _ (hpl i k v hes')
   | 2=>simp at e1 e2;subst e1;subst e2;exact hev
   |j+3=>simp at e1
  have hin1:=hin0.ofQuiet (some p) hpv
  refine wpList_step fun k4 hk4=> ?_
  rw[if_pos (by unfold Region.wanted;rw[h4c])]
  unfold Oper.wp
  rw[show(execOp (ac.put (some p) (.tuple #[.bool true,e.key,e.val])).eval o4).run K.P w2= .ok (.value (.bool true)) w2 by
   rw[execOp,h4a]
   simp only[hpt ac p _ hin.ar.len hpn]
   simp[Instr.extract,Sem.run]]
  refine hk4 _ _ (wpList_nil ?_)
  rw[h4b]
  have hin2:=hin1.ofQuiet (some q) (.bool true)
  refine wp_seq (wp_cond (hpt _ q _ (by rw[hpe];exact hin.ar.len) hqn) ?_)
  rw[if_pos rfl]
  refine wp_skip ?_
  refine wp_block (wp_seq (wp_region_list ?_))
  rw[show(o5::ops3).toArray.toList=o5::ops3 from rfl]
  refine wpList_step fun k5 hk5=> ?_
  rw[if_pos (by unfold Region.wanted;rw[h5c])]
  have hevit2:(((ac.put (some p) (.tuple #[.bool true,e.key,e.val])).put (some q) (.bool true))).eval (.tmp it)= .pointer (some ⟨b,0,none⟩):=by
   rw[<-hevit]
   simp[Act.put,Act.eval,FC,Fg hip,Fg hiq,EZ]
  unfold Oper.wp
  have hnodup:(ents'.toList.map (·.born)).Nodup:=by
   have:ents'.toList.map (·.born)=List.range ents'.size:=by
    apply Gx
    ·simp
    ·intro j h1 h2
     simp at h1 h2⊢
     exact hborn j (by simpa using h1)
   rw[this]
   exact Gg
  have hw2m:w2.heap[mb']? =some (.map ents' es.length):=by rw[hw2o mb' hmbne];exact q2
  rw[show(execOp ((ac.put (some p) (.tuple #[.bool true,e.key,e.val])).put (some q) (.bool true)).eval o5).run K.P w2= .ok (.value (.tuple #[e.key,e.val])) w2 by
   rw[execOp,h5a]
   simp only[hevit2,ED]
   rw[run_entry_at (P:=K.P) w2 b mb' es.length seen ents' es.length e hw2b hw2m hmem hnodup]
   rfl]
  refine hk5 _ _ ?_
  rw[h5b]
  have hdv:VR σ' (.tuple #[k,v]) (.tuple #[e.key,e.val]):= .tuple rfl fun j v1 v2 e1 e2=>by
   match j with
   | 0=>simp at e1 e2;subst e1;subst e2;rw[hek];exact cT _ (hpl i k v hes')
   | 1=>simp at e1 e2;subst e1;subst e2;exact hev
   |j+2=>simp at e1
  have hin3:=hin2.ofQuiet (some d) hdv
  have hnots:i∉s:=by
   intro hc
   have:=(q5 i hil).2 hc
   rw[<-hbi,hns]at this
   cases this
  have hR:=round s a' H' i k v hI hnots hes' σ' w2 hin0.hr ⟨K.P,K.n,K.D,σ',H',w2⟩ rfl σ' _ w2 ⟨hin3.hr,hin3.ar,hin3.df,Ext.refl _ _ _⟩
  refine mU ?_ _ _ _ hR
  clear hR hk3 hk4 hk5
  have lift: ∀{a'':Env} {H'':AH} {σ'':Ren} {ac'':Act} {w'':World},In ⟨K.P,K.n,K.D,σ',H',w2⟩ a'' H'' σ'' ac'' w''->In K a'' H'' σ'' ac'' w'':=by
   intro a'' H'' σ'' ac'' w'' hh
   exact⟨hh.hr,hh.ar,hh.df,hin3.ex.trans hh.ex⟩
  have last: ∀e ac'' w'',qR ⟨K.P,K.n,K.D,σ',H',w2⟩ (AX.inBlock i2 (AX.then (fun a'' H''=>I (i::s) a'' H'') (AX.inBlock i1 Q))) e ac'' w''->Exit.inBlock i2 (Exit.then (fun ac wd'=>(∃s a' H' σ',I s a' H'/\Under K m H.length es b s a' H' σ' ac wd')/\lK b wd'<lK b wd) (Exit.inBlock i1 (qR K Q))) e ac'' w'':=by
   intro ex ac'' w'' ⟨x,a'',H'',σ'',hq,hx,hi3⟩
   have hnext:I (i::s) a'' H''->(∃s a' H' σ',I s a' H'/\Under K m H.length es b s a' H' σ' ac'' w'')/\lK b w''<lK b wd:=by
    intro hI'
    have hfb:w''.heap[b]? =some (.mapIter (some mb') es.length (seen.push e.born) es.length):=by
     rw[hi3.ex.frame b (by show b<w2.heap.size;omega) (fun n y hn hl=>hdark n y hn (by cases ha:at_ H' n<;>rw[ha]at hl<;>first|rfl|cases hl)),hw2b]
    have hmm:=(keep _ _ _ hI').1
    have hσm:σ'' m=some (mb',0,sz'):=hi3.ex.sub _ _ q1
    have hom':=hi3.hr.obj m _ hσm
    rw[hmm]at hom'
    obtain⟨_,ents'',z1,z2,z3⟩:=hom'
    have hdark'': ∀n y,σ'' n=some y->(at_ H'' n).live=true->y.1≠b:=by
     intro n y hn hl hyb
     obtain⟨n',y',c1,c2,c3⟩:=hi3.ex.lvm n y hn hl (by show y.1<w2.heap.size;omega)
     exact hdark n' y' c1 c2 (by omega)
    refine⟨⟨i::s,a'',H'',σ'',hI',lift hi3,hi3.ex.sub _ _ hnm,hold,hdark'',hmm,mb',sz',ents'',seen.push e.born,hσm,?_,z2,hfb,?_,z3⟩,?_⟩
    ·rw[<-z2];exact z1
    ·intro j hj
     simp only[Array.contains_push,E8,beq_iff_eq,EG]
     rw[q5 j hj,hbi]
     exact⟨fun h=>h.symm,fun h=>h.symm⟩
    ·rw[hleft]
     have hz:lK b w''=(leftOf ents'' (seen.push e.born)).size:=by
      simp only[lK,hfb]
      have:w''.heap[mb']? =some (.map ents'' ents''.size):=z1
      rw[this]
     rw[hz]
     have hbn:=BW z2 z3
     have hle: ∀(x y:Array MapEntry) (sn:Array Nat),x.size=y.size->(∀i (hi:i<x.size),x[i].born=i)->(∀i (hi:i<y.size),y[i].born=i)->(leftOf x sn).size=(leftOf y sn).size:=by
      intro x y sn hxy hx hy
      have hg: ∀z:Array MapEntry,(∀i (hi:i<z.size),z[i].born=i)->(leftOf z sn).size=((List.range z.size).filter fun i=> !sn.contains i).length:=by
       intro z hz
       unfold leftOf
       rw[<-Array.length_toList,Array.toList_filter]
       have:z.toList.map (·.born)=List.range z.size:=by
        apply Gx
        ·simp
        ·intro j h1 h2
         simp at h1 h2⊢
         exact hz j (by simpa using h1)
       rw[<-this,List.filter_map,Fl]
       rfl
      rw[hg x hx,hg y hy,hxy]
     rw[hle ents'' ents' _ (by omega) hbn hborn]
     exact left_shrinks ents' seen e he
   cases x<;>cases ex<;>first|exact hx.elim|skip
   ·exact hnext hq
   ·rename_i j1 j2
    have hx:j1=j2:=hx
    subst hx
    simp only[AX.inBlock]at hq
    simp only[Exit.inBlock]
    by_cases hj:j1=i2
    ·rw[if_pos hj]at hq⊢
     exact hnext hq
    ·rw[if_neg hj]at hq⊢
     simp only[AX.then,AX.inBlock]at hq
     simp only[Exit.then,Exit.inBlock]
     by_cases hj':j1=i1
     ·rw[if_pos hj']at hq⊢
      exact⟨.normal,_,_,_,hq,trivial,lift hi3⟩
     ·rw[if_neg hj']at hq⊢
      exact⟨.exit j1,_,_,_,hq,rfl,lift hi3⟩
   ·exact⟨.ret,_,_,_,hq,trivial,lift hi3⟩
   ·exact⟨.panic _,_,_,_,hq,hx,lift hi3⟩
  intro ex ac'' w'' ⟨x,a'',H'',σ'',hq,hx,hi3⟩
  cases x<;>cases ex<;>first|exact hx.elim|skip
  ·exact wp_mono (hq σ'' ac'' w'' hi3) last
  ·exact last _ _ _ ⟨.exit _,_,_,_,hq,hx,hi3⟩
  ·exact last _ _ _ ⟨.ret,_,_,_,hq,hx,hi3⟩
  ·exact last _ _ _ ⟨.panic _,_,_,_,hq,hx,hi3⟩
theorem W.Er{K:Cx}{Q:AX->Env->AH->Prop}{a:Env}{H:AH}{r1 r2 r3 i1 i2:Nat}{o1 o2 o3 o4 o5:Oper}{ops3:List Oper}{rest:Code}{X:Operand}{x it p q d:Tmp}{mt kt vt:TypeId}{m:Nat}{es:List (Value×Value)}(h1:o1.op= .move X/\o1.dst=some x/\o1.guard=none)(h2:o2.op= .range mt (.tmp x)/\o2.dst=some it/\o2.guard=none)(h3:o3.op= .next (.tmp it) false/\o3.dst=some p/\o3.guard=none)(h4:o4.op= .extract (.tmp p) 0/\o4.dst=some q/\o4.guard=none)(h5:o5.op= .entry (.tmp it)/\o5.dst=some d/\o5.guard=none)(hu:K.P.underlying mt=some (.map kt vt))(hx:bq a X= .map (some m))(hxit:x<K.n/\it<K.n/\p<K.n/\q<K.n/\it≠p/\it≠q/\p≠q)(hm:at_ H m= .map es)(hpl: ∀(i:Nat) (k v:Value),es[i]? =some (k,v)->plain k=true)(I:List Nat->Env->AH->Prop)(h0:I [] (aB K.n (aB K.n a (some x) (.map (some m))) (some it) (.pointer (some ⟨H.length,0,none⟩))) (H++[.dead]))(keep: ∀s a' H',I s a' H'->at_ H' m= .map es/\ae a' it= .pointer (some ⟨H.length,0,none⟩))(stop: ∀s a' H',I s a' H'->(∀i,i<es.length->i∈s)->Q .normal (aB K.n (aB K.n a' (some p) (.tuple #[.bool false])) (some q) (.bool false)) H')(round: ∀s a' H' (i:Nat) (k v:Value),I s a' H'->i∉s->es[i]? =some (k,v)-> ∀σ w,HR σ H' w-> ∀K':Cx,K'=⟨K.P,K.n,K.D,σ,H',w⟩->Wl K' (o5::ops3).toArray ops3 (AX.then (W K' rest (AX.inBlock i2 (AX.then (fun a'' H''=>I (i::s) a'' H'') (AX.inBlock i1 Q)))) (AX.inBlock i2 (AX.then (fun a'' H''=>I (i::s) a'' H'') (AX.inBlock i1 Q))))
  (aB K.n (aB K.n (aB K.n a' (some p) (.tuple #[.bool true,k,v])) (some q) (.bool true)) (some d) (.tuple #[k,v])) H'):
 W K (.seq (.region r1 #[o1,o2] false) (.block i1 (.loop (.seq (.region r2 #[o3,o4] false) (.seq (.cond (.tmp q) .skip (.exit i1)) (.block i2 (.seq (.region r3 (o5::ops3).toArray false) rest))))))) Q a H:=by
 obtain⟨h1a,h1b,h1c⟩:=h1
 refine W.Ea (ops:= #[o1,o2]) (a:=aB K.n a (some x) (.map (some m))) (H:=H) (fun Qx hq σ act w hi=> ?_) h2 h3 h4 h5 hu ?_ hxit.2 hm hpl I h0 keep stop round
 ·have hv:=hi.ar.eval X
  rw[hx]at hv
  show wpList K.P _ Qx [o1,o2] act w
  refine wpList_step fun k1 hk1=> ?_
  rw[if_pos (by unfold Region.wanted;rw[h1c])]
  unfold Oper.wp
  rw[show(execOp act.eval o1).run K.P w= .ok (.value (act.eval X)) w by rw[execOp,h1a];rfl]
  refine hk1 _ _ ?_
  rw[h1b]
  exact hq _ _ _ (hi.ofQuiet (some x) hv)
 show ae (aB K.n a (some x) (.map (some m))) x=_
 simp only[aB,if_pos hxit.1,ae,if_true]
end Go.Ev
namespace Go.Ev
section
variable {K:Cx}{Q:AX->Env->AH->Prop}{a:Env}{H:AH}{ops:Array Oper}{rest:List Oper}{o:Oper}
theorem Wl.raw{v:Value}(hw:aJ ops a o=some true)(hs: ∀σ act w,In K a H σ act w-> ∃v',(execOp act.eval o).run K.P w= .ok (.value v') w/\VR σ v v')(h:Wl K ops rest Q (aB K.n a o.dst v) H):Wl K ops (o::rest) Q a H:=by
 intro σ act w hi
 obtain⟨v',h1,h2⟩:=hs σ act w hi
 refine wpList_step fun k hk=> ?_
 rw[if_pos (cu hi.ar hw)]
 unfold Oper.wp
 rw[h1]
 exact hk _ _ (h σ _ w (hi.ofQuiet o.dst h2))
end
def DefC(P:Program)(g:FuncId)(n:Nat)(H:AH)(u:FrameMode)(H':AH):Prop:= ∀(σ:Ren) (w:World) (b o s:Nat),σ n=some (b,o,s)->HR σ H w->CallsD P g #[.pointer (some ⟨b,o,none⟩)] u w fun e u' w'=>(∃v,e= .returned v)/\settle u'= .returning/\ ∃σ',HR σ' H' w'/\Ext σ H w σ' H' w'
def Rigid(v:Value):Prop:= ∀(σ:Ren) (v':Value),VR σ v v'->v'=v
def tA(P:Program)(fn:Func)(g:FuncId)(n:Nat)(H:AH)(r:OpR):AX->Env->AH->Prop
 | .normal,a,H'| .ret,a,H'=> ∃H2,DefC P g n H' .returning H2/\Ends P fn H r .ret a H2
 | .panic v,a,H'=>Rigid v/\ ∃H2,DefC P g n H' (.panicking [{v:=v,recovered:=false}]) H2/\Ends P fn H r .ret a H2
 |_,_,_=>False
theorem AC.Ec{P:Program}{f g:FuncId}{fn:Func}{c0 rest:Code}{args:List Value}{H:AH}{r:OpR}{N id n:Nat}{o:Oper}{t:Tmp}{ts:Array TypeId}(hf:P.funcs[f]? =some fn)(hb:fn.body=some (.seq c0 (.seq (.region id #[o] false) rest)))(hN:fn.ntmps=N)(hn:args.length<=N)(ho:o.op= .defer ⟨.value (.func g),#[.tmp t],ts⟩)(hd:o.dst=none)(hg:o.guard=none)(hgo:aO P g)(h: ∀σ w,HR σ H w->W ⟨P,N,[],σ,H,w⟩ c0 (fun x a' H'=>x= .normal/\bq a' (.tmp t)= .pointer (some ⟨n,0,none⟩)/\ ∀D σ' w',HR σ' H' w'->W ⟨P,N,D,σ',H',w'⟩ rest (tA P fn g n H r) a' H') (dD 0 args) H):AC P f args H r:=by
 subst hN
 intro σ w args' ha hr
 refine calls_of_wp_defers hf hb ?_
 refine wp_seq (wp_mono (h σ w hr σ _ w ⟨hr,kS ha hn,rfl,Ext.refl _ _ _⟩) fun e act' w' hp=> ?_)
 obtain⟨x,a',H',σ',⟨rfl,hp,hrest⟩,hx,hi⟩:=hp
 cases e<;>first|exact hx.elim|skip
 show(Code.seq _ _).wp _ _ _ _
 have hv:=hi.ar.eval (.tmp t)
 rw[hp]at hv
 generalize hpv:act'.eval (.tmp t)=pv at hv
 cases hv with
 |ptr hσ=>
 rename_i b off s
 refine wp_seq (wp_region_list (wpList_step fun k hk=> ?_))
 rw[if_pos (by unfold Region.wanted;rw[hg])]
 unfold Oper.wp
 have hrun:(execOp act'.eval o).run P w'= .ok (.defer {target:= .fn (.func g) #[],args:= #[.pointer (some ⟨b,off+0,none⟩)]}) w':=by
  rw[execOp,ho]
  simp only[resolve,Deferred.ofValue,Act.eval,ED]
  simp only[Act.eval]at hpv
  simp[hpv,Act.eval]
 rw[hrun]
 refine hk _ _ (wpList_nil ?_)
 rw[hd]
 show rest.wp P _ _ w'
 have hdf:act'.defers=[]:=hi.df
 have hW:=hrest [{target:= .fn (.func g) #[],args:= #[.pointer (some ⟨b,off+0,none⟩)]}] σ' w' hi.hr σ' (({act' with defers:={target:= .fn (.func g) #[],args:= #[.pointer (some ⟨b,off+0,none⟩)]}::act'.defers}:Act).put none undef) w'
  ⟨hi.hr,⟨hi.ar.len,hi.ar.get⟩,by rw[dq,hdf],Ext.refl _ _ _⟩
 refine wp_mono hW fun e act2 w2 hp2=> ?_
 obtain⟨x,a2,H2,σ2,q,hx2,hi2⟩:=hp2
 have hdf2:act2.defers=[{target:= .fn (.func g) #[],args:= #[.pointer (some ⟨b,off+0,none⟩)]}]:=hi2.df
 have hinv: ∀w,(invoke (.fn (.func g) #[]) #[.pointer (some ⟨b,off+0,none⟩)]).run P w= .ok (.enter g #[.pointer (some ⟨b,off+0,none⟩)]) w:=by
  obtain⟨gn,b1,b2,b3⟩:=hgo
  intro w
  simp only[invoke,callFunc,ED,run_program,Result.andThen_ok,b1]
  simp only[b3,b2,EO,if_false,Sem.run_pure]
  rfl
 have hσ2:σ2 n=some (b,off,s):=hi2.ex.sub _ _ hσ
 have fin: ∀u H3,u≠ .run->DefC P g n H2 u H3->Ends P fn H r .ret a2 H3->Leaves P fn act2.tmps (fun e w'=> ∃σ',EndR σ' r e/\HR σ' r.heap w'/\Ext σ H w σ' r.heap w') act2.defers u w2:=by
  intro u H3 hu hc he
  rw[hdf2]
  refine leaves_cons hu (hinv w2) ((hc σ2 w2 b off s hσ2 hi2.hr).mono ?_)
  rintro e u' w3 ⟨⟨v,rfl⟩,hu',σ3,hr3,hx3⟩
  simp only[hu']
  obtain⟨v,Hr,G,h1,h2,h3,h4,h5,h6⟩:=he
  subst h2;subst h3
  have har:AR σ3 fn.ntmps a2 act2:=hi2.ar.mono hx3.sub
  obtain⟨v',g1,g2⟩:=mO (P:=P) hr3 har h1
  obtain⟨d1,d2⟩:=xI hr hr3 ((hi.ex.trans hi2.ex).trans hx3) h4 h6
  exact⟨v',g1,_,h5 _ _ g2,d1,d2⟩
 cases x<;>cases e<;>first|exact hx2.elim|skip
 ·obtain⟨H3,hc,he⟩:=q
  exact fin _ H3 (by simp) hc he
 ·exact q.elim
 ·obtain⟨H3,hc,he⟩:=q
  exact fin _ H3 (by simp) hc he
 ·obtain⟨hrig,H3,hc,he⟩:=q
  obtain⟨v',rfl,g2⟩:=hx2
  have:=hrig _ _ g2
  subst this
  exact fin _ H3 (by simp) hc he
theorem pO(H:AH)(n m:Nat):at_ (H.set n .dead) m=if n=m then .dead else at_ H m:=by
 by_cases e:n=m
 ·subst e
  rw[if_pos rfl]
  unfold at_
  rw[Ff]
  simp only[if_true]
  split<;>rfl
 ·rw[if_neg e];exact af e _
theorem In.kill{K:Cx}{a:Env}{H:AH}{σ:Ren}{act:Act}{w:World}(h:In K a H σ act w)(n:Nat):In K a (H.set n .dead) σ act w:=by
 have hrw: ∀m,(at_ (H.set n .dead) m).rw=true->(at_ H m).rw=true:=by
  intro m hm;rw[pO]at hm;split at hm
  ·cases hm
  ·exact hm
 have hlv: ∀m,(at_ (H.set n .dead) m).live=true->(at_ H m).live=true:=by
  intro m hm;rw[pO]at hm;split at hm
  ·cases hm
  ·exact hm
 have ex:=h.ex
 refine⟨⟨fun m x hx=>by have:=h.hr.dom m x hx;rw[EA];exact this,fun m x hx=> ?_,fun m k x y hx hy hne hm hk=>h.hr.inj m k x y hx hy hne (hrw m hm) (hlv k hk)⟩,h.ar,h.df,⟨ex.sub,ex.new,by rw[EA];exact ex.len,ex.size,ex.os,ex.tape,ex.output,ex.frame,fun m x hx hr hl=>ex.rwm m x hx (hrw m hr) hl,fun m x hx hr hl=>ex.lvm m x hx (hlv m hr) hl⟩⟩
 rw[pO];split
 ·trivial
 ·exact h.hr.obj m x hx
theorem W.kill{K:Cx}{c:Code}{Q:AX->Env->AH->Prop}{a:Env}{H:AH}(n:Nat)(h:W K c Q a (H.set n .dead)):W K c Q a H:=fun σ act w hi=>h σ act w (hi.kill n)
theorem X.kill{k:Xc'}{c:Code}{Q:AX->Env->AH->Prop}{a:Env}{H:AH}(n:Nat)(h:X k c Q a (H.set n .dead)):X k c Q a H:=by
 obtain⟨x,a',H',q,hw⟩:=h
 exact⟨x,a',H',q,fun D σ w hr Q' hq=>W.kill n (hw D σ w hr Q' hq)⟩
end Go.Ev
