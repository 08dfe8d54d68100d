import Derived.Test.YtjcomcgpjjianaaA1
set_option linter.all false
set_option maxHeartbeats 16000000
set_option maxRecDepth 8000
open Go.Value renaming int→O
open Go.IntKind renaming i64→U
namespace Go.Ev
def iz(v:Value):Bool:=match v with
 | .bool _| .int _ _| .string _| .pointer none| .slice none 0 0| .map none| .nilFunc| .nilIface=>true
 |_=>false
def plain(v:Value):Bool:=match v with| .agg cs=>cs.toList.all iz|v=>iz v
theorem ru(σ:Ren){v:Value}(h:iz v=true):VR σ v v:=by
 unfold iz at h
 split at h<;>first|exact .bool _|exact .int _ _|exact .string _|exact .ptrNil|exact .slNil|exact .mapNil|exact .nilFunc|exact .nilIface|cases h
theorem Rs.plain(σ:Ren){l:List Value}(h:l.all iz=true):Rs σ l l:=by
 refine⟨rfl,fun i v v' a b=> ?_⟩
 rw[a]at b;cases b
 exact ru σ (EI.1 h v (EE a))
theorem cT(σ:Ren){v:Value}(h:plain v=true):VR σ v v:=by
 unfold Ev.plain at h
 split at h
 ·rename_i cs
  have:=(Rs.plain σ h).agg
  simpa using this
 ·exact ru σ h
theorem rN{v:Value}(h:plain v=true):v.cells.toList.all iz=true:=by
 unfold Ev.plain at h
 split at h
 ·simpa[Value.cells]using h
 ·rename_i hv
  cases v<;>simp_all [Value.cells]
def gN(P:Program)(H:AH)(e:TypeId):Option (Value×AH):=(cw P e).bind fun z=>if plain z=true then lZ H e z else none
theorem Af{P:Program}{σ:Ren}{H H':AH}{w:World}(hr:HR σ H w){e:TypeId}{r:Value}(h:gN P H e=some (r,H')):
 ∃r' w' σ',(Instr.alloc e true (.tuple #[])).run P w= .ok r' w'/\VR σ' r r'/\HR σ' H' w'/\Ext σ H w σ' H' w':=by
 unfold gN at h
 simp only[EN]at h
 obtain⟨z,hz,h⟩:=h
 split at h
 ·rename_i hp
  obtain⟨r',w',σ',h1,h2,h3,h4⟩:=yA (P:=P) hr (cT σ hp) h
  refine⟨r',w',σ',?_,h2,h3,h4⟩
  rw[<-h1]
  simp[Instr.alloc,Instr.box,mB hz]
 ·cases h
theorem VR.cellsSize{σ:Ren}{v v':Value}(h:VR σ v v')(ha:(Ev.acells v).isSome=true):v'.cells.size=v.cells.size:=by
 cases h with
 |agg hc hc'=>simpa[Value.cells]using hc.symm
 |junk=>simp[Ev.acells]at ha
 |tuple=>simp[Ev.acells]at ha
 |_=>rfl
theorem VR.cellsRs{σ:Ren}{v v':Value}(h:VR σ v v')(ha:(Ev.acells v).isSome=true):Rs σ v.cells.toList v'.cells.toList:=by
 obtain⟨l,hl⟩:=F6.1 ha
 have:l=v.cells.toList:=by
  unfold Ev.acells at hl
  split at hl<;>first| (cases hl;rfl)|skip
  ·cases hl
  ·cases hl
  ·rename_i v hv1 hv2 hv3;cases hl;cases v<;>simp_all [Value.cells]
 subst this
 exact h.acells hl
theorem fold_ok{σ:Ren}(off:Nat): ∀(l l':List Value) (k:Nat) (c c':Array Value),Rs σ l l'->Rs σ c.toList c'.toList->Rs σ ((l.zipIdx k).foldl (fun cs (x:Value×Nat)=>cs.setIfInBounds (off+x.2) x.1) c).toList ((l'.zipIdx k).foldl (fun cs (x:Value×Nat)=>cs.setIfInBounds (off+x.2) x.1) c').toList:=by
 intro l
 induction l with
 |nil=>
  intro l' k c c' hl hc
  have:l'=[]:=by have:=hl.1;simp at this;exact FQ this.symm
  subst this;simpa using hc
 |cons v l ih=>
  intro l' k c c' hl hc
  cases l' with
  |nil=>have:=hl.1;simp at this
  |cons v' l'=>
   simp only[List.zipIdx_cons,List.foldl_cons]
   refine ih l' (k+1) _ _ ⟨by have:=hl.1;simpa using this,fun j u u' a b=>hl.2 (j+1) u u' (by simpa using a) (by simpa using b)⟩ ?_
   rw[Array.toList_setIfInBounds,Array.toList_setIfInBounds]
   exact hc.set _ (hl.2 0 v v' rfl rfl)
theorem fold_ok'{σ:Ren}(off:Nat)(v v':Value)(hv:VR σ v v')(ha:(acells v).isSome=true)(c c':Array Value)(hc:Rs σ c.toList c'.toList):
 Rs σ (v.cells.zipIdx.foldl (fun cs (x:Value×Nat)=>cs.setIfInBounds (off+x.2) x.1) c).toList (v'.cells.zipIdx.foldl (fun cs (x:Value×Nat)=>cs.setIfInBounds (off+x.2) x.1) c').toList:=by
 have h:=fold_ok off v.cells.toList v'.cells.toList 0 c c' (hv.cellsRs ha) hc
 rw[<-GV,<-GV,He,He]
 exact h
def Ps(σ:Ren):List (Nat×Value)->List (Nat×Value)->Prop
 | [],[]=>True
 | (i,v)::l,(j,v')::l'=>i=j/\VR σ v v'/\Ps σ l l'
 |_,_=>False
theorem xS{σ:Ren}(place:Nat->Option (Nat×Nat)): ∀(ps ps':List (Nat×Value)) (c c' r:Array Value),Ps σ ps ps'->(ps.all fun x=>(acells x.2).isSome)=true->Rs σ c.toList c'.toList->Instr.fill place c ps=some r-> ∃r',Instr.fill place c' ps'=some r'/\Rs σ r.toList r'.toList:=by
 intro ps
 induction ps with
 |nil=>
  intro ps' c c' r hp ha hc h
  cases ps' with
  |nil=>simp only[Instr.fill,ER]at h;subst h;exact⟨c',rfl,hc⟩
  |cons x ps'=>exact hp.elim
 |cons x ps ih=>
  intro ps' c c' r hp ha hc h
  obtain⟨i,v⟩:=x
  cases ps' with
  |nil=>exact hp.elim
  |cons y ps'=>
   obtain⟨j,v'⟩:=y
   obtain⟨rfl,hv,hp⟩:=hp
   simp only[List.all_cons,EC]at ha
   unfold Instr.fill at h⊢
   cases hpl:place i with
   |none=>rw[hpl]at h;cases h
   |some p=>
    obtain⟨off,size⟩:=p
    rw[hpl]at h
    simp only at h⊢
    have hsz:=hv.cellsSize ha.1
    have hcs:c'.size=c.size:=by have:=hc.1;simpa using this.symm
    rw[hsz,hcs]
    split at h
    ·cases h
    ·rename_i hn
     rw[if_neg hn]
     exact ih ps' _ _ r hp ha.2 (fold_ok' off v v' hv ha.1 c c' hc) h
def bI(P:Program)(t:TypeId)(ps:List (Nat×Value)):Option Value:=match cw P t with
 |some z=>if plain z=true/\(ps.all fun x=>(acells x.2).isSome)=true then(P.built t ps).map .agg else none
 |none=>none
theorem z6{P:Program}{σ:Ren}{w:World}{t:TypeId}{ps ps':List (Nat×Value)}{v:Value}(hp:Ps σ ps ps')(h:bI P t ps=some v):
 ∃v',(Instr.build t ps'.toArray).run P w= .ok v' w/\VR σ v v':=by
 unfold bI at h
 split at h
 ·rename_i z hz
  split at h
  ·rename_i hc
   simp only[EB]at h
   obtain⟨r,hb,rfl⟩:=h
   suffices∃r',P.built t ps'=some r'/\Rs σ r.toList r'.toList by
    obtain⟨r',h1,h2⟩:=this
    refine⟨.agg r',run_build w t ps'.toArray r' (by simpa using h1),?_⟩
    have:=h2.agg;simpa using this
   unfold cw at hz
   simp only[EN]at hz
   obtain⟨it,hit,hz⟩:=hz
   have hzz:Rs σ z.cells.toList z.cells.toList:=Rs.plain σ (rN hc.1)
   unfold Program.built at hb⊢
   simp only[hit,hz]at hb⊢
   cases hu:P.underlying t with
   |none=>rw[hu]at hb;simp at hb
   |some d=>
    rw[hu]at hb
    cases d with
    |array n e=>
     cases hie:P.info? e with
     |none=>simp[hie]at hb
     |some ie=>simp only[hie,hz]at hb⊢;exact xS _ _ _ _ _ _ hp hc.2 hzz hb
    |struct fs=>
     cases hpl:fs.toList.mapM (fun f=>(P.info? f.type).map fun i=>(f.offset,i.size))with
     |none=>simp[hpl]at hb
     |some pl=>simp only[hpl,hz]at hb⊢;exact xS _ _ _ _ _ _ hp hc.2 hzz hb
    |_=>simp at hb
  ·cases h
 ·cases h
def aQ(P:Program)(H:AH)(t:TypeId)(len:Nat)(ps:List (Nat×Value)):Option (Value×AH):=match P.underlying t with
 |some (.slice e)=>
  if len=0/\ps=[]/\(bJ P e).isSome=true then some (.slice (some ⟨H.length,0,none⟩) 0 0,H++[.cells [] e])else
  match bJ P e,cw P e with
  |some size,some z=>
   if plain z=true/\(ps.all fun x=>(acells x.2).isSome)=true/\len*size<=16777216/\len*size≠0 then
    (Instr.fill (fun i=>some (i*size,size)) (madeCells z.cells (len*size)) ps).map fun c=>(.slice (some ⟨H.length,0,none⟩) len len,H++[.cells c.toList e])
   else none
  |_,_=>none
 |_=>none
theorem oV(σ:Ren){z:Value}(h:plain z=true)(n:Nat):Rs σ (madeCells z.cells n).toList (madeCells z.cells n).toList:=by
 refine⟨rfl,fun i v v' a b=> ?_⟩
 rw[a]at b;cases b
 have hp:=rN h
 simp only[madeCells,Ht,EM,EB]at a
 obtain⟨j,_,rfl⟩:=a
 by_cases hz:z.cells.size=0
 ·rw[getElem!_neg z.cells (j%z.cells.size) (by omega)]
  exact .bool _
 ·have hlt:j%z.cells.size<z.cells.size:=F7 _ (by omega)
  rw[getElem!_pos z.cells (j%z.cells.size) hlt]
  exact ru σ (EI.1 hp _ (by simp))
theorem sA{P:Program}{σ:Ren}{H H':AH}{w:World}(hr:HR σ H w){t:TypeId}{len:Nat}{ps ps':List (Nat×Value)}{v:Value}(hp:Ps σ ps ps')(h:aQ P H t len ps=some (v,H')):
 ∃v' w' σ',(Instr.buildSlice t len ps'.toArray).run P w= .ok v' w'/\VR σ' v v'/\HR σ' H' w'/\Ext σ H w σ' H' w':=by
 unfold aQ at h
 split at h
 ·rename_i e hu
  split at h
  ·rename_i hc
   obtain⟨rfl,rfl,hsz⟩:=hc
   obtain⟨size,hs⟩:=F6.1 hsz
   cases h
   have hps:ps'=[]:=by cases ps' with|nil=>rfl|cons x l=>exact hp.elim
   subst hps
   obtain⟨g1,g2⟩:=nI hr e (Rs.nil σ)
   refine⟨.slice (some ⟨w.heap.size,0,none⟩) 0 0,_,_,?_,?_,g1,g2⟩
   ·simp only[Instr.buildSlice,ED,bu hu,Result.andThen_ok,eb hs,Hu]
    have h0:(Array.range 0)= #[]:=rfl
    simp only[if_true,h0]
    rw[if_neg (by omega)]
    simp only[pure_bind,Array.map_empty,Instr.fill]
    rfl
   ·have:=VR.sl (σ:=upd σ H.length (w.heap.size,0,([]:List Value).length)) (i:=0) (len:=0) (c:=0) (c':=0) (dI _ _ _) ⟨EJ _,.inl ⟨by rw[mK];omega,rfl⟩⟩
    simpa using this
  split at h
  ·rename_i size z hs hz
   split at h
   ·rename_i hc
    obtain⟨h1,h2,h3,h4⟩:=hc
    simp only[EB,Fe]at h
    obtain⟨c,hf,rfl,rfl⟩:=h
    obtain⟨c',hf',hcc⟩:=xS _ _ _ _ _ _ hp h2 (oV σ h1 (len*size)) hf
    have hpos:0<size:=by
     rcases Nat.eq_zero_or_pos size with e|e
     ·subst e;simp at h4
     ·exact e
    have hlenu:len<unk:=by
     have:=Nat.le_mul_of_pos_right len hpos
     rw[mK];omega
    obtain⟨g1,g2⟩:=nI hr e hcc
    refine⟨.slice (some ⟨w.heap.size,0,none⟩) len len,_,_,?_,?_,g1,g2⟩
    ·have h3': ¬(len*size>2^24):=by omega
     simp only[Instr.buildSlice,ED,bu hu,Result.andThen_ok,eb hs,if_neg h3',if_neg h4,Sem.run_pure,mB hz]
     have:Instr.fill (fun i=>some (i*size,size)) ((Array.range (len*size)).map (z.cells[· %z.cells.size]!)) ps'=some c':=hf'
     rw[this]
     simp only[ED,Sem.run_pure,Array.toArray_toList]
     rfl
    ·have:=VR.sl (σ:=upd σ H.length (w.heap.size,0,c'.toList.length)) (i:=0) (len:=len) (c:=len) (c':=len) (dI _ _ _) ⟨EJ _,.inl ⟨hlenu,rfl⟩⟩
     simpa using this
   ·cases h
  ·cases h
 ·cases h
def dw(P:Program)(s:TypeId)(a:Value)(f:Nat):Option Value:=match P.underlying s,a with
 |some (.struct fs),.pointer (some ⟨n,i,none⟩)=>
  match fs[f]? with
  |some fd=>match bJ P fd.type with
   |some k=>if k=0 then none else some (.pointer (some ⟨n,i+fd.offset,none⟩))
   |none=>none
  |none=>none
 |_,_=>none
theorem th{P:Program}{σ:Ren}{w:World}{s:TypeId}{a a' v:Value}{f:Nat}(ha:VR σ a a')(h:dw P s a f=some v):
 ∃v',(Instr.fieldAt s a' f).run P w= .ok v' w/\VR σ v v':=by
 unfold dw at h
 split at h
 ·rename_i fs n i hu
  cases ha with
  |ptr hn=>
   rename_i b o s
   split at h
   ·rename_i fd hf
    split at h
    ·rename_i k hk
     split at h
     ·cases h
     ·rename_i h0
      cases h
      refine⟨.pointer (some ⟨b,o+(i+fd.offset),none⟩),?_,.ptr hn⟩
      simp only[Instr.fieldAt,Instr.sureAddr,fieldPlace,ED,Sem.run_pure,Result.andThen_ok,bu hu,hf,eb hk,if_neg h0]
      simp only[Sem.run_pure,Result.andThen_ok,eP,FJ]
    ·cases h
   ·cases h
 ·cases h
def cJ(P:Program)(t:TypeId)(x ix:Value):Option Value:=match ix with
 | .int _ j=>
   match P.underlying t,x with
   |some (.array len e),.pointer (some ⟨n,i,none⟩)=>if 0<=j/\j<len then(bJ P e).map fun k=> .pointer (some ⟨n,i+j.toNat*k,none⟩)else none
   |some (.slice e),.slice (some ⟨n,i,none⟩) len _=>if 0<=j/\j<len then(bJ P e).map fun k=> .pointer (some ⟨n,i+j.toNat*k,none⟩)else none
   |_,_=>none
 |_=>none
theorem uP{P:Program}{σ:Ren}{w:World}{t:TypeId}{x x' ix ix' v:Value}(hx:VR σ x x')(hi:VR σ ix ix')(h:cJ P t x ix=some v):
 ∃v',(Instr.indexAt t x' ix').run P w= .ok v' w/\VR σ v v':=by
 unfold cJ at h
 split at h
 ·rename_i kk j
  cases hi
  split at h
  ·rename_i len e n i hu
   cases hx with
   |ptr hn=>
    rename_i b o s
    split at h
    ·rename_i hj
     simp only[EB]at h
     obtain⟨k,hk,rfl⟩:=h
     refine⟨.pointer (some ⟨b,o+(i+j.toNat*k),none⟩),?_,.ptr hn⟩
     simp only[Instr.indexAt,asIntOf,Instr.sureAddr,ED,Sem.run_pure,Result.andThen_ok,bu hu,if_pos hj,eb hk,eP,FJ]
    ·cases h
  ·rename_i e n i len c hu
   cases hx with
   |sl hn hc=>
    rename_i c' b o s
    split at h
    ·rename_i hj
     simp only[EB]at h
     obtain⟨k,hk,rfl⟩:=h
     refine⟨.pointer (some ⟨b,o+(i+j.toNat*k),none⟩),?_,.ptr hn⟩
     simp only[Instr.indexAt,asIntOf,Instr.sureAddr,ED,Sem.run_pure,Result.andThen_ok,bu hu,if_pos hj,eb hk,eP,FJ]
    ·cases h
  ·cases h
 ·cases h
def iy(P:Program)(t:TypeId)(cs:Array Value)(off:Nat):Option Value:=match kw P t with
 |some true=>(bJ P t).bind fun k=>if off+k<=cs.size then some (.agg (cs.extract off (off+k)))else none
 |some false=>cs[off]?
 |none=>none
theorem VR.get{σ:Ren}{c c':Array Value}(hc:c.size=c'.size)(hc': ∀(i:Nat) (v v':Value),c[i]? =some v->c'[i]? =some v'->VR σ v v'){i:Nat}{v:Value}(h:c[i]? =some v):
 ∃v',c'[i]? =some v'/\VR σ v v':=by
 obtain⟨hi,_⟩:=Fh.1 h
 exact⟨c'[i]'(by omega),EQ (by omega),hc' i _ _ h (EQ (by omega))⟩
theorem kM{P:Program}{σ:Ren}{w:World}{t:TypeId}{c c':Array Value}{off:Nat}{v:Value}(hc:c.size=c'.size)(hc': ∀(i:Nat) (v v':Value),c[i]? =some v->c'[i]? =some v'->VR σ v v')(h:iy P t c off=some v):
 ∃v',(part t c' off).run P w= .ok v' w/\VR σ v v':=by
 unfold iy at h
 split at h
 ·rename_i ha
  simp only[EN]at h
  obtain⟨k,hk,h⟩:=h
  split at h
  ·cases h
   refine⟨.agg (c'.extract off (off+k)),?_,.agg (by simp;omega) fun i v v' a b=> ?_⟩
   ·simp only[part,ED,ji ha,Result.andThen_ok,if_true,eb hk,Sem.run_pure]
   ·rw[Array.getElem?_extract]at a b
    split at a<;>split at b<;>first| (exact hc' _ v v' a b)| (cases a;done)| (cases b;done)
  ·cases h
 ·rename_i ha
  obtain⟨v',h1,h2⟩:=VR.get hc hc' h
  refine⟨v',?_,h2⟩
  simp only[part,ED,ji ha,Result.andThen_ok,EO,if_false,h1,Sem.run_pure]
 ·cases h
def lQ(P:Program)(t:TypeId)(x:Value)(f:Nat):Option Value:=match P.underlying t,x with
 |some (.struct fs),.agg cs=>match fs[f]? with|some fd=>iy P fd.type cs fd.offset|none=>none
 |_,_=>none
theorem Ap{P:Program}{σ:Ren}{w:World}{t:TypeId}{x x' v:Value}{f:Nat}(hx:VR σ x x')(h:lQ P t x f=some v):
 ∃v',(Instr.field t x' f).run P w= .ok v' w/\VR σ v v':=by
 unfold lQ at h
 split at h
 ·rename_i fs cs hu
  cases hx with
  |agg hc hc'=>
   split at h
   ·rename_i fd hf
    obtain⟨v',h1,h2⟩:=kM (w:=w) hc hc' h
    refine⟨v',?_,h2⟩
    simp only[Instr.field,ED,bu hu,Result.andThen_ok,hf,asAgg,Sem.run_pure,h1]
   ·cases h
 ·cases h
def eF(P:Program)(t:TypeId)(x ix:Value):Option Value:=match ix with
 | .int _ j=>
   match P.underlying t,x with
   |some (.array len e),.agg cs=>if 0<=j/\j<len then(bJ P e).bind fun k=>iy P e cs (j.toNat*k)else none
   |some .string,.string s=>if 0<=j then(s[j.toNat]?).map fun b=> .int .u8 b.toNat else none
   |_,_=>none
 |_=>none
theorem AV{P:Program}{σ:Ren}{w:World}{t:TypeId}{x x' ix ix' v:Value}(hx:VR σ x x')(hi:VR σ ix ix')(h:eF P t x ix=some v):
 ∃v',(Instr.index t x' ix').run P w= .ok v' w/\VR σ v v':=by
 unfold eF at h
 split at h
 ·cases hi
  split at h
  ·rename_i hu
   cases hx with
   |agg hc hc'=>
    split at h
    ·rename_i hj
     simp only[EN]at h
     obtain⟨k,hk,h⟩:=h
     obtain⟨v',h1,h2⟩:=kM (w:=w) hc hc' h
     refine⟨v',?_,h2⟩
     simp only[Instr.index,asIntOf,ED,Sem.run_pure,Result.andThen_ok,bu hu,if_pos hj,eb hk,h1]
    ·cases h
  ·rename_i hu
   cases hx
   split at h
   ·rename_i hj
    simp only[EB]at h
    obtain⟨b,hb,rfl⟩:=h
    refine⟨_,?_,.int _ _⟩
    simp only[Instr.index,asIntOf,ED,Sem.run_pure,Result.andThen_ok,bu hu,if_pos hj,hb]
   ·cases h
  ·cases h
 ·cases h
def gz(t:Value)(i:Nat):Option Value:=match t with| .tuple vs=>vs[i]? |_=>none
theorem w9{P:Program}{σ:Ren}{w:World}{x x' v:Value}{i:Nat}(hx:VR σ x x')(h:gz x i=some v):
 ∃v',(Instr.extract x' i).run P w= .ok v' w/\VR σ v v':=by
 unfold gz at h
 split at h
 ·cases hx with
  |junk=>simp at h
  |tuple hc hc'=>
   obtain⟨v',h1,h2⟩:=VR.get hc hc' h
   exact⟨v',by simp[Instr.extract,h1],h2⟩
 ·cases h
def jf(eq:TypeId->Value->Value->Option Bool)(P:Program)(xs ys:Array Value):List Field->Option Bool
 | []=>some true
 |f::fs=>
  if f.name≠ "_" then
   match iy P f.type xs f.offset,iy P f.type ys f.offset with
   |some a,some b=>match eq f.type a b with
    |some true=>jf eq P xs ys fs
    |some false=>some false
    |none=>none
   |_,_=>none
  else jf eq P xs ys fs
def jJ(eq:TypeId->Value->Value->Option Bool)(P:Program)(e:TypeId)(k:Nat)(xs ys:Array Value):List Nat->Option Bool
 | []=>some true
 |i::is=>
  match iy P e xs (i*k),iy P e ys (i*k)with
  |some a,some b=>match eq e a b with
   |some true=>jJ eq P e k xs ys is
   |some false=>some false
   |none=>none
  |_,_=>none
def bZ(P:Program):Nat->TypeId->Value->Value->Option Bool
 | 0,_,_,_=>none
 |d+1,t,x,y=>
  match P.underlying t,x,y with
  |some .bool,.bool a,.bool b=>some (a==b)
  |some (.int _),.int k a,.int k' b=>if k=k' then some (a==b)else none
  |some .string,.string a,.string b=>some (a==b)
  |some (.pointer _),.pointer none,.pointer none=>some true
  |some (.pointer _),.pointer none,.pointer (some _)=>some false
  |some (.pointer _),.pointer (some _),.pointer none=>some false
  |some (.slice _),.slice none 0 0,.slice none 0 0=>some true
  |some (.slice _),.slice (some _) _ _,.slice none 0 0=>some false
  |some (.struct fs),.agg xs,.agg ys=>if P.stoodInHeld t=true then none else jf (bZ P d) P xs ys fs.toList
  |some (.array n e),.agg xs,.agg ys=>(bJ P e).bind fun k=>jJ (bZ P d) P e k xs ys (List.range n)
  |_,_,_=>none
theorem xM{P:Program}{σ:Ren}{w:World}{d:Nat}(ih: ∀t x y x' y' b,VR σ x x'->VR σ y y'->bZ P d t x y=some b->(Op.equalIn d t x' y').run P w= .ok b w){xs ys xs' ys':Array Value}(hx:xs.size=xs'.size)(hx': ∀(i:Nat) (v v':Value),xs[i]? =some v->xs'[i]? =some v'->VR σ v v')(hy:ys.size=ys'.size)(hy': ∀(i:Nat) (v v':Value),ys[i]? =some v->ys'[i]? =some v'->VR σ v v'):
 ∀(fs:List Field) (b:Bool),jf (bZ P d) P xs ys fs=some b->(Op.eqFields d xs' ys' fs).run P w= .ok b w:=by
 intro fs
 induction fs with
 |nil=>intro b h;simp only[jf,ER]at h;subst h;simp[Op.eqFields]
 |cons f fs ihf=>
  intro b h
  unfold jf at h
  unfold Op.eqFields
  by_cases hn:f.name≠ "_"
  ·rw[if_pos hn]at h⊢
   split at h
   ·rename_i a c ha hc
    obtain⟨a',h1,h2⟩:=kM (w:=w) hx hx' ha
    obtain⟨c',h3,h4⟩:=kM (w:=w) hy hy' hc
    split at h
    ·rename_i he
     have:=ih _ _ _ _ _ _ h2 h4 he
     simp only[ED,h1,h3,this,Result.andThen_ok,Bool.not_true,EO,if_false]
     exact ihf b h
    ·rename_i he
     cases h
     have:=ih _ _ _ _ _ _ h2 h4 he
     simp only[ED,h1,h3,this,Result.andThen_ok,Bool.not_false,if_true,Sem.run_pure]
    ·cases h
   ·cases h
  ·rw[if_neg hn]at h⊢
   exact ihf b h
theorem yW{P:Program}{σ:Ren}{w:World}{d:Nat}(ih: ∀t x y x' y' b,VR σ x x'->VR σ y y'->bZ P d t x y=some b->(Op.equalIn d t x' y').run P w= .ok b w){e:TypeId}{k:Nat}{xs ys xs' ys':Array Value}(hx:xs.size=xs'.size)(hx': ∀(i:Nat) (v v':Value),xs[i]? =some v->xs'[i]? =some v'->VR σ v v')(hy:ys.size=ys'.size)(hy': ∀(i:Nat) (v v':Value),ys[i]? =some v->ys'[i]? =some v'->VR σ v v'):
 ∀(is:List Nat) (b:Bool),jJ (bZ P d) P e k xs ys is=some b->(Op.eqItems d e k xs' ys' is).run P w= .ok b w:=by
 intro is
 induction is with
 |nil=>intro b h;simp only[jJ,ER]at h;subst h;simp[Op.eqItems]
 |cons i is ihf=>
  intro b h
  unfold jJ at h
  unfold Op.eqItems
  split at h
  ·rename_i a c ha hc
   obtain⟨a',h1,h2⟩:=kM (w:=w) hx hx' ha
   obtain⟨c',h3,h4⟩:=kM (w:=w) hy hy' hc
   split at h
   ·rename_i he
    have:=ih _ _ _ _ _ _ h2 h4 he
    simp only[ED,h1,h3,this,Result.andThen_ok,Bool.not_true,EO,if_false]
    exact ihf b h
   ·rename_i he
    cases h
    have:=ih _ _ _ _ _ _ h2 h4 he
    simp only[ED,h1,h3,this,Result.andThen_ok,Bool.not_false,if_true,Sem.run_pure]
   ·cases h
  ·cases h
theorem uE{P:Program}{σ:Ren}{w:World}: ∀(d:Nat) (t:TypeId) (x y x' y':Value) (b:Bool),VR σ x x'->VR σ y y'->bZ P d t x y=some b->(Op.equalIn d t x' y').run P w= .ok b w:=by
 intro d
 induction d with
 |zero=>intro t x y x' y' b _ _ h;simp[bZ]at h
 |succ d ih=>
  intro t x y x' y' b hx hy h
  unfold bZ at h
  split at h
  ·rename_i hu;cases hx;cases hy;cases h;simp only[Op.equalIn,ED,bu hu,Result.andThen_ok,Sem.run_pure]
  ·rename_i hu;cases hx;cases hy
   split at h
   ·rename_i hk;cases h;subst hk;simp only[Op.equalIn,ED,bu hu,Result.andThen_ok,Sem.run_pure,if_true]
   ·cases h
  ·rename_i hu;cases hx;cases hy;cases h;simp only[Op.equalIn,ED,bu hu,Result.andThen_ok,Sem.run_pure]
  ·rename_i hu;cases hx;cases hy;cases h;simp only[Op.equalIn,ED,bu hu,Result.andThen_ok,Sem.run_pure];rfl
  ·rename_i hu;cases hx;cases hy;cases h;simp only[Op.equalIn,ED,bu hu,Result.andThen_ok,Sem.run_pure];rfl
  ·rename_i hu;cases hx;cases hy;cases h;simp only[Op.equalIn,ED,bu hu,Result.andThen_ok,Sem.run_pure]
  ·rename_i hu;cases hx;cases hy;cases h;simp[Op.equalIn,ED,bu hu,Result.andThen_ok,Sem.run_pure]
  ·rename_i hu;cases hx<;>cases hy<;>cases h<;>simp[Op.equalIn,ED,bu hu,Result.andThen_ok,Sem.run_pure]
  ·rename_i fs xs ys hu
   cases hx with
   |agg hx hx'=>cases hy with
    |agg hy hy'=>
     split at h
     ·cases h
     ·rename_i hs
      have hf:P.fieldsOf t=fs:=by simp[Program.fieldsOf,hu]
      rw[run_equalIn_struct w d t _ _ (by rw[hf];exact hu) (by simpa using hs),hf]
      exact xM ih hx hx' hy hy' fs.toList b h
  ·rename_i n e xs ys hu
   cases hx with
   |agg hx hx'=>cases hy with
    |agg hy hy'=>
     simp only[EN]at h
     obtain⟨k,hk,h⟩:=h
     unfold bJ at hk
     simp only[EB]at hk
     obtain⟨i,hi,rfl⟩:=hk
     have hc:P.cellsOf e=i.size:=by simp[Program.cellsOf,hi]
     rw[run_equalIn_array w d _ _ hu hi,hc]
     exact yW ih hx hx' hy hy' (List.range n) b h
  ·cases h
def fu(op:BinOp)(k:IntKind)(a b:Int):Option Value:=match op with
 | .add=>some (.int k (k.wrap (a+b)))
 | .sub=>some (.int k (k.wrap (a-b)))
 | .mul=>some (.int k (k.wrap (a*b)))
 | .quo=>if b=0 then none else some (.int k (k.wrap (a.tdiv b)))
 | .rem=>if b=0 then none else some (.int k (a.tmod b))
 | .eql=>some (.bool (a==b))
 | .neq=>some (.bool (a !=b))
 | .lss=>some (.bool (a<b))
 | .leq=>some (.bool (a<=b))
 | .gtr=>some (.bool (a>b))
 | .geq=>some (.bool (a>=b))
 |_=>none
def ze(op:BinOp)(a b:ByteArray):Option Value:=match op with
 | .eql=>some (.bool (a.toList==b.toList))
 | .neq=>some (.bool (!(a.toList==b.toList)))
 |_=>none
def dx(P:Program)(op:BinOp)(t:TypeId)(x y:Value):Option Value:=match x,y with
 | .int k a,.int k' b=>if k=k' then fu op k a b else none
 | .string a,.string b=>ze op a b
 |x,y=>
  if P.eqGuardType P.depth t=true then none else
  match op with
  | .eql=>(bZ P 10000 t x y).map .bool
  | .neq=>(bZ P 10000 t x y).map fun b=> .bool !b
  |_=>none
theorem evInt_ok{P:Program}{w:World}{op:BinOp}{t:TypeId}{k:IntKind}{a b:Int}{v:Value}(h:fu op k a b=some v):
 (binOp op t (.int k a) (.int k b)).run P w= .ok v w:=by
 unfold fu at h
 cases op<;>simp only at h<;>first
  | (cases h;done)
  | (split at h
     ·cases h
     ·rename_i hb;cases h;simp[binOp,Op.intDiv,hb])
  | (cases h;simp[binOp,Op.intArith,Op.intCmp])
theorem evStr_ok{P:Program}{w:World}{op:BinOp}{t:TypeId}{a b:ByteArray}{v:Value}(h:ze op a b=some v):
 (binOp op t (.string a) (.string b)).run P w= .ok v w:=by
 unfold ze at h
 cases op<;>simp only at h<;>first
  | (cases h;done)
  | (cases h;simp[binOp,Op.stringOp])
theorem yn{P:Program}{w:World}{op:BinOp}{t:TypeId}{xo yo:Operand}{x y:Value}(h:P.eqGuardType P.depth t=false)(hn: ¬(x= .nilIface/\y= .nilIface)):
 (eqGuard op t xo yo x y).run P w= .ok () w:=by
 unfold eqGuard
 cases op<;>first
  |rfl
  | (rw[if_neg (by simp)]
     split
     ·exact absurd ⟨rfl,rfl⟩ hn
     ·simp[run_program,h]
     ·rfl)
theorem vM{P:Program}{w:World}{op:BinOp}{t:TypeId}{xo yo:Operand}{x y:Value}(hx:one x=true)(hn:x≠ .nilIface):
 (eqGuard op t xo yo x y).run P w= .ok () w:=by
 unfold eqGuard
 cases op<;>first
  |rfl
  | (rw[if_neg (by simp)]
     split
     ·exact absurd rfl hn
     ·cases hx
     ·rfl)
theorem evBin_ok{P:Program}{σ:Ren}{w:World}{op:BinOp}{t:TypeId}{xo yo:Operand}{x y x' y' v:Value}(hx:VR σ x x')(hy:VR σ y y')(h:dx P op t x y=some v):
 ∃v',(do eqGuard op t xo yo x' y';binOp op t x' y':Sem Value).run P w= .ok v' w/\VR σ v v':=by
 unfold dx at h
 split at h
 ·cases hx;cases hy
  split at h
  ·rename_i hk;subst hk
   refine⟨v,?_,?_⟩
   ·simp only[ED,vM (show one (.int _ _)=true from rfl) (by simp),Result.andThen_ok]
    exact evInt_ok h
   ·unfold fu at h
    split at h<;>first| (cases h;exact .int _ _)| (cases h;exact .bool _)| (split at h<;>first| (cases h;done)| (cases h;exact .int _ _))|cases h
  ·cases h
 ·cases hx;cases hy
  refine⟨v,?_,?_⟩
  ·simp only[ED,vM (show one (.string _)=true from rfl) (by simp),Result.andThen_ok]
   exact evStr_ok h
  ·unfold ze at h
   split at h<;>first| (cases h;exact .bool _)|cases h
 ·rename_i hni hns
  split at h
  ·cases h
  ·rename_i hg
   have hg':P.eqGuardType P.depth t=false:=by simpa using hg
   have key: ∀b,bZ P 10000 t x y=some b->(Op.equal t x' y').run P w= .ok b w/\ ¬(x'= .nilIface/\y'= .nilIface)/\(∀k a k' c,¬(x'= .int k a/\y'= .int k' c))/\(∀a c,¬(x'= .string a/\y'= .string c))/\(∀k a,x'≠ .float k a)/\(∀k a c,x'≠ .complex k a c):=by
    intro b hb
    refine⟨uE 10000 t x y x' y' b hx hy hb,?_⟩
    have hb':=hb
    unfold bZ at hb'
    split at hb'<;>first
     | (cases hx;cases hy;simp_all;done)
     | (cases hx<;>cases hy<;>simp_all;done)
     |cases hb'
   split at h
   ·simp only[EB]at h
    obtain⟨b,hb,rfl⟩:=h
    obtain⟨h1,h2,h3,h4,h5,h6⟩:=key b hb
    refine⟨.bool b,?_,.bool _⟩
    simp only[ED,yn hg' h2,Result.andThen_ok]
    unfold binOp
    split<;>first
     | (exact absurd ⟨rfl,rfl⟩ (h3 _ _ _ _))
     | (exact absurd rfl (h5 _ _))
     | (exact absurd rfl (h6 _ _ _))
     | (exact absurd ⟨rfl,rfl⟩ (h4 _ _))
     | (simp_all;done)
   ·simp only[EB]at h
    obtain⟨b,hb,rfl⟩:=h
    obtain⟨h1,h2,h3,h4,h5,h6⟩:=key b hb
    refine⟨.bool !b,?_,.bool _⟩
    simp only[ED,yn hg' h2,Result.andThen_ok]
    unfold binOp
    split<;>first
     | (exact absurd ⟨rfl,rfl⟩ (h3 _ _ _ _))
     | (exact absurd rfl (h5 _ _))
     | (exact absurd rfl (h6 _ _ _))
     | (exact absurd ⟨rfl,rfl⟩ (h4 _ _))
     | (simp_all;done)
   ·cases h
def evUn(op:UnOp)(x:Value):Option Value:=match op,x with
 | .neg,.int k n=>some (.int k (k.wrap (0-n)))
 | .not,.bool b=>some (.bool !b)
 |_,_=>none
theorem evUn_ok{P:Program}{σ:Ren}{w:World}{op:UnOp}{x x' v:Value}(hx:VR σ x x')(h:evUn op x=some v):
 ∃v',(Op.unary op x').run P w= .ok v' w/\VR σ v v':=by
 unfold evUn at h
 split at h
 ·cases hx;cases h;exact⟨_,by simp[Op.unary,Op.intArith],.int _ _⟩
 ·cases hx;cases h;exact⟨_,by simp[Op.unary],.bool _⟩
 ·cases h
def xd(P:Program)(s d:TypeId)(x:Value):Option Value:=match P.underlying s,P.underlying d,x with
 |some (.int _),some (.int k),.int _ n=>some (.int k (k.wrap n))
 |_,_,_=>none
theorem CH{P:Program}{σ:Ren}{w:World}{s d:TypeId}{x x' v:Value}(hx:VR σ x x')(h:xd P s d x=some v):
 ∃v',(convert s d x').run P w= .ok v' w/\VR σ v v':=by
 unfold xd at h
 split at h
 ·rename_i hs hd
  cases hx;cases h
  exact⟨_,by simp[convert,bu hs,bu hd,Conv.intToInt],.int _ _⟩
 ·cases h
def pI(P:Program)(t:TypeId)(x:Value):Option Value:=match P.underlying t with
 |some (.interface _)=>none
 |some _=>some (.iface t x)
 |none=>none
theorem AE{P:Program}{σ:Ren}{w:World}{t:TypeId}{x x' v:Value}(hx:VR σ x x')(h:pI P t x=some v):
 ∃v',(Instr.makeInterface t x').run P w= .ok v' w/\VR σ v v':=by
 unfold pI at h
 split at h
 ·cases h
 ·rename_i d hd hu
  cases h
  refine⟨_,?_,.iface t hx⟩
  simp only[Instr.makeInterface,ED,bu hu,Result.andThen_ok]
  rfl
 ·cases h
def cF(P:Program)(H:AH)(t:TypeId)(l c:Value):Option (Value×AH):=match l,c,P.underlying t with
 | .int _ l,.int _ c,some (.slice e)=>
   match P.info? e with
   |some i=>match i.zero with
    |some z=>if plain z=true/\0<=l/\l<=c/\(i.bytes:Int)*c<=281474976710656/\c<=9223372036854775807 then
     some (.slice (some ⟨H.length,0,none⟩) l.toNat c.toNat,H++[.cells (madeCells z.cells (c.toNat*i.size)).toList e])else none
    |none=>none
   |none=>none
 |_,_,_=>none
theorem tC{P:Program}{σ:Ren}{H H':AH}{w:World}(hr:HR σ H w){t:TypeId}{l c l' c' r:Value}(hl:VR σ l l')(hc:VR σ c c')(h:cF P H t l c=some (r,H')):
 ∃r' w' σ',(Instr.makeSlice t l' c').run P w= .ok r' w'/\VR σ' r r'/\HR σ' H' w'/\Ext σ H w σ' H' w':=by
 unfold cF at h
 split at h
 ·rename_i k l k' c e hu
  cases hl;cases hc
  split at h
  ·rename_i i hi
   split at h
   ·rename_i z hz
    split at h
    ·rename_i hcond
     obtain⟨h1,h2,h3,h4,h5⟩:=hcond
     cases h
     have hrun:=run_make (P:=P) w t e i z hu hi hz k k' l c h2 h3 h4 h5
     obtain⟨g1,g2⟩:=nI hr e (oV σ h1 (c.toNat*i.size))
     refine⟨_,_,_,hrun,?_,g1,g2⟩
     have:=VR.sl (σ:=upd σ H.length (w.heap.size,0,(madeCells z.cells (c.toNat*i.size)).toList.length)) (i:=0) (len:=l.toNat) (c:=c.toNat) (c':=c.toNat) (dI _ _ _) ⟨by omega,.inl ⟨by rw[mK];omega,rfl⟩⟩
     simpa using this
    ·cases h
   ·cases h
  ·cases h
 ·cases h
def ey(v:Option Value)(dflt:Nat):Option Nat:=match v with
 |none=>some dflt
 |some (.int _ i)=>if 0<=i then some i.toNat else none
 |_=>none
def OV(σ:Ren):Option Value->Option Value->Prop
 |none,none=>True
 |some v,some v'=>VR σ v v'
 |_,_=>False
def lw(P:Program)(t:TypeId)(x:Value)(lo hi mx:Option Value):Option Value:=match P.underlying t,x with
 |some (.slice e),.slice a len c=>
  match bJ P e,ey lo 0,ey hi len,ey mx len with
  |some k,some l,some h,some m=>
   if l<=h/\h<=len/\(mx.isSome=true->h<=m/\m<=len/\m<unk)/\(mx.isSome=true->hi.isSome=true)then
    match a with
    |none=>if len=0/\c=0 then some (.slice none 0 0)else none
    |some ⟨_,_,some _⟩=>if l=h then some (.slice (some ⟨0,0,some 0⟩) 0 0)else none
    |some ⟨n,i,none⟩=>if l=h then some (.slice (some ⟨0,0,some 0⟩) 0 0)else
     if mx.isSome=true then some (.slice (some ⟨n,i+l*k,none⟩) (h-l) (m-l))
     else if unk<=c then(if c=unk+k then some (.slice (some ⟨n,i+l*k,none⟩) (h-l) c)else none)else some (.slice (some ⟨n,i+l*k,none⟩) (h-l) (c-l))
   else none
  |_,_,_,_=>none
 |some (.array n e),.pointer (some ⟨nm,i,none⟩)=>
  match bJ P e,ey lo 0,ey hi n,ey mx n with
  |some k,some l,some h,some m=>
   if l<h/\h<=n/\n<unk/\(mx.isSome=true->h<=m/\m<=n)/\(mx.isSome=true->hi.isSome=true)then some (.slice (some ⟨nm,i+l*k,none⟩) (h-l) (m-l))else none
  |_,_,_,_=>none
 |some .string,.string s=>
  match ey lo 0,ey hi s.size with
  |some l,some h=>if l<=h/\h<=s.size/\mx.isSome=false then some (.string (s.extract l h))else none
  |_,_=>none
 |_,_=>none
theorem bound_ok{P:Program}{w:World}{k:IntKind}{i:Int}{y l:Nat}{code:BoundsCode}(h:(if 0<=i then some i.toNat else none)=some l)(hy:l<=y):
 (Instr.sliceBound (.int k i) y code).run P w= .ok l w:=by
 split at h
 ·rename_i h0
  cases h
  exact run_sliceBound w k i y code h0 (by omega)
 ·cases h
theorem re{P:Program}{σ:Ren}{o o':Option Value}{dflt r y:Nat}(h:OV σ o o')(ha:ey o dflt=some r)(hy:r<=y):
 (o'=none/\o=none/\r=dflt)\/ ∃v,o'=some v/\o.isSome=true/\ ∀(code:BoundsCode) (w:World),(Instr.sliceBound v y code).run P w= .ok r w:=by
 cases o with
 |none=>cases o' with
  |none=>simp only[ey,ER]at ha;exact .inl ⟨rfl,rfl,ha.symm⟩
  |some v=>exact h.elim
 |some v=>cases o' with
  |none=>exact h.elim
  |some v'=>
   have h':VR σ v v':=h
   refine .inr ⟨v',rfl,rfl,fun code w=> ?_⟩
   unfold ey at ha
   split at ha
   ·rename_i e;cases e
   ·rename_i k i e;cases e;cases h';exact bound_ok ha hy
   ·cases ha
theorem oc{P:Program}{σ:Ren}{w:World}{isS:Bool}{len cap:Nat}{lo hi mx lo' hi' mx':Option Value}(h1:OV σ lo lo')(h2:OV σ hi hi')(h3:OV σ mx mx'){l h m:Nat}(a1:ey lo 0=some l)(a2:ey hi len=some h)(a3:ey mx cap=some m)(hm:m<=cap)(hh:h<=m)(hl:l<=h)(hmh:mx.isSome=true->hi.isSome=true):
 (Instr.sliceBounds isS len cap lo' hi' mx').run P w= .ok (l,h,m) w:=by
 unfold Instr.sliceBounds
 rcases re (P:=P) h3 a3 hm with ⟨rfl,rfl,rfl⟩|⟨vm,rfl,hms,em⟩<;>
 rcases re (P:=P) h2 a2 hh with ⟨rfl,rfl,rfl⟩|⟨vh,rfl,_,eh⟩<;>
 rcases re (P:=P) h1 a1 hl with ⟨rfl,rfl,rfl⟩|⟨vl,rfl,_,el⟩<;>
 first
  | (simp only[ED,Sem.run_pure,Result.andThen_ok, *];done)
  | (exact absurd (hmh hms) (by simp))
theorem Bd{P:Program}{σ:Ren}{w:World}{t:TypeId}{x x' v:Value}{lo hi mx lo' hi' mx':Option Value}(hx:VR σ x x')(h1:OV σ lo lo')(h2:OV σ hi hi')(h3:OV σ mx mx')(h:lw P t x lo hi mx=some v): ∃v',(Instr.sliceAt t x' lo' hi' mx').run P w= .ok v' w/\VR σ v v':=by
 have hmx:mx'.isSome=mx.isSome:=by cases mx<;>cases mx'<;>first|rfl|exact h3.elim
 unfold lw at h
 split at h
 ·rename_i e a len c hu
  split at h
  ·rename_i k l hh m hk a1 a2 a3
   split at h
   ·rename_i hcond
    obtain⟨c1,c2,c3,c4⟩:=hcond
    have key: ∀cap',len<=cap'-> ∃m',(Instr.sliceBounds true len cap' lo' hi' mx').run P w= .ok (l,hh,m') w/\(mx.isSome=true->m'=m)/\(mx.isSome=false->m'=cap'):=by
     intro cap' hcap
     cases hm:mx.isSome with
     |true=>
      have a3':ey mx cap'=some m:=by
       cases mx with
       |none=>simp at hm
       |some v=>cases v<;>exact a3
      exact⟨m,oc h1 h2 h3 a1 a2 a3' (by have:=(c3 hm).2.1;omega) (c3 hm).1 c1 c4,fun _=>rfl,fun h=>by cases h⟩
     |false=>
      have:mx=none:=by cases mx with|none=>rfl|some v=>simp at hm
      subst this
      exact⟨cap',oc h1 h2 h3 a1 a2 rfl (EJ _) (by omega) c1 c4,(fun h=>by simp at h),fun _=>rfl⟩
    have hsl: ∀(a':Option Addr) (cap':Nat),len<=cap'-> ∃m',(Instr.sliceAt t (.slice a' len cap') lo' hi' mx').run P w= .ok (.slice (if m'=l then a' else a'.map (·.add (l*k))) (hh-l) (m'-l)) w/\(mx.isSome=true->m'=m)/\(mx.isSome=false->m'=cap'):=by
     intro a' cap' hcap
     obtain⟨m',e1,e2,e3⟩:=key cap' hcap
     refine⟨m',?_,e2,e3⟩
     simp only[Instr.sliceAt,Instr.slice,ED,bu hu,Result.andThen_ok,e1,eb hk,Sem.run_pure]
    split at h
    ·split at h
     ·rename_i hz
      obtain⟨rfl,rfl⟩:=hz
      cases h;cases hx
      obtain⟨m',e1,e2,e3⟩:=hsl none 0 (EJ _)
      have hl0:l=0:=by omega
      have hh0:hh=0:=by omega
      have hm0:m'=0:=by
       cases hm:mx.isSome with
       |true=>rw[e2 hm];have:=(c3 hm).2.1;omega
       |false=>exact e3 hm
      subst hl0;subst hh0;subst hm0
      exact⟨_,by simpa using e1,.slNil⟩
     ·cases h
    ·split at h
     ·rename_i hlh
      cases h
      subst hlh
      cases hx with
      |slE=>
       rename_i c' a'
       obtain⟨m',e1,_,_⟩:=hsl (some a') c' (FT _)
       refine⟨_,e1,?_⟩
       simp only[F8,Option.map_some]
       split<;>exact .slE
     ·cases h
    ·rename_i n i
     split at h
     ·rename_i hlh
      cases h
      subst hlh
      cases hx with
      |sl hn hc=>
       rename_i c' b o s
       obtain⟨m',e1,_,_⟩:=hsl (some ⟨b,o+i,none⟩) c' hc.1
       refine⟨_,e1,?_⟩
       simp only[F8,Option.map_some]
       split<;>exact .slE
     ·rename_i hlh
      cases hx with
      |sl hn hc=>
       rename_i c' b o s
       obtain⟨m',e1,e2,e3⟩:=hsl (some ⟨b,o+i,none⟩) c' hc.1
       have hml:hh<=m':=by
        cases hm:mx.isSome with
        |true=>rw[e2 hm];exact(c3 hm).1
        |false=>rw[e3 hm];have:=hc.1;omega
       rw[if_neg (show¬m'=l by omega)]at e1
       simp only[Option.map_some,eP,FJ]at e1
       refine⟨_,e1,?_⟩
       split at h
       ·rename_i hm
        cases h
        rw[e2 hm]
        have:=(c3 hm).1
        have h9:=(c3 hm).2.1
        have h10:=(c3 hm).2.2
        exact .sl hn ⟨by omega,.inl ⟨by omega,rfl⟩⟩
       ·rename_i hm
        have hm':mx.isSome=false:=by simpa using hm
        rw[e3 hm']at hml⊢
        split at h
        ·rename_i hu2
         split at h
         ·rename_i hck
          cases h
          refine .sl hn ⟨by omega,.inr ⟨hu2,?_⟩⟩
          rcases hc.2 with ⟨hc2,_⟩|⟨hc2,hc3⟩
          ·omega
          ·have e:c-unk=k:=by omega
           rw[e]at hc3⊢
           have e5:c'-l+l=c':=by omega
           have e4:(c'-l)*k+l*k=c'*k:=by rw[<-FX,e5]
           omega
         ·cases h
        ·rename_i hu2
         cases h
         rcases hc.2 with ⟨hc2,hc3⟩|⟨hc2,_⟩
         ·exact .sl hn ⟨by omega,.inl ⟨by omega,by omega⟩⟩
         ·omega
   ·cases h
  ·cases h
 ·rename_i n e nm i hu
  cases hx with
  |ptr hn=>
   rename_i b o s
   split at h
   ·rename_i k l hh m hk a1 a2 a3
    split at h
    ·rename_i hcond
     obtain⟨c1,c2,c2',c3,c4⟩:=hcond
     cases h
     have hm:m<=n/\hh<=m:=by
      cases hm:mx.isSome with
      |true=>exact⟨(c3 hm).2,(c3 hm).1⟩
      |false=>
       have:mx=none:=by cases mx with|none=>rfl|some v=>simp at hm
       subst this;simp only[ey,ER]at a3;omega
     have e1:=oc (P:=P) (w:=w) (isS:=false) (cap:=n) h1 h2 h3 a1 a2 a3 hm.1 hm.2 (by omega) c4
     refine⟨.slice (some ⟨b,o+(i+l*k),none⟩) (hh-l) (m-l),?_,.sl hn ⟨by omega,.inl ⟨by omega,rfl⟩⟩⟩
     simp only[Instr.sliceAt,Instr.sureAddr,ED,bu hu,Result.andThen_ok,e1,eb hk,Sem.run_pure]
     rw[if_neg (show¬m=l by omega),eP,FJ]
    ·cases h
   ·cases h
 ·rename_i str hu
  cases hx
  split at h
  ·rename_i l hh a1 a2
   split at h
   ·rename_i hcond
    obtain⟨c1,c2,c3⟩:=hcond
    cases h
    have:mx=none:=by cases mx with|none=>rfl|some v=>simp at c3
    subst this
    have hmx':mx'=none:=by cases mx' with|none=>rfl|some v=>exact h3.elim
    subst hmx'
    have e1:=oc (P:=P) (w:=w) (isS:=false) (cap:=str.size) (mx:=none) (mx':=none) h1 h2 h3 a1 a2 rfl (EJ _) c2 c1 (by simp)
    refine⟨.string (str.extract l hh),?_,.string _⟩
    simp only[Instr.sliceAt,Instr.slice,ED,bu hu,Result.andThen_ok,Option.isSome_none,EO,if_false,e1,Sem.run_pure]
   ·cases h
  ·cases h
 ·cases h
def rV(P:Program)(H:AH)(t:TypeId)(x:Value):Option Value:=match P.underlying t,x with
 |some .string,.string s=>some (O U s.size)
 |some (.slice _),.slice _ n _=>some (O U n)
 |some (.array n _),.agg _=>some (O U n)
 |some (.map _ _),.map none=>some (O U 0)
 |some (.map _ _),.map (some r)=>match at_ H r with| .map es=>some (O U es.length)|_=>none
 |_,_=>none
theorem evLen_ok{P:Program}{σ:Ren}{H:AH}{w:World}(hr:HR σ H w){t ty:TypeId}{ts:Array TypeId}{x x' v:Value}(hx:VR σ x x')(ht:ts[0]? =some t)(h:rV P H t x=some v):
 ∃v',(Builtin.len_ ts ty #[x']).run P w= .ok v' w/\VR σ v v':=by
 unfold rV at h
 split at h
 ·rename_i hu;cases hx;cases h
  exact⟨_,by simp[Builtin.len_,ht,bu hu,goInt],.int _ _⟩
 ·rename_i hu;cases h
  cases hx<;>exact⟨_,by simp only[Builtin.len_,ht,EX,List.getElem?_cons_zero,ED,bu hu,Result.andThen_ok];rfl,.int _ _⟩
 ·rename_i hu;cases hx;cases h
  exact⟨_,by simp only[Builtin.len_,ht,EX,List.getElem?_cons_zero,ED,bu hu,Result.andThen_ok];rfl,.int _ _⟩
 ·rename_i hu;cases hx;cases h
  exact⟨_,by simp only[Builtin.len_,ht,EX,List.getElem?_cons_zero,ED,bu hu,Result.andThen_ok];rfl,.int _ _⟩
 ·rename_i hu
  cases hx with
  |map hn=>
   rename_i b s
   split at h
   ·rename_i es he
    cases h
    have ho:=hr.obj _ _ hn
    rw[he]at ho
    obtain⟨_,ents,g1,g2,_⟩:=ho
    refine⟨O U es.length,?_,.int _ _⟩
    simp only at g1
    simp only[Builtin.len_,ht,EX,List.getElem?_cons_zero,ED,bu hu,Result.andThen_ok]
    simp[getObj,Sem.run,g1,goInt,g2]
   ·cases h
 ·cases h
end Go.Ev
