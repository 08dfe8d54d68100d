import Derived.Test.YtjcomcgpjjianaaA3
set_option linter.all false
set_option maxHeartbeats 16000000
set_option maxRecDepth 8000
open Go.Value renaming int→O
open Go.IntKind renaming i64→U
namespace Go.Ev
theorem wR{σ:Ren}{v v':Value}(h:VR σ v v')(hp:iz v=true):v'=v:=by
 cases h<;>first|rfl| (simp[iz]at hp)
theorem uX{σ:Ren}{v v':Value}(h:VR σ v v')(hp:plain v=true):v'=v:=by
 by_cases ha: ∃c,v= .agg c
 ·obtain⟨c,rfl⟩:=ha
  cases h with
  |agg hc hc'=>
   congr 1
   apply Array.ext hc.symm
   intro i h1 h2
   simp only[Ev.plain]at hp
   have:=EI.1 hp _ (FE (by simpa using h2))
   exact wR (hc' i _ _ (EQ h2) (EQ h1)) (by simpa using this)
 ·have:plain v=iz v:=by
   unfold Ev.plain
   split
   ·exact absurd ⟨_,rfl⟩ ha
   ·rfl
  exact wR h (this▸hp)
def gX(ck:TypeId->Value->Bool)(P:Program)(e:TypeId)(k:Nat)(cs:Array Value):List Nat->Bool
 | []=>true
 |i::is=>(match iy P e cs (i*k)with|some v=>ck e v|none=>false)&&gX ck P e k cs is
def ly(ck:TypeId->Value->Bool)(P:Program)(cs:Array Value):List Field->Bool
 | []=>true
 |f::fs=>(if f.name≠ "_" then(match iy P f.type cs f.offset with|some v=>ck f.type v|none=>false)else true)&&ly ck P cs fs
def dR(P:Program):Nat->TypeId->Value->Bool
 | 0,_,_=>false
 |d+1,t,v=>
  match P.underlying t,v with
  |some .bool,_|some (.int _),_|some .string,_=>true
  |some (.array n e),.agg cs=>match bJ P e with|some k=>gX (dR P d) P e k cs (List.range n)|none=>false
  |some (.struct fs),.agg cs=>ly (dR P d) P cs fs.toList
  |_,_=>false
theorem ul{P:Program}{w:World}{t:TypeId}{c:Array Value}{off:Nat}{v:Value}(h:iy P t c off=some v):(part t c off).run P w= .ok v w:=by
 unfold iy at h
 split at h
 ·rename_i ha
  simp only[EN]at h
  obtain⟨k,hk,h⟩:=h
  split at h
  ·cases h
   simp only[part,ED,ji ha,Result.andThen_ok,if_true,eb hk,Sem.run_pure]
  ·cases h
 ·rename_i ha
  simp only[part,ED,ji ha,Result.andThen_ok,EO,if_false,h,Sem.run_pure]
 ·cases h
theorem gm{P:Program}{w:World}{em:Bool}: ∀(d:Nat) (t:TypeId) (v:Value),dR P d t v=true->(Instr.checkKey em d t v).run P w= .ok () w:=by
 intro d
 induction d with
 |zero=>intro t v h;simp[dR]at h
 |succ d ih=>
  intro t v h
  unfold dR at h
  split at h
  ·rename_i hu;simp only[Instr.checkKey,ED,bu hu,Result.andThen_ok,Sem.run_pure]
  ·rename_i hu;simp only[Instr.checkKey,ED,bu hu,Result.andThen_ok,Sem.run_pure]
  ·rename_i hu;simp only[Instr.checkKey,ED,bu hu,Result.andThen_ok,Sem.run_pure]
  ·rename_i n e cs hu
   split at h
   ·rename_i k hk
    simp only[Instr.checkKey,ED,bu hu,Result.andThen_ok]
    simp only[Std.Legacy.Range.forIn_eq_forIn_range',Std.Legacy.Range.size,Nat.sub_zero,Nat.add_one_sub_one,Nat.div_one]
    rw[List.range_eq_range']at h
    generalize List.range' 0 n=is at h
    induction is with
    |nil=>simp
    |cons i is ihi=>
     simp only[gX,EC]at h
     obtain⟨h1,h2⟩:=h
     split at h1
     ·rename_i v hv
      simp only[Hw,ED,eb hk,Result.andThen_ok,ul hv,ih _ _ h1,Sem.run_pure]
      exact ihi h2
     ·cases h1
   ·cases h
  ·rename_i fs cs hu
   simp only[Instr.checkKey,ED,bu hu,Result.andThen_ok]
   rw[<-Array.forIn_toList]
   generalize fs.toList=fl at h
   induction fl with
   |nil=>simp
   |cons f fl ihi=>
    simp only[ly,EC]at h
    obtain⟨h1,h2⟩:=h
    by_cases hn:f.name≠ "_"
    ·rw[if_pos hn]at h1
     split at h1
     ·rename_i v hv
      simp only[Hw,ED,if_pos hn,ul hv,Result.andThen_ok,ih _ _ h1,Sem.run_pure]
      exact ihi h2
     ·cases h1
    ·simp only[Hw,ED,if_neg hn,Sem.run_pure,Result.andThen_ok]
     exact ihi h2
  ·cases h
def bP(P:Program)(kt:TypeId)(k:Value):List (Value×Value)->Nat->Option (Option (Nat×Value))
 | [],_=>some none
 | (k',v)::es,i=>
   if plain k'=true then
    match bZ P 10000 kt k k' with
    |some true=>some (some (i,v))
    |some false=>bP P kt k es (i+1)
    |none=>none
   else none
def FR(σ:Ren):Option (Nat×Value)->Option (Nat×Value)->Prop
 |none,none=>True
 |some (i,v),some (j,v')=>i=j/\VR σ v v'
 |_,_=>False
theorem uc{P:Program}{kt:TypeId}{d:TypeDesc}{k k':Value}{b b':Bool}(hu:P.underlying kt=some d)(h:Instr.sameNow d k k'=some b)(h':bZ P 10000 kt k k'=some b'):b'=b:=by
 unfold Instr.sameNow at h
 split at h
 ·split at h
  ·rename_i hk;subst hk;cases h
   simp[bZ,hu]at h'
   exact h'.symm
  ·cases h
 ·cases h;simp[bZ,hu]at h';exact h'.symm
 ·cases h;simp[bZ,hu]at h';exact h'.symm
 ·cases h
theorem Av{P:Program}{σ:Ren}{kt:TypeId}{d:TypeDesc}{k:Value}(hu:P.underlying kt=some d): ∀(es:List (Value×Value)) (ents:List MapEntry) (i:Nat) (r:Option (Nat×Value)) (r':Option (Nat×Value)),es.length=ents.length->(∀(j:Nat) (a v:Value) (e:MapEntry),es[j]? =some (a,v)->ents[j]? =some e->e.key=a/\VR σ v e.val)->bP P kt k es i=some r->Instr.findNow d k ents i=some r'->FR σ r r':=by
 intro es
 induction es with
 |nil=>
  intro ents i r r' hl hh h h'
  have:ents=[]:=FQ (by simpa using hl.symm)
  subst this
  simp[bP]at h;simp[Instr.findNow]at h'
  subst h;subst h';trivial
 |cons x es ih=>
  obtain⟨a,v⟩:=x
  intro ents i r r' hl hh h h'
  cases ents with
  |nil=>simp at hl
  |cons e ents=>
   obtain⟨h1,h2⟩:=hh 0 a v e rfl rfl
   unfold bP at h
   unfold Instr.findNow at h'
   rw[h1]at h'
   split at h
   ·split at h
    ·rename_i hq
     cases h
     split at h'
     ·cases h';exact⟨rfl,h2⟩
     ·rename_i hs;have:=uc hu hs hq;cases this
     ·cases h'
    ·rename_i hq
     split at h'
     ·rename_i hs;have:=uc hu hs hq;cases this
     ·exact ih ents (i+1) r r' (by simpa using hl) (fun j a v e x y=>hh (j+1) a v e (by simpa using x) (by simpa using y)) h h'
     ·cases h'
    ·cases h
   ·cases h
theorem vk{P:Program}{σ:Ren}{w:World}{kt:TypeId}{k:Value}(hk:plain k=true): ∀(es:List (Value×Value)) (ents:List MapEntry) (i:Nat) (r:Option (Nat×Value)),es.length=ents.length->(∀(j:Nat) (a v:Value) (e:MapEntry),es[j]? =some (a,v)->ents[j]? =some e->e.key=a/\VR σ v e.val)->bP P kt k es i=some r-> ∃r',(Instr.findAsking kt k ents i).run P w= .ok r' w/\FR σ r r':=by
 intro es
 induction es with
 |nil=>
  intro ents i r hl hh h
  have:ents=[]:=FQ (by simpa using hl.symm)
  subst this
  simp[bP]at h
  subst h;exact⟨none,by simp[Instr.findAsking],trivial⟩
 |cons x es ih=>
  obtain⟨a,v⟩:=x
  intro ents i r hl hh h
  cases ents with
  |nil=>simp at hl
  |cons e ents=>
   obtain⟨h1,h2⟩:=hh 0 a v e rfl rfl
   unfold bP at h
   unfold Instr.findAsking
   split at h
   ·rename_i hp
    split at h
    ·rename_i hq
     cases h
     have:=uE (w:=w) 10000 kt k a k e.key true (cT σ hk) (by rw[h1];exact cT σ hp) hq
     refine⟨some (i,e.val),?_,⟨rfl,h2⟩⟩
     simp only[ED,Op.equal,Op.maxDepth,this,Result.andThen_ok,if_true,Sem.run_pure]
    ·rename_i hq
     have:=uE (w:=w) 10000 kt k a k e.key false (cT σ hk) (by rw[h1];exact cT σ hp) hq
     obtain⟨r',g1,g2⟩:=ih ents (i+1) r (by simpa using hl) (fun j a v e x y=>hh (j+1) a v e (by simpa using x) (by simpa using y)) h
     refine⟨r',?_,g2⟩
     simp only[ED,Op.equal,Op.maxDepth,this,Result.andThen_ok,EO,if_false,g1]
    ·cases h
   ·cases h
theorem gx{P:Program}{σ:Ren}{w:World}{kt:TypeId}{k:Value}(hk:plain k=true){es:List (Value×Value)}{ents:Array MapEntry}{r:Option (Nat×Value)}{d:TypeDesc}(hu:P.underlying kt=some d)(hl:ents.size=es.length)(hh: ∀(j:Nat) (a v:Value) (e:MapEntry),es[j]? =some (a,v)->ents[j]? =some e->e.key=a/\VR σ v e.val)(h:bP P kt k es 0=some r):
 ∃r',(Instr.findKey kt k ents.toList).run P w= .ok r' w/\FR σ r r':=by
 unfold Instr.findKey
 simp only[ED,bu hu,Result.andThen_ok]
 have hh': ∀(j:Nat) (a v:Value) (e:MapEntry),es[j]? =some (a,v)->ents.toList[j]? =some e->e.key=a/\VR σ v e.val:=fun j a v e x y=>hh j a v e x (by simpa using y)
 split
 ·rename_i r' hr'
  exact⟨r',rfl,Av hu es ents.toList 0 r r' (by simpa using hl.symm) hh' h hr'⟩
 ·exact vk hk es ents.toList 0 r (by simpa using hl.symm) hh' h
def cU(P:Program)(H:AH)(t:TypeId)(x k:Value)(ok:Bool):Option Value:=match P.underlying t with
 |some (.map kt e)=>
  if plain k=true/\dR P 10000 kt k=true/\(P.underlying kt).isSome=true then
   match cw P e with
   |some z=>
    if plain z=true then
     match x with
     | .map none=>some (if ok=true then .tuple #[z,.bool false]else z)
     | .map (some n)=>
       match at_ H n with
       | .map es=>match bP P kt k es 0 with
         |some (some (_,v))=>some (if ok=true then .tuple #[v,.bool true]else v)
         |some none=>some (if ok=true then .tuple #[z,.bool false]else z)
         |none=>none
       |_=>none
     |_=>none
    else none
   |none=>none
  else none
 |_=>none
theorem Rs2{σ:Ren}{a a' b b':Value}(h:VR σ a a')(k:VR σ b b'):VR σ (.tuple #[a,b]) (.tuple #[a',b']):=(Rs.cons h (Rs.cons k (Rs.nil σ))).tuple
theorem okv{σ:Ren}(ok c:Bool){v v':Value}(h:VR σ v v'):VR σ (if ok=true then .tuple #[v,.bool c]else v) (if ok=true then .tuple #[v',.bool c]else v'):=by
 cases ok
 ·simpa using h
 ·simpa using Rs2 h (.bool c)
theorem sR{σ:Ren}{H:AH}{w:World}(hr:HR σ H w){n b s:Nat}{es:List (Value×Value)}(hn:σ n=some (b,0,s))(he:at_ H n= .map es):
 ∃ents:Array MapEntry,w.heap[b]? =some (.map ents ents.size)/\ents.size=es.length/\(∀(j:Nat) (a v:Value) (e:MapEntry),es[j]? =some (a,v)->ents[j]? =some e->e.key=a/\VR σ v e.val)/\(∀(j:Nat) (e:MapEntry),ents[j]? =some e->e.born=j):=by
 have ho:=hr.obj _ _ hn
 rw[he]at ho
 obtain⟨_,ents,h1,h2,h3⟩:=ho
 refine⟨ents,h1,h2,fun j a v e x y=>⟨(h3 j a v e x y).1,(h3 j a v e x y).2.1⟩,fun j e y=> ?_⟩
 have hj:=(Fh.1 y).1
 have hj':j<es.length:=by omega
 exact(h3 j es[j].1 es[j].2 e (Ex hj') y).2.2
theorem yM{P:Program}{σ:Ren}{H:AH}{w:World}(hr:HR σ H w){t:TypeId}{x x' k k' v:Value}{ok:Bool}(hx:VR σ x x')(hk:VR σ k k')(h:cU P H t x k ok=some v):
 ∃v',(Instr.lookup t x' k' ok).run P w= .ok v' w/\VR σ v v':=by
 unfold cU at h
 split at h
 ·rename_i kt e hu
  split at h
  ·rename_i hc
   obtain⟨hp,hck,hus⟩:=hc
   obtain⟨d,hud⟩:=F6.1 hus
   have:=uX hk hp;subst this
   split at h
   ·rename_i z hz
    split at h
    ·rename_i hpz
     split at h
     ·cases hx;cases h
      refine⟨_,?_,okv ok false (cT σ hpz)⟩
      simp only[Instr.lookup,ED,bu hu,Result.andThen_ok,Sem.run_pure,gm _ _ _ hck]
      simp only[Instr.findKey,ED,bu hud,Result.andThen_ok,Instr.findNow,Sem.run_pure,mB hz]
     ·rename_i n
      cases hx with
      |map hn=>
       rename_i b s
       split at h
       ·rename_i es he
        obtain⟨ents,g1,g2,g3,g4⟩:=sR hr hn he
        split at h
        ·rename_i i v0 hf
         cases h
         obtain⟨r',f1,f2⟩:=gx (w:=w) hp hud g2 g3 hf
         cases r' with
         |none=>exact f2.elim
         |some y=>
          obtain⟨j,v'⟩:=y
          obtain⟨rfl,f2⟩:=f2
          refine⟨_,?_,okv ok true f2⟩
          simp only[Instr.lookup,ED,bu hu,Result.andThen_ok,Sem.run_pure]
          simp only[getObj,Sem.run,g1,Result.andThen_ok,ED,gm _ _ _ hck,f1,Sem.run_pure]
        ·rename_i hf
         cases h
         obtain⟨r',f1,f2⟩:=gx (w:=w) hp hud g2 g3 hf
         cases r' with
         |some y=>exact f2.elim
         |none=>
          refine⟨_,?_,okv ok false (cT σ hpz)⟩
          simp only[Instr.lookup,ED,bu hu,Result.andThen_ok,Sem.run_pure]
          simp only[getObj,Sem.run,g1,Result.andThen_ok,ED,gm _ _ _ hck,f1,Sem.run_pure,mB hz]
        ·cases h
       ·cases h
     ·cases h
    ·cases h
   ·cases h
  ·cases h
 ·cases h
def cK(H:AH)(r:Option Value):Option (Value×AH):=match r with|none=>some (.map (some H.length),H++[.map []])|_=>none
theorem wY{P:Program}{σ:Ren}{H H':AH}{w:World}(hr:HR σ H w){t:TypeId}{r:Value}{o o':Option Value}(ho:OV σ o o')(h:cK H o=some (r,H')):
 ∃r' w' σ',(Instr.makeMap t o').run P w= .ok r' w'/\VR σ' r r'/\HR σ' H' w'/\Ext σ H w σ' H' w':=by
 unfold cK at h
 split at h
 ·cases h
  cases o' with
  |some v=>exact ho.elim
  |none=>
   obtain⟨g1,g2⟩:=hr.alloc (.map []) (.map #[] 0) 0 ⟨rfl,#[],heap_alloc_new w _,rfl,by simp⟩
   refine⟨.map (some w.heap.size),w.alloc (.map #[] 0),_,?_,.map (dI _ _ _),g1,g2⟩
   rfl
 ·cases h
def cR(P:Program)(H:AH)(t:TypeId)(m k v:Value):Option AH:=match P.underlying t,m with
 |some (.map kt _),.map (some n)=>
  if plain k=true/\dR P 10000 kt k=true/\(P.underlying kt).isSome=true then
   match at_ H n with
   | .map es=>match bP P kt k es 0 with
     |some (some (i,_))=>if Instr.sameBits 10000 ((es[i]?.map (·.1)).getD k) k=true then some (H.set n (.map (es.set i (k,v))))else none
     |some none=>some (H.set n (.map (es++[(k,v)])))
     |none=>none
   |_=>none
  else none
 |_,_=>none
theorem kO{P:Program}{σ:Ren}{H:AH}{w:World}(hr:HR σ H w){n b s:Nat}{es es2:List (Value×Value)}{ents ents2:Array MapEntry}(hn:σ n=some (b,0,s))(he:at_ H n= .map es)(hb:w.heap[b]? =some (.map ents ents.size))(h2:ents2.size=es2.length)(h3: ∀(i:Nat) (k v:Value) (e:MapEntry),es2[i]? =some (k,v)->ents2[i]? =some e->e.key=k/\VR σ v e.val/\e.born=i):
 ∃w',(setObj b (.map ents2 ents2.size)).run P w= .ok () w'/\HR σ (H.set n (.map es2)) w'/\Ext σ H w σ (H.set n (.map es2)) w':=by
 have hlt:=(Fh.1 hb).1
 obtain⟨g1,g2⟩:=hr.update (w':={w with heap:=w.heap.setIfInBounds b (.map ents2 ents2.size)}) hn (by rw[he];rfl) (.map es2) (by simp) rfl rfl rfl
  (fun c hc=>by simp only at hc;simp only[FC];rw[if_neg (Fg hc)]) ⟨rfl,ents2,by simp[hlt],h2,h3⟩
 refine⟨_,?_,g1,g2⟩
 simp only[setObj,Sem.run,hb]
theorem mC{P:Program}{σ:Ren}{H H':AH}{w:World}(hr:HR σ H w){t:TypeId}{m m' k k' v v':Value}(hm:VR σ m m')(hk:VR σ k k')(hv:VR σ v v')(h:cR P H t m k v=some H'):
 ∃w',(Instr.mapUpdate t m' k' v').run P w= .ok () w'/\HR σ H' w'/\Ext σ H w σ H' w':=by
 unfold cR at h
 split at h
 ·rename_i kt e n hu
  cases hm with
  |map hn=>
   rename_i b s
   split at h
   ·rename_i hc
    obtain⟨hp,hck,hus⟩:=hc
    obtain⟨d,hud⟩:=F6.1 hus
    have:=uX hk hp;subst this
    split at h
    ·rename_i es he
     obtain⟨ents,g1,g2,g3,g4⟩:=sR hr hn he
     split at h
     ·rename_i i v0 hf
      split at h
      ·rename_i hsb
       cases h
       obtain⟨r',f1,f2⟩:=gx (w:=w) hp hud g2 g3 hf
       cases r' with
       |none=>exact f2.elim
       |some y=>
        obtain⟨j,v''⟩:=y
        obtain⟨rfl,f2⟩:=f2
        have hold:((ents[i]?).map (·.key)).getD k'=((es[i]?.map (·.1)).getD k'):=by
         by_cases hi:i<ents.size
         ·have hi':i<es.length:=by omega
          rw[EQ hi,Ex hi']
          simp only[Option.map_some,Option.getD_some]
          exact(g3 i es[i].1 es[i].2 ents[i] (Ex hi') (EQ hi)).1
         ·rw[G8 (by omega),Fd (by omega)];rfl
        let ents2:=ents.modify i fun e=>{e with key:=k',val:=v'}
        have hsz:ents2.size=ents.size:=by simp[ents2]
        obtain⟨w',q1,q2,q3⟩:=kO (P:=P) (es2:=es.set i (k',v)) (ents2:=ents2) hr hn he g1 (by rw[hsz,EA];exact g2) (by
         intro a kk vv ee x y
         simp only[ents2,GF]at y
         rw[Ff]at x
         split at x
         ·rename_i e1;subst e1
          rw[if_pos rfl]at y
          split at x
          ·cases x
           simp only[EB]at y
           obtain⟨e0,y1,rfl⟩:=y
           exact⟨rfl,hv,g4 i e0 y1⟩
          ·cases x
         ·rename_i e1;rw[if_neg e1]at y
          exact⟨(g3 a kk vv ee x y).1,(g3 a kk vv ee x y).2,g4 a ee y⟩)
        refine⟨w',?_,q2,q3⟩
        simp only[Instr.mapUpdate,ED,bu hu,Result.andThen_ok]
        simp only[getObj,Sem.run,g1,Result.andThen_ok,ED,gm _ _ _ hck,f1,Instr.keyThatStays,hold,hsb,if_true,Sem.run_pure]
        rw[<-q1,hsz]
      ·cases h
     ·rename_i hf
      cases h
      obtain⟨r',f1,f2⟩:=gx (w:=w) hp hud g2 g3 hf
      cases r' with
      |some y=>exact f2.elim
      |none=>
       obtain⟨w',q1,q2,q3⟩:=kO (P:=P) (es2:=es++[(k',v)]) (ents2:=ents.push {key:=k',val:=v',born:=ents.size}) hr hn he g1 (by simp[g2]) (by
        intro a kk vv ee x y
        rw[FI]at x
        rw[Array.getElem?_push]at y
        split at x
        ·rename_i hlt
         rw[if_neg (by omega)]at y
         exact⟨(g3 a kk vv ee x y).1,(g3 a kk vv ee x y).2,g4 a ee y⟩
        ·rename_i hge
         have ha:a=es.length:=by
          have:=(Ey.1 x).1
          simp at this;omega
         rw[if_pos (by omega)]at y
         subst ha
         simp at x y
         obtain⟨rfl,rfl⟩:=x
         subst y
         exact⟨rfl,hv,g2⟩)
       refine⟨w',?_,q2,q3⟩
       simp only[Instr.mapUpdate,ED,bu hu,Result.andThen_ok]
       simp only[getObj,Sem.run,g1,Result.andThen_ok,ED,gm _ _ _ hck,f1]
       rw[<-q1]
       simp
     ·cases h
    ·cases h
   ·cases h
 ·cases h
def lV(P:Program)(H:AH)(t:TypeId)(m k:Value):Option (Value×AH):=match P.underlying t,m with
 |some (.map kt e),.map (some n)=>
  if plain k=true/\dR P 10000 kt k=true/\(P.underlying kt).isSome=true then
   match at_ H n with
   | .map es=>match bP P kt k es 0 with
     |some (some (i,v))=>if Instr.sameBits 10000 ((es[i]?.map (·.1)).getD k) k=true/\i<es.length then some (.tuple #[v,O U i],H.set n (.map (es.set i (k,(es[i]?.map (·.2)).getD v))))else none
     |some none=>match cw P e with
      |some z=>if plain z=true then some (.tuple #[z,O U es.length],H.set n (.map (es++[(k,z)])))else none
      |none=>none
     |none=>none
   |_=>none
  else none
 |_,_=>none
theorem vj{P:Program}{σ:Ren}{H H':AH}{w:World}(hr:HR σ H w){t:TypeId}{m m' k k' r:Value}(hm:VR σ m m')(hk:VR σ k k')(h:lV P H t m k=some (r,H')):
 ∃r' w',(Instr.mapEntry t m' k').run P w= .ok r' w'/\VR σ r r'/\HR σ H' w'/\Ext σ H w σ H' w':=by
 unfold lV at h
 split at h
 ·rename_i kt e n hu
  cases hm with
  |map hn=>
   rename_i b s
   split at h
   ·rename_i hc
    obtain⟨hp,hck,hus⟩:=hc
    obtain⟨d,hud⟩:=F6.1 hus
    have:=uX hk hp;subst this
    split at h
    ·rename_i es he
     obtain⟨ents,g1,g2,g3,g4⟩:=sR hr hn he
     split at h
     ·rename_i i v0 hf
      split at h
      ·rename_i hsb
       obtain⟨hsb,hil⟩:=hsb
       cases h
       obtain⟨r',f1,f2⟩:=gx (w:=w) hp hud g2 g3 hf
       cases r' with
       |none=>exact f2.elim
       |some y=>
        obtain⟨j,v''⟩:=y
        obtain⟨rfl,f2⟩:=f2
        have hi:i<ents.size:=by omega
        have hold:((ents[i]?).map (·.key)).getD k'=((es[i]?.map (·.1)).getD k'):=by
         rw[EQ hi,Ex hil]
         simp only[Option.map_some,Option.getD_some]
         exact(g3 i es[i].1 es[i].2 ents[i] (Ex hil) (EQ hi)).1
        let ents2:=ents.modify i fun e=>{e with key:=k'}
        have hsz:ents2.size=ents.size:=by simp[ents2]
        obtain⟨w',q1,q2,q3⟩:=kO (P:=P) (es2:=es.set i (k',(es[i]?.map (·.2)).getD v0)) (ents2:=ents2) hr hn he g1 (by rw[hsz,EA];exact g2) (by
         intro a kk vv ee x y
         simp only[ents2,GF]at y
         rw[Ff]at x
         split at x
         ·rename_i e1;subst e1
          rw[if_pos rfl]at y
          cases x
          simp only[EB]at y
          obtain⟨e0,y1,rfl⟩:=y
          refine⟨rfl,?_,g4 i e0 y1⟩
          rw[Ex hil]
          exact(g3 i es[i].1 es[i].2 e0 (Ex hil) y1).2
         ·rename_i e1;rw[if_neg e1]at y
          exact⟨(g3 a kk vv ee x y).1,(g3 a kk vv ee x y).2,g4 a ee y⟩)
        refine⟨.tuple #[v'',O U i],w',?_,Rs2 f2 (.int _ _),q2,q3⟩
        have hborn:(((ents[i]?).map fun x=>(x.born:Int)).getD 0)=i:=by
         rw[EQ hi]
         simp only[Option.map_some,Option.getD_some,g4 i _ (EQ hi)]
        simp only[Instr.mapEntry,ED,bu hu,Result.andThen_ok]
        simp only[getObj,Sem.run,g1,Result.andThen_ok,ED,gm _ _ _ hck,f1,Instr.keyThatStays,hold,hsb,if_true,Sem.run_pure,hborn]
        rw[hsz]at q1
        rw[q1]
        simp only[Result.andThen_ok,goInt,hborn]
      ·cases h
     ·rename_i hf
      split at h
      ·rename_i z hz
       split at h
       ·rename_i hpz
        cases h
        obtain⟨r',f1,f2⟩:=gx (w:=w) hp hud g2 g3 hf
        cases r' with
        |some y=>exact f2.elim
        |none=>
         obtain⟨w',q1,q2,q3⟩:=kO (P:=P) (es2:=es++[(k',z)]) (ents2:=ents.push {key:=k',val:=z,born:=ents.size}) hr hn he g1 (by simp[g2]) (by
          intro a kk vv ee x y
          rw[FI]at x
          rw[Array.getElem?_push]at y
          split at x
          ·rename_i hlt
           rw[if_neg (by omega)]at y
           exact⟨(g3 a kk vv ee x y).1,(g3 a kk vv ee x y).2,g4 a ee y⟩
          ·rename_i hge
           have ha:a=es.length:=by
            have:=(Ey.1 x).1
            simp at this;omega
           rw[if_pos (by omega)]at y
           subst ha
           simp at x y
           obtain⟨rfl,rfl⟩:=x
           subst y
           exact⟨rfl,cT σ hpz,g2⟩)
         refine⟨.tuple #[z,O U es.length],w',?_,Rs2 (cT σ hpz) (.int _ _),q2,q3⟩
         simp only[Instr.mapEntry,ED,bu hu,Result.andThen_ok]
         simp only[getObj,Sem.run,g1,Result.andThen_ok,ED,gm _ _ _ hck,f1,mB hz]
         rw[Array.size_push]at q1
         rw[q1]
         simp only[Result.andThen_ok,goInt,g2]
         rfl
       ·cases h
      ·cases h
     ·cases h
    ·cases h
   ·cases h
 ·cases h
def iU(H:AH)(m st v:Value):Option AH:=match m,st with
 | .map (some n),.int _ i=>
   match at_ H n with
   | .map es=>if 0<=i/\i<es.length then(es[i.toNat]?).map fun x=>H.set n (.map (es.set i.toNat (x.1,v)))else none
   |_=>none
 |_,_=>none
theorem sE{P:Program}{σ:Ren}{H H':AH}{w:World}(hr:HR σ H w){t:TypeId}{m m' k k' v v':Value}(hm:VR σ m m')(hk:VR σ k k')(hv:VR σ v v')(h:iU H m k v=some H'):
 ∃w',(Instr.entryStore t m' k' v').run P w= .ok () w'/\HR σ H' w'/\Ext σ H w σ H' w':=by
 unfold iU at h
 split at h
 ·rename_i n kk i
  cases hm with
  |map hn=>
   rename_i b s
   cases hk
   split at h
   ·rename_i es he
    split at h
    ·rename_i hi
     obtain⟨h0,h1⟩:=hi
     simp only[EB]at h
     obtain⟨x,hx,rfl⟩:=h
     obtain⟨ents,g1,g2,g3,g4⟩:=sR hr hn he
     have hi:i.toNat<ents.size:=by omega
     have hfind:ents.findIdx? (fun e=>(e.born:Int)==i)=some i.toNat:=by
      rw[Array.findIdx?_eq_some_iff_getElem]
      refine⟨hi,?_,fun j hj=> ?_⟩
      ·have:=g4 i.toNat _ (EQ hi)
       rw[this];simp;omega
      ·have:=g4 j _ (EQ (by omega))
       rw[this];simp;omega
     let ents2:=ents.modify i.toNat fun e=>{e with val:=v'}
     have hsz:ents2.size=ents.size:=by simp[ents2]
     obtain⟨w',q1,q2,q3⟩:=kO (P:=P) (es2:=es.set i.toNat (x.1,v)) (ents2:=ents2) hr hn he g1 (by rw[hsz,EA];exact g2) (by
      intro a kk vv ee x' y
      simp only[ents2,GF]at y
      rw[Ff]at x'
      split at x'
      ·rename_i e1;subst e1
       rw[if_pos rfl]at y
       split at x'
       ·cases x'
        simp only[EB]at y
        obtain⟨e0,y1,rfl⟩:=y
        exact⟨(g3 i.toNat x.1 x.2 e0 hx y1).1,hv,g4 i.toNat e0 y1⟩
       ·cases x'
      ·rename_i e1;rw[if_neg e1]at y
       exact⟨(g3 a kk vv ee x' y).1,(g3 a kk vv ee x' y).2,g4 a ee y⟩)
     refine⟨w',?_,q2,q3⟩
     simp only[Instr.entryStore,ED,getObj,Sem.run,g1,Result.andThen_ok,asInt,asIntOf,Sem.run_pure,hfind]
     rw[<-q1,hsz]
    ·cases h
   ·cases h
 ·cases h
end Go.Ev
