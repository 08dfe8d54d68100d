import Derived.Test.YtjcomcgpjjianaaA2
set_option linter.all false
set_option maxHeartbeats 16000000
set_option maxRecDepth 8000
open Go.Value renaming int→O
open Go.IntKind renaming i64→U
namespace Go.Ev
def aC(P:Program)(H:AH)(it:TypeInfo)(xt:Option TypeId)(x:Value):Option (Nat×List Value):=match xt.bind P.underlying with
 |some (.int _)=>match x,it.zero with
  | .int _ m,some z=>if 0<=m/\m<=9223372036854775807/\plain z=true/\z.cells.size=it.size/\0<it.size/\m*it.bytes<=281474976710656 then some (m.toNat,(Builtin.zeroCells z.cells m.toNat).toList)else none
  |_,_=>none
 |some _=>match x with
  | .slice none 0 0=>some (0,[])
  | .slice (some ⟨_,_,some _⟩) l _=>if l=0 then some (0,[])else none
  | .slice (some ⟨n,i,none⟩) l _=>(ak H n i (l*it.size)).map fun c=>(l,c)
  |_=>none
 |none=>none
structure xr(P:Program)(it:TypeInfo)(e:TypeId)(xt:TypeId)(x':Value)(w:World)(m:Nat)(news':List Value):Prop where
 len:news'.length=m*it.size
 run:((∃d,P.underlying xt=some d/\ ∀k,d≠ .int k)/\(Builtin.lenOf x').run P w= .ok m w/\(∀w1,w1.heap=w.heap->(Builtin.firstCells it.size m x').run P w1= .ok news'.toArray w1))\/(∃k k' mi z,P.underlying xt=some (.int k)/\x'= .int k' mi/\0<=mi/\mi<=9223372036854775807/\mi.toNat=m/\it.zero=some z/\(Builtin.zeroCells z.cells m)=news'.toArray/\z.cells.size=it.size/\0<it.size/\mi*it.bytes<=281474976710656)
theorem lY(σ:Ren){z:Value}(h:plain z=true)(n:Nat):Rs σ (Builtin.zeroCells z.cells n).toList (Builtin.zeroCells z.cells n).toList:=by
 have:=oV σ h (n*z.cells.size)
 exact this
theorem news_ok{P:Program}{σ:Ren}{H:AH}{w:World}(hr:HR σ H w){it:TypeInfo}{e xt:TypeId}{x x':Value}(hx:VR σ x x'){m:Nat}{l:List Value}(h:aC P H it (some xt) x=some (m,l)): ∃l',Rs σ l l'/\xr P it e xt x' w m l':=by
 unfold aC at h
 simp only[Option.bind_some]at h
 split at h
 ·rename_i k hk
  split at h
  ·rename_i k' mi z hz
   cases hx
   split at h
   ·rename_i hc
    obtain⟨h1,h2,h3,h4,h5,h6⟩:=hc
    cases h
    refine⟨_,lY σ h3 mi.toNat,⟨by simp[Builtin.zeroCells,h4],.inr ⟨k,k',mi,z,hk,rfl,h1,h2,rfl,hz,by simp,h4,h5,h6⟩⟩⟩
   ·cases h
  ·cases h
 ·rename_i d hd hu
  have hni: ∃d,P.underlying xt=some d/\ ∀k,d≠ .int k:=⟨d,hu,fun k hk=>hd k (by rw[hk])⟩
  split at h
  ·cases h;cases hx
   exact⟨[],Rs.nil σ,⟨by simp,.inl ⟨hni,rfl,fun _ _=>rfl⟩⟩⟩
  ·split at h
   ·rename_i hl0
    cases h;subst hl0
    refine⟨[],Rs.nil σ,⟨by simp,.inl ⟨hni,?_,?_⟩⟩⟩
    ·cases hx<;>rfl
    ·intro w1 _
     cases hx<;>(simp[Builtin.firstCells,loadCells,loadCellsFrom])
   ·cases h
  ·rename_i n i l0 c0
   simp only[EB,Fe]at h
   obtain⟨c,hc,rfl,rfl⟩:=h
   cases hx with
   |sl hσ hcap=>
    rename_i c' b o s
    obtain⟨l',e1,e2,e3⟩:=qq hr hσ hc
    refine⟨l',e3,⟨e1,.inl ⟨hni,rfl,fun w1 hw1=> ?_⟩⟩⟩
    simp only[Builtin.firstCells,e2 P w1 hw1]
  ·cases h
 ·cases h
section
variable {P:Program}{w:World}{ts:Array TypeId}{t0 xt ty e:TypeId}{it:TypeInfo}{z:Value}{x':Value}{m:Nat}{l':List Value}
theorem td(ht0:ts[0]? =some t0)(ht1:ts[1]? =some xt)(hu:P.underlying t0=some (.slice e))(hi:P.info? e=some it)(hz:it.zero=some z)(base:Option Addr)(sLen sCap:Nat)(olds:List Value)(hold: ∀w1,w1.heap=w.heap->(Builtin.firstCells it.size sLen (.slice base sLen sCap)).run P w1= .ok olds.toArray w1)(hn:xr P it e xt x' w m l')(hle:sLen<=sCap)(hg:sCap<sLen+m)(h63:((sLen+m:Nat):Int)<=9223372036854775807)(hfit:Builtin.nextslicecap (sLen+m) sCap*it.bytes<=281474976710656):
 (Builtin.append_ ts ty #[.slice base sLen sCap,x']).run P w=
  .ok (.slice (some ⟨w.heap.size,0,none⟩) (sLen+m) (grownCap w (sLen+m) sCap e))
   (w.drew.alloc (.cells (olds++l'++(Builtin.zeroCells z.cells (grownCap w (sLen+m) sCap e-(sLen+m))).toList).toArray e)):=by
 have hn': ¬(sLen+m<=sCap):=by omega
 have h63': ¬(9223372036854775807<((sLen:Int)+(m:Int))):=by omega
 have h48': ¬(281474976710656<Builtin.nextslicecap (sLen+m) sCap*it.bytes):=by omega
 have hfo:=hold w.drew rfl
 rcases hn.run with ⟨h1,h2,h3⟩|⟨k,k',mi,z',h1,rfl,h2,h3,rfl,h4,h5,h6,h7,h8⟩
 ·have hf:=h3 w.drew rfl
  obtain⟨d,hux,hd⟩:=h1
  have hm:(match d with| .int _=>true|_=>false)=false:=by cases d<;>first|rfl|exact absurd rfl (hd _)
  simp[Builtin.append_,ht0,ht1,run_underlying hu,run_underlying hux,sizeOf,typeInfo,zeroValue,hi,hz,h2,hn',h63',h48',Question.forced,hf,hfo,newRow,grownCap,hm]
  congr 2
  apply F9
  simp[EH]
 ·have hw:IntKind.i64.wrap mi=mi:=by rw[EP];omega
  have g1: ¬mi<0:=by omega
  have g2: ¬(281474976710656<mi*(it.bytes:Int)):=by omega
  have g3: ¬(mi.toNat*it.size=0):=by
   intro h0;rcases Nat.mul_eq_zero.1 h0 with h0|h0<;>omega
  have g4: ¬(9223372036854775807<(sLen:Int)+max mi 0):=by omega
  rw[hz]at h4;cases h4
  simp[Builtin.append_,ht0,ht1,run_underlying hu,run_underlying h1,sizeOf,typeInfo,zeroValue,hi,hz,asInt,asIntOf,hw,g1,g2,g3,g4,hn',h63',h48',Question.forced,hfo,newRow,grownCap,h5]
  congr 2
  apply F9
  simp[EH]
theorem zk(ht0:ts[0]? =some t0)(ht1:ts[1]? =some xt)(hu:P.underlying t0=some (.slice e))(hi:P.info? e=some it)(a:Addr)(sLen sCap:Nat)(hn:xr P it e xt x' w m l')(hg:sLen+m<=sCap):
 (Builtin.append_ ts ty #[.slice (some a) sLen sCap,x']).run P w=((storeCells (a.add (sLen*it.size)) l').run P w).andThen fun _ w'=> .ok (.slice (some a) (sLen+m) sCap) w':=by
 rcases hn.run with ⟨h1,h2,h3⟩|⟨k,k',mi,z',h1,rfl,h2,h3,rfl,h4,h5,h6,h7,h8⟩
 ·have hf:=h3 w rfl
  obtain⟨d,hux,hd⟩:=h1
  have hm:(match d with| .int _=>true|_=>false)=false:=by cases d<;>first|rfl|exact absurd rfl (hd _)
  simp[Builtin.append_,ht0,ht1,run_underlying hu,run_underlying hux,sizeOf,typeInfo,hi,h2,hg,hf,hm]
 ·have hw:IntKind.i64.wrap mi=mi:=by rw[EP];omega
  have g1: ¬mi<0:=by omega
  have g2: ¬(281474976710656<mi*(it.bytes:Int)):=by omega
  by_cases g3:mi.toNat*it.size=0
  ·have hl0:l'=[]:=by
    apply FQ
    rw[hn.len];exact g3
   subst hl0
   simp[Builtin.append_,ht0,ht1,run_underlying hu,run_underlying h1,sizeOf,typeInfo,zeroValue,hi,h4,asInt,asIntOf,hw,g1,g2,g3,hg,storeCells]
  ·simp[Builtin.append_,ht0,ht1,run_underlying hu,run_underlying h1,sizeOf,typeInfo,zeroValue,hi,h4,asInt,asIntOf,hw,g1,g2,g3,hg,h5]
theorem run_none(ht0:ts[0]? =some t0)(ht1:ts[1]? =some xt)(hu:P.underlying t0=some (.slice e))(hi:P.info? e=some it)(hn:xr P it e xt x' w 0 l'):
 (Builtin.append_ ts ty #[.slice none 0 0,x']).run P w= .ok (.slice none 0 0) w:=by
 rcases hn.run with ⟨h1,h2,h3⟩|⟨k,k',mi,z',h1,rfl,h2,h3,h9,h4,h5,h6,h7,h8⟩
 ·have hf:=h3 w rfl
  obtain⟨d,hux,hd⟩:=h1
  have hm:(match d with| .int _=>true|_=>false)=false:=by cases d<;>first|rfl|exact absurd rfl (hd _)
  simp[Builtin.append_,ht0,ht1,run_underlying hu,run_underlying hux,sizeOf,typeInfo,hi,h2,hf,hm]
 ·have hw:IntKind.i64.wrap mi=mi:=by rw[EP];omega
  have g1: ¬mi<0:=by omega
  have g2: ¬(281474976710656<mi*(it.bytes:Int)):=by omega
  have h0:mi=0:=by omega
  subst h0
  simp[Builtin.append_,ht0,ht1,run_underlying hu,run_underlying h1,sizeOf,typeInfo,zeroValue,hi,h4,asInt,asIntOf,hw]
end
def bD(P:Program)(H:AH)(ts:Array TypeId)(s x:Value):Option (Value×AH):=match ts[0]?.bind P.underlying with
 |some (.slice e)=>
  match P.info? e with
  |some it=>
   match it.zero,aC P H it ts[1]? x with
   |some z,some (m,l)=>
    if z.cells.size=it.size/\0<it.size/\l.all one=true then
     match s with
     | .slice none 0 0=>
       if m=0 then some (s,H)
       else if m*it.bytes<=140737488355328/\m<=9223372036854775807 then some (.slice (some ⟨H.length,0,none⟩) m (unk+it.size),H++[.cells l e])else none
     | .slice (some ⟨n,i,none⟩) len c=>
       if(len+m)*it.bytes<=140737488355328/\len+m<=9223372036854775807 then
        if c=unk+it.size then
         match at_ H n with
         | .cells cont e'=>if e'=e/\i=0/\cont.length=len*it.size then
          some (.slice (some ⟨H.length,0,none⟩) (len+m) (unk+it.size),H.set n .dead++[.cells (cont++l) e])else none
         |_=>none
        else if c<unk then
         if len+m<=c then
          match at_ H n with
          | .cells cont e'=>if i+(len+m)*it.size<=cont.length then some (.slice (some ⟨n,i,none⟩) (len+m) c,H.set n (.cells (setAll cont (i+len*it.size) l) e'))else none
          |_=>none
         else if len<=c then
          (ak H n i (len*it.size)).map fun old=>(.slice (some ⟨H.length,0,none⟩) (len+m) (unk+it.size),H++[.cells (old++l) e])
         else none
        else none
       else none
     |_=>none
    else none
   |_,_=>none
  |none=>none
 |_=>none
theorem HR.kill{σ:Ren}{H:AH}{w:World}(h:HR σ H w)(n:Nat):HR σ (H.set n .dead) w/\Ext σ H w σ (H.set n .dead) w:=by
 have hat: ∀m,at_ (H.set n .dead) m= .dead\/at_ (H.set n .dead) m=at_ H m:=by
  intro m
  by_cases e:n=m
  ·subst e
   unfold at_
   rw[Ff]
   simp only[if_true]
   split<;>exact .inl rfl
  ·exact .inr (af e _)
 refine⟨⟨fun m x hm=>by have:=h.dom m x hm;exact⟨by simpa using this.1,this.2⟩,?_,?_⟩,⟨fun _ _ h=>h,fun _ _ h=> .inl h,by simp,EJ _,rfl,rfl,rfl,fun _ _ _=>rfl,?_,?_⟩⟩
 ·intro m x hm
  rcases hat m with e|e
  ·rw[e];trivial
  ·rw[e];exact h.obj m x hm
 ·intro k m x y hk hm hne hr hl
  rcases hat k with e|e
  ·rw[e]at hr;cases hr
  ·rcases hat m with f|f
   ·rw[f]at hl;cases hl
   ·rw[e]at hr;rw[f]at hl;exact h.inj k m x y hk hm hne hr hl
 ·intro m x hm hr _
  rcases hat m with e|e
  ·rw[e]at hr;cases hr
  ·rw[e]at hr;exact⟨m,x,hm,hr,rfl⟩
 ·intro m x hm hr _
  rcases hat m with e|e
  ·rw[e]at hr;cases hr
  ·rw[e]at hr;exact⟨m,x,hm,hr,rfl⟩
theorem HR.move{σ:Ren}{H:AH}{w:World}(h:HR σ H w){n:Nat}{x:Loc}(hn:σ n=some x)(hr:(at_ H n).rw=true)(o:AO)(ho:OR σ w x o):
 HR (upd σ H.length x) (H.set n .dead++[o]) w/\Ext σ H w (upd σ H.length x) (H.set n .dead++[o]) w:=by
 have hnl:=(h.dom n x hn).1
 have hlen:(H.set n AO.dead).length=H.length:=by simp
 have hcase: ∀m y,upd σ H.length x m=some y->(m=H.length/\y=x)\/(σ m=some y/\m<H.length):=by
  intro m y hm
  by_cases e:m=H.length
  ·subst e;rw[dI]at hm;cases hm;exact .inl ⟨rfl,rfl⟩
  ·rw[kC _ e]at hm;exact .inr ⟨hm,(h.dom _ _ hm).1⟩
 have hatn:at_ (H.set n AO.dead++[o]) H.length=o:=by rw[<-hlen];exact aL _ o
 have hat: ∀m,m<H.length->at_ (H.set n AO.dead++[o]) m=if n=m then .dead else at_ H m:=by
  intro m hm
  rw[ag (by rw[hlen];exact hm)]
  split
  ·rename_i e;subst e;exact au hnl _
  ·rename_i e;exact af e _
 have hlive:(at_ H n).live=true:=by
  cases e:at_ H n<;>rw[e]at hr<;>first|rfl|cases hr
 refine⟨⟨?_,?_,?_⟩,⟨h.sub_upd _,?_,by simp,EJ _,rfl,rfl,rfl,fun _ _ _=>rfl,?_,?_⟩⟩
 ·intro m y hm
  rcases hcase m y hm with ⟨rfl,rfl⟩|⟨h1,h2⟩
  ·exact⟨by simp,(h.dom n _ hn).2⟩
  ·exact⟨by simp;omega,(h.dom m y h1).2⟩
 ·intro m y hm
  rcases hcase m y hm with ⟨rfl,rfl⟩|⟨h1,h2⟩
  ·rw[hatn];exact ho.keep (h.sub_upd _) rfl
  ·rw[hat m h2]
   split
   ·trivial
   ·exact(h.obj m y h1).keep (h.sub_upd _) rfl
 ·intro k m y z hk hm hne hrk hlm
  rcases hcase k y hk with ⟨rfl,rfl⟩|⟨h1,h2⟩<;>rcases hcase m z hm with ⟨rfl,rfl⟩|⟨k1,k2⟩
  ·exact absurd rfl hne
  ·rw[hat m k2]at hlm
   split at hlm
   ·cases hlm
   ·rename_i e;exact h.inj n m _ z hn k1 e hr hlm
  ·rw[hat k h2]at hrk
   split at hrk
   ·cases hrk
   ·rename_i e;exact h.inj k n y _ h1 hn (Fg e) hrk hlive
  ·rw[hat k h2]at hrk
   rw[hat m k2]at hlm
   split at hrk
   ·cases hrk
   ·split at hlm
    ·cases hlm
    ·exact h.inj k m y z h1 k1 hne hrk hlm
 ·intro m y hm
  rcases hcase m y hm with ⟨rfl,rfl⟩|⟨h1,h2⟩
  ·exact .inr ⟨h.fresh,EJ _⟩
  ·exact .inl h1
 ·intro m y hm hrm _
  rcases hcase m y hm with ⟨rfl,rfl⟩|⟨h1,h2⟩
  ·exact⟨n,_,hn,hr,rfl⟩
  ·rw[hat m h2]at hrm
   split at hrm
   ·cases hrm
   ·exact⟨m,y,h1,hrm,rfl⟩
 ·intro m y hm hrm _
  rcases hcase m y hm with ⟨rfl,rfl⟩|⟨h1,h2⟩
  ·exact⟨n,_,hn,hlive,rfl⟩
  ·rw[hat m h2]at hrm
   split at hrm
   ·cases hrm
   ·exact⟨m,y,h1,hrm,rfl⟩
theorem OR.longer{σ:Ren}{w:World}{x:Loc}{c d:List Value}{e:TypeId}(h:OR σ w x (.cells c e))(hl:d.length<=c.length)(hd: ∀(i:Nat) (v:Value),d[i]? =some v->c[i]? =some v):OR σ w x (.cells d e):=by
 obtain⟨h0,cs,h1,h2,h3,h4⟩:=h
 exact⟨h0,cs,h1,by omega,h3,fun i v v' a b=>h4 i v v' (hd i v a) b⟩
theorem zR(l:List Value): ∀(c:List Value) (i j:Nat),(setAll c i l)[j]? =if i<=j/\j<i+l.length/\j<c.length then l[j-i]? else c[j]? :=by
 induction l with
 |nil=>intro c i j;simp only[setAll,List.length_nil];split<;>first|omega|rfl
 |cons v l ih=>
  intro c i j
  simp only[setAll,ih,EA,List.length_cons]
  by_cases h1:i+1<=j/\j<i+1+l.length/\j<c.length
  ·rw[if_pos h1,if_pos (by omega)]
   rw[show j-i=(j-(i+1))+1 by omega,List.getElem?_cons_succ]
  ·rw[if_neg h1,Ff]
   by_cases h2:i=j
   ·subst h2
    simp only[if_true]
    by_cases h3:i<c.length
    ·rw[if_pos h3,if_pos (by omega)];simp
    ·rw[if_neg h3,if_neg (by omega),Fd (by omega)]
   ·rw[if_neg h2,if_neg (by omega)]
theorem zL{P:Program}{σ:Ren}{H H':AH}{w:World}(hr:HR σ H w){ts:Array TypeId}{ty:TypeId}{s x s' x' r:Value}(hs:VR σ s s')(hx:VR σ x x')(h:bD P H ts s x=some (r,H')):
 ∃r' w' σ',(Builtin.append_ ts ty #[s',x']).run P w= .ok r' w'/\VR σ' r r'/\HR σ' H' w'/\Ext σ H w σ' H' w':=by
 unfold bD at h
 split at h
 ·rename_i e hte
  simp only[EN]at hte
  obtain⟨t0,ht0,hu⟩:=hte
  split at h
  ·rename_i it hi
   split at h
   ·rename_i z m l hz hnews
    cases hts:ts[1]? with
    |none=>rw[hts]at hnews;simp[aC]at hnews
    |some xt=>
     rw[hts]at hnews
     obtain⟨l',hll,hN⟩:=news_ok (e:=e) hr hx hnews
     split at h
     ·rename_i hc
      obtain⟨hzs,hsz,hone⟩:=hc
      split at h
      ·
       cases hs
       split at h
       ·rename_i hm;subst hm
        cases h
        exact⟨_,w,σ,run_none ht0 hts hu hi hN,.slNil,hr,Ext.refl _ _ _⟩
       ·rename_i hm
        split at h
        ·rename_i hb
         cases h
         have hg:=td (ty:=ty) ht0 hts hu hi hz none 0 0 [] (fun _ _=>rfl) hN (EJ _) (by omega) (by omega) (growslice_fits (by omega) (by simpa using hb.1))
         simp only[EU,List.nil_append]at hg
         have hrd:HR σ H w.drew:=hr.world rfl
         have hxd:Ext σ H w σ H w.drew:=Ext.world rfl rfl rfl rfl
         have hge:=grownCap_ge w m 0 e
         generalize hcap:grownCap w m 0 e=cap at hg hge
         have hll2:Rs σ l l':=hll
         obtain⟨g1,g2⟩:=hrd.alloc (.cells l e) (.cells (l'++(Builtin.zeroCells z.cells (cap-m)).toList).toArray e) (cap*it.size)
          ⟨rfl,_,heap_alloc_new _ _,by simp[hll.1],by
           simp only[Gn,Ez,hN.len,Array.length_toList,size_zeroCells,hzs,<-FX]
           congr 1;omega,fun i v v' a b=>by
           have hi2:i<l'.length:=by rw[<-hll.1];exact(Ey.1 a).1
           simp only[EX,Fo hi2]at b
           exact(hll.2 i v v' a b).mono (hrd.sub_upd _)⟩
         refine⟨_,_,_,hg,?_,g1,hxd.trans g2⟩
         have:=VR.sl (σ:=upd σ H.length (w.drew.heap.size,0,cap*it.size)) (i:=0) (len:=m) (c:=unk+it.size) (c':=cap) (dI _ _ _)
          ⟨hge,.inr ⟨Hb _ _,by rw[Fa];omega⟩⟩
         simpa using this
        ·cases h
      ·rename_i n i len c
       split at h
       ·rename_i hb
        obtain⟨hb1,hb2⟩:=hb
        cases hs with
        |sl hσ hcap=>
         rename_i c' b o s
         split at h
         ·rename_i hcu
          split at h
          ·rename_i cont e' hat
           split at h
           ·rename_i hce
            obtain⟨rfl,rfl,hcl⟩:=hce
            cases h
            have ho:=hr.obj n _ hσ
            rw[hat]at ho
            have ho':=ho
            obtain⟨h0,cs,q1,q2,q3,q4⟩:=ho
            simp only at h0 q1 q3;subst h0
            have hcap2:0+0+c'*it.size<=s:=by
             rcases hcap.2 with ⟨e1,_⟩|⟨_,e1⟩
             ·rw[hcu]at e1;exact absurd e1 (by omega)
             ·rw[hcu,Fa]at e1;exact e1
            have hrwn:(at_ H n).rw=true:=by rw[hat];rfl
            by_cases hroom:len+m<=c'
            ·
             have hpad:OR σ w (b,0,s) (.cells (cont++List.replicate (s-cont.length) (.tuple #[])) e'):=by
              refine⟨rfl,cs,q1,by simp;omega,q3,fun j v v' a b'=> ?_⟩
              rw[FI]at a
              split at a
              ·exact q4 j v v' a b'
              ·rw[FD]at a
               split at a
               ·cases a;exact .junk _
               ·cases a
             obtain⟨p1,p2⟩:=hr.update hσ hrwn _ rfl rfl rfl rfl (fun _ _=>rfl) hpad
             have hnl:=(hr.dom n _ hσ).1
             have hmul:(len+m)*it.size<=c'*it.size:=Nat.mul_le_mul_right _ hroom
             have hlen':l.length=m*it.size:=by rw[hll.1];exact hN.len
             obtain⟨w2,r1,r2,r3⟩:=gV (P:=P) (i:=len*it.size) l l' 0 _ _ w p1 hσ (au hnl _) (by
              rw[FX]at hmul
              simp only[Ez,Fy];omega) hone hll
             have hat2:at_ ((H.set n (.cells (cont++List.replicate (s-cont.length) (.tuple #[])) e')).set n (.cells (setAll (cont++List.replicate (s-cont.length) (.tuple #[])) (len*it.size+0) l) e')) n=
              .cells (setAll (cont++List.replicate (s-cont.length) (.tuple #[])) (len*it.size+0) l) e':=au (by simpa using hnl) _
             have hob:=r2.obj n _ hσ
             rw[hat2]at hob
             have hob2:OR σ w2 (b,0,s) (.cells (cont++l) e'):=by
              rw[FX]at hmul
              refine hob.longer (by simp[vo];omega) fun j v hv=> ?_
              rw[zR]
              rw[FI]at hv
              split at hv
              ·rename_i hj
               rw[if_neg (by omega),Fo hj];exact hv
              ·rename_i hj
               have hjl:=(Ey.1 hv).1
               rw[if_pos (by simp;omega)]
               rw[hcl]at hv
               simpa using hv
             obtain⟨m1,m2⟩:=r2.move hσ (by rw[hat2];rfl) _ hob2
             have hsets: ∀o1 o2:AO,((H.set n o1).set n o2).set n .dead=H.set n .dead:=fun o1 o2=>by rw[GU,GU]
             have hlens:((H.set n (.cells (cont++List.replicate (s-cont.length) (.tuple #[])) e')).set n (.cells (setAll (cont++List.replicate (s-cont.length) (.tuple #[])) (len*it.size+0) l) e')).length=H.length:=by simp
             rw[hsets,hlens]at m1 m2
             refine⟨.slice (some ⟨b,0+0,none⟩) (len+m) c',w2,_,?_,?_,m1,(p2.trans r3).trans m2⟩
             ·rw[zk (ty:=ty) ht0 hts hu hi ⟨b,0+0,none⟩ len c' hN hroom]
              simp only[eP,EU,Nat.add_zero]at r1⊢
              rw[r1];rfl
             ·have:=VR.sl (σ:=upd σ H.length (b,0,s)) (i:=0) (len:=len+m) (c:=unk+it.size) (c':=c') (dI _ _ _)
               ⟨hroom,.inr ⟨Hb _ _,by rw[Fa];exact hcap2⟩⟩
              simpa using this
            ·
             have hrd:ak H n 0 (len*it.size)=some cont:=by
              unfold ak aP
              rw[hat]
              simp only[Option.bind_some,EU,F4]
              rw[if_pos (by omega),<-hcl,Fp]
             obtain⟨old',f1,f2,f3⟩:=qq hr hσ hrd
             have hg:=td (ty:=ty) ht0 hts hu hi hz (some ⟨b,0+0,none⟩) len c' old' (fun w1 hw1=>by simpa[Builtin.firstCells]using f2 P w1 hw1) hN hcap.1 (by omega) (by omega) (growslice_fits (by omega) hb1)
             obtain⟨k1,k2⟩:=hr.kill n
             have hrd2:HR σ (H.set n .dead) w.drew:=k1.world rfl
             have hxd:Ext σ (H.set n .dead) w σ (H.set n .dead) w.drew:=Ext.world rfl rfl rfl rfl
             have hge:=grownCap_ge w (len+m) c' e'
             generalize hcp:grownCap w (len+m) c' e'=cap at hg hge
             obtain⟨g1,g2⟩:=hrd2.alloc (.cells (cont++l) e') (.cells (old'++l'++(Builtin.zeroCells z.cells (cap-(len+m))).toList).toArray e') (cap*it.size)
              ⟨rfl,_,heap_alloc_new _ _,by simp[hll.1,f3.1],by
               simp only[Gn,Ez,hN.len,f1,Array.length_toList,size_zeroCells,hzs,<-FX]
               congr 1;omega,fun j v v' a b'=>by
               have hj:j<(cont++l).length:=(Ey.1 a).1
               have hj2:j<(old'++l').length:=by rw[Ez,<-f3.1,<-hll.1];simpa using hj
               simp only[EX,Fo hj2]at b'
               exact((f3.append hll).2 j v v' a b').mono (hrd2.sub_upd _)⟩
             have hlens:(H.set n AO.dead).length=H.length:=by simp
             rw[hlens]at g1 g2
             refine⟨_,_,_,hg,?_,g1,(k2.trans hxd).trans g2⟩
             have:=VR.sl (σ:=upd σ H.length (w.drew.heap.size,0,cap*it.size)) (i:=0) (len:=len+m) (c:=unk+it.size) (c':=cap) (dI _ _ _)
              ⟨hge,.inr ⟨Hb _ _,by rw[Fa];omega⟩⟩
             simpa using this
           ·cases h
          ·cases h
         ·rename_i hcu
          split at h
          ·rename_i hcx
           have hcc:c'=c:=by
            rcases hcap.2 with ⟨_,e1⟩|⟨e1,_⟩
            ·exact e1
            ·omega
           subst hcc
           split at h
           ·rename_i hroom
            split at h
            ·rename_i cont e' hat
             split at h
             ·rename_i hfit
              cases h
              have ho:=hr.obj n _ hσ
              rw[hat]at ho
              obtain⟨h0,_⟩:=ho
              simp only at h0;subst h0
              have hlen':l.length=m*it.size:=by rw[hll.1];exact hN.len
              obtain⟨w2,r1,r2,r3⟩:=gV (P:=P) (i:=i+len*it.size) l l' 0 cont H w hr hσ hat (by rw[FX]at hfit;omega) hone hll
              refine⟨.slice (some ⟨b,0+i,none⟩) (len+m) c',w2,σ,?_,?_,r2,r3⟩
              ·rw[zk (ty:=ty) ht0 hts hu hi ⟨b,0+i,none⟩ len c' hN hroom]
               simp only[eP,EU]at r1⊢
               rw[r1];rfl
              ·exact .sl hσ ⟨hroom,.inl ⟨hcx,rfl⟩⟩
             ·cases h
            ·cases h
           ·rename_i hroom
            split at h
            ·rename_i hlc
             simp only[EB,Fe]at h
             obtain⟨old,hrd,rfl,rfl⟩:=h
             obtain⟨old',f1,f2,f3⟩:=qq hr hσ hrd
             have hg:=td (ty:=ty) ht0 hts hu hi hz (some ⟨b,o+i,none⟩) len c' old' (fun w1 hw1=>by simpa[Builtin.firstCells]using f2 P w1 hw1) hN hlc (by omega) (by omega) (growslice_fits (by omega) hb1)
             have hrd2:HR σ H w.drew:=hr.world rfl
             have hxd:Ext σ H w σ H w.drew:=Ext.world rfl rfl rfl rfl
             have hge:=grownCap_ge w (len+m) c' e
             generalize hcp:grownCap w (len+m) c' e=cap at hg hge
             obtain⟨g1,g2⟩:=hrd2.alloc (.cells (old++l) e) (.cells (old'++l'++(Builtin.zeroCells z.cells (cap-(len+m))).toList).toArray e) (cap*it.size)
              ⟨rfl,_,heap_alloc_new _ _,by simp[hll.1,f3.1],by
               simp only[Gn,Ez,hN.len,f1,Array.length_toList,size_zeroCells,hzs,<-FX]
               congr 1;omega,fun j v v' a b'=>by
               have hj:j<(old++l).length:=(Ey.1 a).1
               have hj2:j<(old'++l').length:=by rw[Ez,<-f3.1,<-hll.1];simpa using hj
               simp only[EX,Fo hj2]at b'
               exact((f3.append hll).2 j v v' a b').mono (hrd2.sub_upd _)⟩
             refine⟨_,_,_,hg,?_,g1,hxd.trans g2⟩
             have:=VR.sl (σ:=upd σ H.length (w.drew.heap.size,0,cap*it.size)) (i:=0) (len:=len+m) (c:=unk+it.size) (c':=cap) (dI _ _ _)
              ⟨hge,.inr ⟨Hb _ _,by rw[Fa];omega⟩⟩
             simpa using this
            ·cases h
          ·cases h
       ·cases h
      ·cases h
     ·cases h
   ·cases h
  ·cases h
 ·cases h
def pE(P:Program)(H:AH)(ts:Array TypeId)(x:Value):Option (Value×AH):=match ts[0]?.bind P.underlying,x with
 |some (.slice e),.slice a l _=>
  if l=0 then some (.tuple #[],H)else
  match a,cw P e with
  |some ⟨n,i,none⟩,some z=>
   match at_ H n with
   | .cells cont e'=>if plain z=true/\(Builtin.zeroCells z.cells l).toList.all one=true/\i+(Builtin.zeroCells z.cells l).toList.length<=cont.length then
    some (.tuple #[],H.set n (.cells (setAll cont i (Builtin.zeroCells z.cells l).toList) e'))else none
   |_=>none
  |_,_=>none
 |_,_=>none
theorem Bj{P:Program}{σ:Ren}{H H':AH}{w:World}(hr:HR σ H w){ts:Array TypeId}{ty:TypeId}{x x' r:Value}(hx:VR σ x x')(h:pE P H ts x=some (r,H')):
 ∃v' w' σ',(Builtin.clear_ ts ty #[x']).run P w= .ok v' w'/\VR σ' r v'/\HR σ' H' w'/\Ext σ H w σ' H' w':=by
 unfold pE at h
 split at h
 ·rename_i e a l c hu
  simp only[EN]at hu
  obtain⟨t,ht,hu⟩:=hu
  split at h
  ·rename_i hl
   cases h
   subst hl
   refine⟨.tuple #[],w,σ,?_,.junk _,hr,Ext.refl _ _ _⟩
   have key: ∀(a':Option Addr) (c':Nat),(Builtin.clear_ ts ty #[.slice a' 0 c']).run P w= .ok (.tuple #[]) w:=by
    intro a' c'
    simp only[Builtin.clear_,ht,EX,List.getElem?_cons_zero,ED,bu hu,Result.andThen_ok]
    cases a'<;>rfl
   cases hx<;>exact key _ _
  ·rename_i hl
   split at h
   ·rename_i n i z hz
    split at h
    ·rename_i cont e' hat
     split at h
     ·rename_i hc
      obtain⟨c1,c2,c3⟩:=hc
      cases h
      cases hx with
      |sl hn hcap=>
       rename_i c' b o s
       have ho:=hr.obj n _ hn
       rw[hat]at ho
       obtain⟨h0,_⟩:=ho
       simp only at h0;subst h0
       obtain⟨w',g1,g2,g3⟩:=gV (P:=P) (i:=i) _ _ 0 cont H w hr hn hat (by omega) c2 (lY σ c1 l)
       refine⟨.tuple #[],w',σ,?_,.junk _,g2,g3⟩
       have hzr:(zeroValue e).run P w= .ok z w:=by
        unfold cw at hz
        simp only[EN]at hz
        obtain⟨i',hi,hz⟩:=hz
        unfold zeroValue
        simp only[ED,run_typeInfo w hi,Result.andThen_ok,hz,Sem.run_pure]
       obtain⟨l',rfl⟩: ∃l',l=l'+1:=⟨l-1,by omega⟩
       simp only[Builtin.clear_,ht,EX,List.getElem?_cons_zero,ED,bu hu,Result.andThen_ok,hzr]
       rw[EU,g1]
       rfl
     ·cases h
    ·cases h
   ·cases h
 ·cases h
end Go.Ev
