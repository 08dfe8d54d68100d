import Derived.Test.YtjcomcgpjjianaaA9
import Derived.Test.YtjcomcgpjjianaaA19
import Derived.Test.YtjcomcgpjjianaaA31
set_option linter.all false
set_option maxHeartbeats 16000000
set_option maxRecDepth 8000
open Go.Value renaming int→O
open Go.IntKind renaming i64→U
namespace Go.Proofs.Ytjcomcgpjjianaa
open Go.Ev
def encP(p:Nat×Nat):Value:= .agg #[O U p.1,O U p.2]
def pY(L:List (Nat×Nat)):List (Value×Value):=L.map fun p=>(encP p,.bool true)
def posP(p:Nat×Nat):List (Nat×Nat)->Nat->Option Nat
 | [],_=>none
 |q::r,i=>if p=q then some i else posP p r (i+1)
theorem beqP(p q:Nat×Nat):((p.1:Int)==q.1&&(p.2:Int)==q.2)=decide (p=q):=by
 rw[FU]
 simp only[EC,beq_iff_eq,decide_eq_true_eq,Prod.ext_iff]
 omega
theorem tl(p:Nat×Nat): ∀(L:List (Nat×Nat)) (i:Nat),bP Try.prog 77 (encP p) (pY L) i=some ((posP p L i).map fun i=>(i,.bool true))
 | [],_=>rfl
 |q::L,i=>by
  simp only[pY,Fv,bP,posP,encP,aeq77,beqP]
  rw[if_pos (show plain (.agg #[O U q.1,O U q.2])=true by rfl)]
  by_cases h:p=q
  ·simp[h]
  ·have:=tl p L (i+1)
   simp only[pY,encP]at this
   simp only[h,decide_false,EO,if_false]
   exact this
theorem sZ(p:Nat×Nat): ∀(L:List (Nat×Nat)) (i:Nat),(posP p L i).isSome=decide (p∈L)
 | [],_=>by simp[posP]
 |q::L,i=>by
  simp only[posP]
  by_cases h:p=q
  ·simp[h]
  ·rw[if_neg h,sZ p L (i+1)]
   simp[h]
theorem yX(p:Nat×Nat): ∀(L:List (Nat×Nat)) (i j:Nat),posP p L i=some j->i<=j/\L[j-i]? =some p
 | [],_,_,h=>by cases h
 |q::L,i,j,h=>by
  simp only[posP]at h
  split at h
  ·rename_i e;cases h;subst e;simp
  ·obtain⟨h1,h2⟩:=yX p L (i+1) j h
   refine⟨by omega,?_⟩
   rw[show j-i=(j-(i+1))+1 by omega,List.getElem?_cons_succ];exact h2
theorem lk149{H:AH}{n:Nat}{L:List (Nat×Nat)}(h:at_ H n= .map (pY L))(p:Nat×Nat):
 cU Try.prog H 149 (.map (some n)) (.agg #[O U p.1,O U p.2]) false=some (.bool (decide (p∈L))):=by
 have key:cU Try.prog H 149 (.map (some n)) (.agg #[O U p.1,O U p.2]) false=(match at_ H n with
  | .map es=>match bP Try.prog 77 (.agg #[O U p.1,O U p.2]) es 0 with
    |some (some (_,v))=>some v
    |some none=>some (.bool false)
    |none=>none
  |_=>none):=by kernel_rfl
 rw[key,h]
 have:=tl p L 0
 unfold encP at this
 simp only[this]
 rw[<-sZ p L 0]
 cases posP p L 0<;>rfl
def ta(L:List (Nat×Nat))(p:Nat×Nat):List (Nat×Nat):=if p∈L then L else L++[p]
theorem mu149{H:AH}{n:Nat}{L:List (Nat×Nat)}(h:at_ H n= .map (pY L))(p:Nat×Nat):
 cR Try.prog H 149 (.map (some n)) (.agg #[O U p.1,O U p.2]) (.bool true)=some (H.set n (.map (pY (ta L p)))):=by
 have key:cR Try.prog H 149 (.map (some n)) (.agg #[O U p.1,O U p.2]) (.bool true)=(match at_ H n with
  | .map es=>match bP Try.prog 77 (.agg #[O U p.1,O U p.2]) es 0 with
    |some (some (i,_))=>if Instr.sameBits 10000 ((es[i]?.map (·.1)).getD (.agg #[O U p.1,O U p.2])) (.agg #[O U p.1,O U p.2])=true then some (H.set n (.map (es.set i (.agg #[O U p.1,O U p.2],.bool true))))else none
    |some none=>some (H.set n (.map (es++[(.agg #[O U p.1,O U p.2],.bool true)])))
    |none=>none
  |_=>none):=by kernel_rfl
 rw[key,h]
 have hf:=tl p L 0
 unfold encP at hf
 simp only[hf]
 unfold ta
 have hm:=sZ p L 0
 cases hl:posP p L 0 with
 |none=>
  rw[hl]at hm
  have:p∉L:=by simpa using hm.symm
  simp[pY,encP,this]
 |some i=>
  rw[hl]at hm
  have hin:p∈L:=by simpa using hm.symm
  obtain⟨_,h2⟩:=yX p L 0 i hl
  rw[Nat.sub_zero]at h2
  have h3:(pY L)[i]? =some (encP p,.bool true):=by simp only[pY,EM,h2,Option.map_some]
  have hsb:Instr.sameBits 10000 (.agg #[O U p.1,O U p.2]) (.agg #[O U p.1,O U p.2])=true:=by
   have:Instr.sameBits 10000 (.agg #[O U p.1,O U p.2]) (.agg #[O U p.1,O U p.2])=((IntKind.i64==IntKind.i64&&(p.1:Int)==p.1)&&((IntKind.i64==IntKind.i64&&(p.2:Int)==p.2)&&true)):=by kernel_rfl
   rw[this];simp
  simp only[Option.map_some,h3,Option.getD_some,encP,hsb,if_true,hin]
  have hs:(pY L).set i (.agg #[O U p.1,O U p.2],.bool true)=pY L:=by
   apply FM
   intro j
   rw[Ff]
   split
   ·rename_i e;subst e
    split
    ·rw[h3];rfl
    ·rename_i hh
     have:=(Ey.1 h3).1
     omega
   ·rfl
  rw[hs]
structure PS where
 want:List (Int×Int)
 regs:List (Int×Int)
 met:List (Nat×Nat)
noncomputable def te(l:List Cr)(c:Nat)(r:Int)(q:PS)(s:Nat):PS:=if(c,s)∈q.met then q else⟨q.want,iK q.regs r,(fh l (c,s) (perOf l (c,s))).foldl ta q.met⟩
noncomputable def mZ(l:List Cr)(c:Nat)(r:Int)(q:PS):Nat->PS
 | 0=>q
 |s+1=>te l c r (mZ l c r q s) s
def gh(ms:List (Int×Int))(r:Int):List (Int×Int):=if((look ms r).getD 0==0)=true then kj ms r 2 else ms
noncomputable def crossM(l:List Cr)(q:PS)(c:Nat):PS:=let r:=fj (bz l (2*l.length)) c
 mZ l c r ⟨iK (gh q.want r) r,q.regs,q.met⟩ 4
noncomputable def eo(l:List Cr):Nat->PS
 | 0=>⟨[],[],[]⟩
 |c+1=>crossM l (eo l c) c
noncomputable def pF(l:List Cr):Bool:=(eo l l.length).want.all fun p=>(look (eo l l.length).regs p.1).getD 0==p.2
theorem und104:Try.prog.underlying 104=some (.map 3 3):=by kernel_rfl
structure PG(l:List Cr)(N:Nat)(q:PS)(G:AH):Prop where
 len:4<G.length
 a0:at_ G 0= .map (cx (bz l (2*l.length)))
 a1:at_ G 1= .cells [.map (some N)] 136
 a2:at_ G 2= .map (cx q.want)
 a3:at_ G 3= .map (cx q.regs)
 a4:at_ G 4= .map (pY q.met)
section
variable {l:List Cr}{N:Nat}{q:PS}{G:AH}
theorem PG.app(h:PG l N q G)(K:AH):PG l N q (G++K):=⟨by have:=h.len;simp;omega,by rw[ag (by have:=h.len;omega)];exact h.a0,by rw[ag (by have:=h.len;omega)];exact h.a1,by rw[ag (by have:=h.len;omega)];exact h.a2,by rw[ag (by have:=h.len;omega)];exact h.a3,by rw[ag (by have:=h.len;omega)];exact h.a4⟩
theorem PG.set2(h:PG l N q G)(m:List (Int×Int)):PG l N ⟨m,q.regs,q.met⟩ (G.set 2 (.map (cx m))):=⟨by have:=h.len;simp;omega,by rw[af (by decide)];exact h.a0,by rw[af (by decide)];exact h.a1,by rw[au (by have:=h.len;omega)],by rw[af (by decide)];exact h.a3,by rw[af (by decide)];exact h.a4⟩
theorem PG.set3(h:PG l N q G)(m:List (Int×Int)):PG l N ⟨q.want,m,q.met⟩ (G.set 3 (.map (cx m))):=⟨by have:=h.len;simp;omega,by rw[af (by decide)];exact h.a0,by rw[af (by decide)];exact h.a1,by rw[af (by decide)];exact h.a2,by rw[au (by have:=h.len;omega)],by rw[af (by decide)];exact h.a4⟩
theorem PG.set4(h:PG l N q G)(m:List (Nat×Nat)):PG l N ⟨q.want,q.regs,m⟩ (G.set 4 (.map (pY m))):=⟨by have:=h.len;simp;omega,by rw[af (by decide)];exact h.a0,by rw[af (by decide)];exact h.a1,by rw[af (by decide)];exact h.a2,by rw[af (by decide)];exact h.a3,by rw[au (by have:=h.len;omega)]⟩
theorem PG.cl{H:AH}(h:PG l H.length q G):IsCl (H++G) (.pointer (some ⟨H.length+1,0,none⟩)) (bz l (2*l.length)):=by
 refine⟨H.length+1,0,H.length,rfl,?_,(aq H G 0).trans h.a0⟩
 rw[bU];unfold aj aP;rw[h.a1];rfl
theorem PG.m2{H:AH}(h:PG l H.length q G):at_ (H++G) (H.length+2)= .map (cx q.want):=by rw[aq];exact h.a2
theorem PG.m3{H:AH}(h:PG l H.length q G):at_ (H++G) (H.length+3)= .map (cx q.regs):=by rw[aq];exact h.a3
theorem PG.m4{H:AH}(h:PG l H.length q G):at_ (H++G) (H.length+4)= .map (pY q.met):=by rw[aq];exact h.a4
end
theorem lX{H:AH}{m n:Nat}(o:AO)(h:m≠n)(i k:Nat):ak (H.set m o) n i k=ak H n i k:=by
 unfold ak aP;rw[af h]
theorem tb{H:AH}{n i k:Nat}{es:List (Value×Value)}(h:at_ H n= .map es)(hk:0<k):ak H n i k=none:=by
 unfold ak aP;rw[h];first|rfl| (simp;omega)
theorem zO(H:AH)(d:Value)(l:List Cr)(loops:Int)(hd:ig H d l loops)(hs:ax l)(hl:l.length<=200):AC Try.prog 41 [d] H (.val (.bool (pF l)) H):=by
 have hd0:=hd
 obtain⟨n,i,s,rfl,h2,hsl⟩:=hd
 obtain⟨r0,r1⟩:=ig.two h2
 obtain⟨b,k,rfl⟩:=hsl.len
 refine AC.o 81 f41 fun σ w hr=> ?_
 refine W.seq (W.g ?_)
 refine W.seq (W.region (Wl.s ?_))
 refine Wl.o (Sc b65 (vJ H _ l loops hd0 (by omega))) ?_
 refine Wl.s (Wl.nil ?_)
 refine W.seq (W.g ?_ (by simp[go_sem,cK];rfl))
 refine W.seq (W.g ?_ (by simp[go_sem,cK];rfl))
 refine W.seq (W.seq (W.g ?_ (by simp[go_sem,aw r0];rfl)))
 refine W.block ?_
 refine W.loop (fun m E h=> ∃j G,m=l.length-j/\j<=l.length/\ae E 0= .pointer (some ⟨n,i,none⟩)/\ae E 3= .pointer (some ⟨H.length+1,0,none⟩)/\ae E 4= .map (some (H.length+2))/\ae E 5= .map (some (H.length+3))/\ae E 6= .map (some (H.length+4))/\ae E 25=O U l.length/\ae E 26=O U j/\h=H++G/\PG l H.length (eo l j) G) l.length
  ⟨0,[.map (cx (bz l (2*l.length))),.cells [.map (some H.length)] 136,.map [],.map [],.map []],by omega,by omega,by simp[ae],by simp[ae],by simp[ae],by simp[ae],by simp[ae],by simp[ae],by simp[ae],rfl,⟨by simp,rfl,rfl,rfl,rfl,rfl⟩⟩ ?_
 rintro m E h ⟨j,G,rfl,hj,e0,e3,e4,e5,e6,e25,e26,rfl,hG⟩
 by_cases hlt:j<l.length
 ·refine W.seq (W.g ?_ (by simp[go_sem,e25,e26,hlt];rfl))
  refine W.seq (W.ct (W.skip ?_))
  refine W.seq (W.block ?_)
  refine W.seq (W.g ?_ (by simp[go_sem,e26];rfl))
  obtain⟨f,hf⟩:=ef (dd l (2*l.length)) j
  have hpl:eo l (j+1)=mZ l j (fj (bz l (2*l.length)) j) ⟨iK (gh (eo l j).want (fj (bz l (2*l.length)) j)) (fj (bz l (2*l.length)) j),(eo l j).regs,(eo l j).met⟩ 4:=rfl
  generalize fj (bz l (2*l.length)) j=r at hf hpl
  generalize eo l j=q at hG hpl
  refine W.seq (W.region (Wl.s ?_ (by simp[go_sem,e3];rfl)))
  refine Wl.o (Sc b66 (jW _ _ _ hG.cl _ _ _ hf)) ?_
  refine Wl.s (Wl.nil ?_)
  refine W.seq (W.mono (Q:=fun x E h=>x= .normal/\ ∃G,ae E 0= .pointer (some ⟨n,i,none⟩)/\ae E 3= .pointer (some ⟨H.length+1,0,none⟩)/\ae E 4= .map (some (H.length+2))/\ae E 5= .map (some (H.length+3))/\ae E 6= .map (some (H.length+4))/\ae E 25=O U l.length/\ae E 26=O U j/\ae E 7=O U j/\ae E 8=O U r/\h=H++G/\PG l H.length ⟨gh q.want r,q.regs,q.met⟩ G) ?_ ?_)
  ·have hlk:=lD hG.m2 r
   cases g:(look q.want r).getD 0==0
   ·refine W.seq (W.g ?_ (by simp[go_sem,e4,hlk,g];rfl))
    refine W.cf (W.skip ?_)
    exact⟨rfl,G,by simp[ae,e0],by simp[ae,e3],by simp[ae,e4],by simp[ae,e5],by simp[ae,e6],by simp[ae,e25],by simp[ae,e26],by simp[ae],by simp[ae],rfl,by
     have:gh q.want r=q.want:=by unfold gh;rw[g,if_neg (by simp)]
     rw[this];exact hG⟩
   ·refine W.seq (W.g ?_ (by simp[go_sem,e4,hlk,g];rfl))
    refine W.ct ?_
    refine W.g ?_ (by simp[go_sem,e4,rT hG.m2];rfl)
    exact⟨rfl,_,by simp[ae,e0],by simp[ae,e3],by simp[ae,e4],by simp[ae,e5],by simp[ae,e6],by simp[ae,e25],by simp[ae,e26],by simp[ae],by simp[ae],rfl,by
     have:gh q.want r=kj q.want r 2:=by unfold gh;rw[g,if_pos rfl]
     rw[this];exact hG.set2 _⟩
  rintro x E h ⟨rfl,G,e0,e3,e4,e5,e6,e25,e26,e7,e8,rfl,hG⟩
  show W _ _ _ _ _
  have hlk:=lD hG.m2 r
  refine W.seq (W.g ?_ (by simp[go_sem,e4,e8,hlk,rT hG.m2];rfl))
  refine W.seq (W.g ?_)
  refine W.block ?_
  have hG':=hG.set2 (iK (gh q.want r) r)
  simp only at hG'
  change PG l H.length ⟨iK (gh q.want r) r,q.regs,q.met⟩ _ at hG'
  generalize hq0:(⟨iK (gh q.want r) r,q.regs,q.met⟩:PS)=q0 at hG' hpl
  refine W.loop (fun m E h=> ∃t G,m=4-t/\t<=4/\ae E 0= .pointer (some ⟨n,i,none⟩)/\ae E 3= .pointer (some ⟨H.length+1,0,none⟩)/\ae E 4= .map (some (H.length+2))/\ae E 5= .map (some (H.length+3))/\ae E 6= .map (some (H.length+4))/\ae E 25=O U l.length/\ae E 26=O U j/\ae E 7=O U j/\ae E 8=O U r/\ae E 42=O U t/\h=H++G/\PG l H.length (mZ l j r q0 t) G) 4
   ⟨0,_,rfl,by omega,by simp[ae,e0],by simp[ae,e3],by simp[ae,e4],by simp[ae,e5],by simp[ae,e6],by simp[ae,e25],by simp[ae,e26],by simp[ae,e7],by simp[ae,e8],by simp[ae],rfl,hG'⟩ ?_
  clear hG hG' hlk
  rintro m E h ⟨t,G,rfl,ht,e0,e3,e4,e5,e6,e25,e26,e7,e8,e42,rfl,hG⟩
  by_cases ht4:t<4
  ·have ht4':(t:Int)<4:=by omega
   have hsn:mZ l j r q0 (t+1)=te l j r (mZ l j r q0 t) t:=rfl
   generalize mZ l j r q0 t=q1 at hG hsn
   refine W.seq (W.g ?_ (by simp[go_sem,e42,ht4'];rfl))
   refine W.seq (W.ct (W.skip ?_))
   refine W.seq (W.block ?_)
   refine W.seq (W.g ?_ (by simp[go_sem,e42];rfl))
   refine W.seq (W.g ?_ (by simp[go_sem,e7];rfl))
   have hG1:=hG.app [.cells [O U j,O U t] 77]
   have hrd1:ak (H++(G++[.cells [O U j,O U t] 77])) (H.length+G.length) 0 2=some [O U j,O U t]:=by
    rw[aF];unfold ak aP;rw[aL];rfl
   by_cases hin:(j,t)∈q1.met
   ·have hlk:cU Try.prog (H++(G++[.cells [O U j,O U t] 77])) 149 (.map (some (H.length+4))) (.agg #[O U j,O U t]) false=some (.bool true):=by
     have:=lk149 hG1.m4 (j,t)
     rw[decide_eq_true hin]at this;exact this
    refine W.seq (W.g ?_ (by simp[go_sem,e6,hrd1,hlk];rfl))
    refine W.cf (W.skip ?_)
    refine W.g ?_ (by simp[go_sem,e42];rfl)
    refine⟨4-(t+1),by omega,t+1,_,rfl,by omega,by simp[ae,e0],by simp[ae,e3],by simp[ae,e4],by simp[ae,e5],by simp[ae,e6],by simp[ae,e25],by simp[ae,e26],by simp[ae,e7],by simp[ae,e8],?_,rfl,?_⟩
    ·have:IntKind.i64.wrap ((t:Int)+1)=((t+1:Nat):Int):=by rw[EP];omega
     simp[ae,this]
    ·rw[hsn];unfold te;rw[if_pos hin];exact hG1
   ·have hlk:cU Try.prog (H++(G++[.cells [O U j,O U t] 77])) 149 (.map (some (H.length+4))) (.agg #[O U j,O U t]) false=some (.bool false):=by
     have:=lk149 hG1.m4 (j,t)
     rw[decide_eq_false hin]at this;exact this
    refine W.seq (W.g ?_ (by simp[go_sem,e6,hrd1,hlk];rfl))
    refine W.ct ?_
    have hlk3:=lD hG1.m3 r
    refine W.seq (W.g ?_ (by simp[go_sem,e5,e8,hlk3,rT hG1.m3];rfl))
    have hG2:=hG1.set3 (iK q1.regs r)
    unfold iK at hG2
    simp only[te,if_neg hin]at hsn
    unfold iK at hsn
    generalize hrg:kj q1.regs r (IntKind.i64.wrap ((look q1.regs r).getD 0+1))=rg at hG2 hsn
    have hrd2:ak (H++(G++[AO.cells [O U j,O U t] 77]).set 3 (.map (cx rg))) (H.length+G.length) 0 2=some [O U j,O U t]:=by
     rw[aF,lX _ (by have:=hG.len;omega)];unfold ak aP;rw[aL];rfl
    generalize (G++[AO.cells [O U j,O U t] 77]).set 3 (.map (cx rg))=G2 at hG2 hrd2
    have hp:bt l (j,t):=⟨hlt,ht4⟩
    obtain⟨hK,hK2⟩:=hs.perOf hp
    generalize perOf l (j,t)=K at hK hK2 hsn
    obtain⟨rr,⟨v,G3,rfl,⟨n',C,hv,hrd⟩,hj3,hbv⟩,hac2⟩:=kP (H++G2) (.pointer (some ⟨n,i,none⟩)) l loops hd0.app (by omega) hs (j,t) hp K hK hK2
    subst hv
    refine W.seq (W.region (Wl.s ?_ (by simp[go_sem,e0,hrd2];rfl)))
    refine Wl.o (Sc b67 hac2) ?_
    refine Wl.s (Wl.nil ?_)
    have hG3:=hG2.app G3
    have hKp:=hK.1
    have hlen:=gi l (j,t) K
    generalize fh l (j,t) K=L at hrd hac2 hlen hsn
    rw[EH]at hrd
    have hn4:H.length+4≠n':=by
     intro e
     rw[<-e,tb hG3.m4 (by omega)]at hrd
     cases hrd
    refine W.block ?_
    refine W.loop (fun m E h=> ∃u G,m=K-u/\u<=K/\ae E 0= .pointer (some ⟨n,i,none⟩)/\ae E 3= .pointer (some ⟨H.length+1,0,none⟩)/\ae E 4= .map (some (H.length+2))/\ae E 5= .map (some (H.length+3))/\ae E 6= .map (some (H.length+4))/\ae E 25=O U l.length/\ae E 26=O U j/\ae E 7=O U j/\ae E 8=O U r/\ae E 42=O U t/\ae E 58= .slice (some ⟨n',0,none⟩) L.length C/\ae E 59=O U K/\ae E 60=O U u/\h=H++G/\PG l H.length ⟨q1.want,rg,(L.take u).foldl ta q1.met⟩ G/\ak (H++G) n' 0 (L.length*2)=some (fP L)) K
     ⟨0,_,by omega,by omega,by simp[ae,e0],by simp[ae,e3],by simp[ae,e4],by simp[ae,e5],by simp[ae,e6],by simp[ae,e25],by simp[ae,e26],by simp[ae,e7],by simp[ae,e8],by simp[ae,e42],by simp[ae],by simp[ae,hlen],by simp[ae],by simp,by simpa using hG3,hrd⟩ ?_
    clear hG hG1 hG2 hG3 hrd hlk hlk3 hac2 hrd1 hrd2
    rintro m E h ⟨u,G,rfl,hu,e0,e3,e4,e5,e6,e25,e26,e7,e8,e42,e58,e59,e60,rfl,hG,hrd⟩
    by_cases huK:u<K
    ·have hgt:L[u]? =some (L[u]'(by omega)):=Ex (by omega)
     generalize L[u]'(by omega)=x at hgt
     obtain⟨n2,C2,g1,g2⟩:=oR.read ⟨n',C,rfl,hrd⟩ hgt
     cases g1
     refine W.seq (W.g ?_ (by simp[go_sem,e59,e60,huK];rfl))
     refine W.seq (W.ct (W.skip ?_))
     refine W.seq (W.block ?_)
     have huL:u<L.length:=by omega
     refine W.seq (W.g ?_ (by simp[go_sem,e58,e60,huL,g2];rfl))
     have hG1:=hG.app [.cells [O U x.1,O U x.2] 77]
     have hrd1:ak (H++(G++[.cells [O U x.1,O U x.2] 77])) (H.length+G.length) 0 2=some [O U x.1,O U x.2]:=by
      rw[aF];unfold ak aP;rw[aL];rfl
     have hmu:=mu149 hG1.m4 x
     refine W.g ?_ (by simp[go_sem,e6,hrd1,hmu];rfl)
     refine W.g ?_ (by simp[go_sem,e60];rfl)
     have htk:(L.take (u+1)).foldl ta q1.met=ta ((L.take u).foldl ta q1.met) x:=by
      rw[FP,hgt];simp
     have hwr:IntKind.i64.wrap ((u:Int)+1)=((u+1:Nat):Int):=by rw[EP];omega
     refine⟨K-(u+1),by omega,u+1,_,rfl,by omega,by simp[ae,e0],by simp[ae,e3],by simp[ae,e4],by simp[ae,e5],by simp[ae,e6],by simp[ae,e25],by simp[ae,e26],by simp[ae,e7],by simp[ae,e8],by simp[ae,e42],by simp[ae,e58],by simp[ae,e59],by simp[ae,hwr],rfl,?_,?_⟩
     ·rw[htk];exact hG1.set4 _
     ·rw[<-bV,lX _ hn4,<-EH]
      exact aD hrd
    ·have hKu:u=K:=by omega
     subst hKu
     refine W.seq (W.g ?_ (by simp[go_sem,e59,e60];rfl))
     refine W.seq (W.cf (W.exit ?_))
     simp only[AX.then,AX.inBlock,if_true]
     refine W.g ?_ (by simp[go_sem,e42];rfl)
     have hwr:IntKind.i64.wrap ((t:Int)+1)=((t+1:Nat):Int):=by rw[EP];omega
     refine⟨4-(t+1),by omega,t+1,_,rfl,by omega,by simp[ae,e0],by simp[ae,e3],by simp[ae,e4],by simp[ae,e5],by simp[ae,e6],by simp[ae,e25],by simp[ae,e26],by simp[ae,e7],by simp[ae,e8],by simp[ae,hwr],rfl,?_⟩
     rw[hsn,<-GE (l:=L) (i:=u) (by omega)];exact hG
  ·have ht':t=4:=by omega
   subst ht'
   refine W.seq (W.g ?_ (by simp[go_sem,e42];rfl))
   refine W.seq (W.cf (W.exit ?_))
   simp only[AX.then,AX.inBlock,if_true]
   refine W.g ?_ (by simp[go_sem,e26];rfl)
   have hwr:IntKind.i64.wrap ((j:Int)+1)=((j+1:Nat):Int):=by rw[EP];omega
   exact⟨l.length-(j+1),by omega,j+1,_,rfl,by omega,by simp[ae,e0],by simp[ae,e3],by simp[ae,e4],by simp[ae,e5],by simp[ae,e6],by simp[ae,e25],by simp[ae,hwr],rfl,by rw[hpl];exact hG⟩
 ·have hj':j=l.length:=by omega
  subst hj'
  refine W.seq (W.g ?_ (by simp[go_sem,e25,e26];rfl))
  refine W.seq (W.cf (W.exit ?_))
  simp only[AX.then,AX.inBlock,if_true]
  have hpb:pF l=(eo l l.length).want.all fun p=>(look (eo l l.length).regs p.1).getD 0==p.2:=rfl
  generalize eo l l.length=q at hG hpb
  refine W.seq (W.Er (x:=69) (it:=70) (p:=71) (q:=72) (d:=73) (mt:=104) ⟨rfl,rfl,rfl⟩ ⟨rfl,rfl,rfl⟩ ⟨rfl,rfl,rfl⟩ ⟨rfl,rfl,rfl⟩ ⟨rfl,rfl,rfl⟩ und104 (by simp[go_sem,e4]) (by refine⟨?_,?_,?_,?_,by decide,by decide,by decide⟩<;>(show _<81;decide)) hG.m2 ?_
   (fun s E h=> ∃G',h=H++G++G'/\ae E 5= .map (some (H.length+3))/\ae E 70= .pointer (some ⟨(H++G).length,0,none⟩)/\ ∀i∈s,∀p,q.want[i]? =some p->(look q.regs p.1).getD 0=p.2) ⟨[.dead],rfl,by simp[ae,aB,e5],by simp[ae,aB],by simp⟩ ?_ ?_ ?_)
  ·intro i k v hi
   simp only[cx,EM,EB]at hi
   obtain⟨p,_,hp⟩:=hi
   cases hp;rfl
  ·rintro s E h ⟨G',rfl,e5,e70,_⟩
   exact⟨by rw[EH];exact(hG.app G').m2,e70⟩
  ·rintro s E h ⟨G',rfl,e5,e70,hgood⟩ hall
   have hb:pF l=true:=by
    rw[hpb,EI]
    intro p hp
    obtain⟨i,hi,hpi⟩:=FF hp
    have:=hgood i (hall i (by simpa[cx]using hi)) p (by rw[Ex hi,hpi])
    rw[this];simp
   rw[hb,EH]
   show W _ _ _ _ _
   refine W.seq (W.g ?_)
   exact W.ret (Ends.quiet (by simp[go_sem]) rfl)
  ·rintro s E h i k v ⟨G',rfl,e5,e70,hgood⟩ hni hget σ' w' hr' K' rfl
   simp only[cx,EM,EB]at hget
   obtain⟨p,hp,hkv⟩:=hget
   cases hkv
   rw[EH]
   refine Wl.s (Wl.nil ?_)
   show W _ _ _ _ _
   have hlk:=lD (hG.app G').m3 p.1
   by_cases hgd:(look q.regs p.1).getD 0=p.2
   ·refine W.seq (W.g ?_ (by simp[go_sem,e5,hlk,hgd];rfl))
    refine W.cf (W.skip ?_)
    refine⟨G',by rw[EH],by simp[ae,e5],by simp[ae,e70],fun i' hi' p' hp'=> ?_⟩
    rcases EG.1 hi' with e|e
    ·subst e;rw[hp]at hp';cases hp';exact hgd
    ·exact hgood i' e p' hp'
   ·have hne:((look q.regs p.1).getD 0!=p.2)=true:=by simpa using hgd
    refine W.seq (W.g ?_ (by simp[go_sem,e5,hlk,hne];rfl))
    refine W.ct ?_
    refine W.seq (W.g ?_)
    have hb:pF l=false:=by
     rw[hpb,List.all_eq_false]
     exact⟨p,EE hp,by simpa using hgd⟩
    rw[hb]
    exact W.ret (Ends.quiet (by simp[go_sem]) rfl)
def Orb(l:List Cr)(p q:Nat×Nat):Prop:=p=q\/bt l p/\bt l q/\ ∃k,it (nx l) k p=q
theorem it_per{α:Type}{f:α->α}{x:α}{K:Nat}(h:it f K x=x): ∀m,it f (m*K) x=x
 | 0=>by simp[it]
 |m+1=>by rw[Nat.succ_mul,mF,h,it_per h m]
theorem it_mod{α:Type}{f:α->α}{x:α}{K:Nat}(h:it f K x=x)(k:Nat):it f k x=it f (k%K) x:=by
 conv=>lhs;rw[<-Nat.mod_add_div k K,mF]
 rw[Nat.mul_comm,it_per h]
theorem Orb.refl(l:List Cr)(p:Nat×Nat):Orb l p p:= .inl rfl
theorem Orb.symm{l:List Cr}(hs:ax l){p q:Nat×Nat}(h:Orb l p q):Orb l q p:=by
 rcases h with rfl|⟨hp,hq,k,hk⟩
 ·exact .inl rfl
 ·obtain⟨K,_,hK⟩:=hs.per hp
  refine .inr ⟨hq,hp,K-k%K,?_⟩
  rw[it_mod hK.2.1]at hk
  rw[<-hk,<-mF]
  have:=F7 k hK.1
  rw[show K-k%K+k%K=K by omega];exact hK.2.1
theorem Orb.trans{l:List Cr}{p q r:Nat×Nat}(h:Orb l p q)(h':Orb l q r):Orb l p r:=by
 rcases h with rfl|⟨hp,hq,k,hk⟩
 ·exact h'
 ·rcases h' with rfl|⟨_,hr,k',hk'⟩
  ·exact .inr ⟨hp,hq,k,hk⟩
  ·exact .inr ⟨hp,hr,k'+k,by rw[mF,hk,hk']⟩
theorem mem_ring{l:List Cr}(hs:ax l){p q:Nat×Nat}(hp:bt l p):q∈fh l p (perOf l p)↔Orb l p q:=by
 obtain⟨hK,_⟩:=hs.perOf hp
 constructor
 ·intro h
  simp only[fh,E9,ET]at h
  obtain⟨j,_,rfl⟩:=h
  exact .inr ⟨hp,jt (S:=bt l) hs.nx_pl hp j,j,rfl⟩
 ·intro h
  simp only[fh,E9,ET]
  rcases h with rfl|⟨_,_,k,rfl⟩
  ·exact⟨0,hK.1,rfl⟩
  ·exact⟨k%perOf l p,F7 _ hK.1,(it_mod hK.2.1 k).symm⟩
theorem mem_putL{L:List (Nat×Nat)}{p q:Nat×Nat}:q∈ta L p↔q∈L\/q=p:=by
 unfold ta
 split
 ·rename_i h
  constructor
  ·exact .inl
  ·rintro(h'|rfl)
   ·exact h'
   ·exact h
 ·simp
theorem vS: ∀(R L:List (Nat×Nat)) (q:Nat×Nat),q∈R.foldl ta L↔q∈L\/q∈R
 | [],L,q=>by simp
 |p::R,L,q=>by
  rw[List.foldl_cons,vS R (ta L p) q,mem_putL,EG]
  constructor
  ·rintro((h|h)|h)
   ·exact .inl h
   ·exact .inr (.inl h)
   ·exact .inr (.inr h)
  ·rintro(h|h|h)
   ·exact .inl (.inl h)
   ·exact .inl (.inr h)
   ·exact .inr h
noncomputable def rt(l:List Cr)(c:Nat):Int:=fj (bz l (2*l.length)) c
noncomputable def nReg(l:List Cr)(S:List (Nat×Nat))(r:Int):Nat:=((kq (Orb l) [] S).filter fun x=>rt l x.1=r).length
noncomputable def nCr(l:List Cr)(k:Nat)(r:Int):Nat:=((List.range k).filter fun c=>rt l c=r).length
theorem zr{α:Type}(R:α->α->Prop): ∀(L seen:List α),(kq R seen L).length<=L.length
 | [],_=>EJ _
 |x::L,seen=>by
  simp only[kq]
  have:=zr R L (seen++[x])
  split<;>simp<;>omega
structure Met(l:List Cr)(S:List (Nat×Nat))(q:PS):Prop where
 met: ∀p,bt l p->(p∈q.met↔ ∃y∈S,Orb l y p)
 regs: ∀r,dz q.regs r=nReg l S r
theorem nReg_le(l:List Cr)(S:List (Nat×Nat))(r:Int):nReg l S r<=S.length:=Fz (Gk _ _) (zr _ _ _)
theorem Met.side{l:List Cr}(hs:ax l){S:List (Nat×Nat)}{q:PS}(h:Met l S q){c s:Nat}(hp:bt l (c,s))(hS:S.length<100000):
 Met l (S++[(c,s)]) (te l c (rt l c) q s):=by
 have hm:=h.met (c,s) hp
 have hreps:=sj (Orb l) (c,s) S []
 rw[List.nil_append]at hreps
 unfold te
 by_cases hin:(c,s)∈q.met
 ·rw[if_pos hin]
  obtain⟨y,hy,hyo⟩:=hm.1 hin
  refine⟨fun p hpl=> ?_,fun r=> ?_⟩
  ·rw[h.met p hpl]
   constructor
   ·rintro⟨z,hz,hzo⟩;exact⟨z,EY.2 (.inl hz),hzo⟩
   ·rintro⟨z,hz,hzo⟩
    rcases EY.1 hz with hz|hz
    ·exact⟨z,hz,hzo⟩
    ·have:z=(c,s):=by simpa using hz
     subst this
     exact⟨y,hy,hyo.trans hzo⟩
  ·rw[h.regs r]
   unfold nReg
   rw[hreps,if_pos ⟨y,hy,hyo⟩,Ft]
 ·rw[if_neg hin]
  have hno: ¬ ∃y∈S,Orb l y (c,s):=fun hh=>hin (hm.2 hh)
  refine⟨fun p hpl=> ?_,fun r=> ?_⟩
  ·simp only
   rw[vS,h.met p hpl,mem_ring hs hp]
   constructor
   ·rintro(⟨z,hz,hzo⟩|ho)
    ·exact⟨z,EY.2 (.inl hz),hzo⟩
    ·exact⟨(c,s),by simp,ho⟩
   ·rintro⟨z,hz,hzo⟩
    rcases EY.1 hz with hz|hz
    ·exact .inl ⟨z,hz,hzo⟩
    ·have:z=(c,s):=by simpa using hz
     subst this
     exact .inr hzo
  ·simp only
   have hb:=nReg_le l S (rt l c)
   rw[pS (by rw[h.regs];omega) (by rw[h.regs];omega),h.regs r]
   unfold nReg
   rw[hreps,if_neg hno,GZ,Ez]
   by_cases e:r=rt l c
   ·subst e;simp
   ·rw[if_neg e]
    have:rt l c≠r:=fun h=>e h.symm
    simp[this]
theorem Met.Eo{l:List Cr}(hs:ax l){S:List (Nat×Nat)}{q:PS}(h:Met l S q){c:Nat}(hc:c<l.length)(hS:S.length+4<100000):
 ∀t,t<=4->Met l (S++(List.range t).map fun s=>(c,s)) (mZ l c (rt l c) q t)
 | 0,_=>by simpa[mZ]using h
 |t+1,ht=>by
  have:=(Met.Eo hs h hc hS t (by omega)).side hs (c:=c) (s:=t) ⟨hc,by simp only;omega⟩ (by simp;omega)
  rw[Fq,Gd,<-EH]
  exact this
theorem tP(l:List Cr)(c:Nat)(r:Int)(q:PS): ∀t,(mZ l c r q t).want=q.want
 | 0=>rfl
 |t+1=>by
  simp only[mZ,te]
  split<;>simp only[tP l c r q t]
def plTo(k:Nat):List (Nat×Nat):=(List.range k).flatMap fun c=>(List.range 4).map fun p=>(c,p)
theorem plTo_len(k:Nat):(plTo k).length=4*k:=by
 induction k with
 |zero=>rfl
 |succ n ih=>unfold plTo at ih⊢;rw[Fq (n:=n),FV,Ez,ih];simp;omega
theorem wG{l:List Cr}(hs:ax l)(hl:l.length<=200): ∀k,k<=l.length->Met l (plTo k) (eo l k)
 | 0,_=>⟨fun p _=>by simp[eo,plTo],fun r=>by simp[eo,nReg,plTo,kq];rfl⟩
 |k+1,hk=>by
  have ih:=wG hs hl k (by omega)
  have hi:Met l (plTo k) ⟨iK (gh (eo l k).want (rt l k)) (rt l k),(eo l k).regs,(eo l k).met⟩:=⟨ih.met,ih.regs⟩
  have:=Met.Eo hs hi (c:=k) (by omega) (by rw[plTo_len];omega) 4 (EJ _)
  have e:plTo (k+1)=plTo k++(List.range 4).map fun s=>(k,s):=by
   unfold plTo;rw[Fq (n:=k),FV];simp
  rw[e]
  exact this
def kg(ms:List (Int×Int)):List Int:=ms.map (·.1)
theorem nv: ∀(ms:List (Int×Int)) (a v:Int),(kg ms).Nodup->(a,v)∈ms->look ms a=some v
 | [],a,v,_,h=>by cases h
 | (x,y)::r,a,v,hn,h=>by
   simp only[kg,Fv,Gj]at hn
   rw[i8]
   rcases EG.1 h with h|h
   ·cases h;simp
   ·have hne:a≠x:=fun e=>hn.1 (by rw[<-e];exact E9.2 ⟨(a,v),h,rfl⟩)
    have:(a==x)=false:=by simpa using hne
    rw[this,if_neg (by simp)]
    exact nv r a v hn.2 h
theorem vy(a c:Int): ∀ms:List (Int×Int),kg (put' a c ms)=if a∈kg ms then kg ms else kg ms++[a]
 | []=>rfl
 | (x,y)::r=>by
   rw[put']
   by_cases e:a=x
   ·subst e;simp[kg]
   ·have:(a==x)=false:=by simpa using e
    rw[this,if_neg (by simp)]
    have ih:=vy a c r
    simp only[kg,Fv,EG,e,false_or]at ih⊢
    rw[ih]
    split<;>rename_i hh<;>simp[hh]
theorem nC{ms:List (Int×Int)}(h:(kg ms).Nodup)(a c:Int):(kg (kj ms a c)).Nodup/\ ∀b,b∈kg (kj ms a c)↔b∈kg ms\/b=a:=by
 rw[B2,vy]
 split
 ·rename_i hm
  refine⟨h,fun b=>⟨.inl,?_⟩⟩
  rintro(h'|rfl)
  ·exact h'
  ·exact hm
 ·rename_i hm
  refine⟨?_,fun b=>by simp⟩
  rw[Gf]
  refine⟨h,by simp,?_⟩
  intro x hx y hy e
  have:y=a:=by simpa using hy
  subst this;subst e;exact hm hx
structure Want(l:List Cr)(k:Nat)(ms:List (Int×Int)):Prop where
 nd:(kg ms).Nodup
 ks: ∀r,r∈kg ms↔ ∃c,c<k/\rt l c=r
 val: ∀r,dz ms r=if nCr l k r=0 then 0 else 2+(nCr l k r:Int)
theorem nCr_succ(l:List Cr)(k:Nat)(r:Int):nCr l (k+1) r=nCr l k r+if rt l k=r then 1 else 0:=by
 unfold nCr
 rw[Fq,GZ,Ez]
 by_cases h:rt l k=r<;>simp[h]
theorem nCr_le(l:List Cr)(k:Nat)(r:Int):nCr l k r<=k:=by
 unfold nCr
 have:=Gk (fun c=>decide (rt l c=r)) (List.range k)
 rw[Gp]at this
 exact this
theorem BM{l:List Cr}{k c:Nat}(h:c<k):0<nCr l k (rt l c):=by
 unfold nCr
 rw[List.length_pos_iff_exists_mem]
 exact⟨c,Fb.2 ⟨ET.2 h,by simp⟩⟩
theorem cnt_put(ms:List (Int×Int))(a c b:Int):dz (kj ms a c) b=if b=a then c else dz ms b:=by
 unfold dz;rw[zi];split<;>rfl
theorem ue{l:List Cr}(hl:l.length<=200): ∀k,k<=l.length->Want l k (eo l k).want
 | 0,_=>⟨by simp[eo,kg],fun r=>by simp[eo,kg],fun r=>by simp[eo,nCr];rfl⟩
 |k+1,hk=>by
  have ih:=ue hl k (by omega)
  have e:(eo l (k+1)).want=iK (gh (eo l k).want (rt l k)) (rt l k):=tP _ _ _ _ 4
  rw[e]
  generalize (eo l k).want=ms at ih
  have hle:=nCr_le l k (rt l k)
  have hv:=ih.val (rt l k)
  have h2:(kg (gh ms (rt l k))).Nodup/\(∀b,b∈kg (gh ms (rt l k))->b∈kg ms\/b=rt l k)/\(∀b,b∈kg ms->b∈kg (gh ms (rt l k)))/\(∀r,dz (gh ms (rt l k)) r=if r=rt l k then 2+(nCr l k (rt l k):Int)else dz ms r):=by
   unfold gh
   change _ at hv
   by_cases h0:dz ms (rt l k)=0
   ·have hc:((look ms (rt l k)).getD 0==0)=true:=by simpa[dz]using h0
    rw[if_pos hc]
    have hz:nCr l k (rt l k)=0:=by
     rw[h0]at hv;split at hv
     ·assumption
     ·omega
    refine⟨(nC ih.nd _ _).1,fun b hb=>((nC ih.nd _ _).2 b).1 hb,fun b hb=>((nC ih.nd _ _).2 b).2 (.inl hb),fun r=> ?_⟩
    rw[cnt_put,hz]
    split<;>simp
   ·have hc:((look ms (rt l k)).getD 0==0)=false:=by simpa[dz]using h0
    rw[if_neg (by rw[hc];simp)]
    refine⟨ih.nd,fun b hb=> .inl hb,fun b hb=>hb,fun r=> ?_⟩
    split
    ·rename_i e;subst e
     rw[hv];split
     ·rename_i hz;rw[hv,if_pos hz]at h0;exact absurd rfl h0
     ·rfl
    ·rfl
  generalize gh ms (rt l k)=m2 at h2
  obtain⟨a1,a2,a2',a3⟩:=h2
  have hb:=a3 (rt l k)
  rw[if_pos rfl]at hb
  refine⟨(nC a1 _ _).1,fun r=> ?_,fun r=> ?_⟩
  ·unfold iK
   rw[(nC a1 _ _).2 r]
   constructor
   ·rintro(h|rfl)
    ·rcases a2 r h with h|rfl
     ·obtain⟨c,hc,he⟩:=(ih.ks r).1 h;exact⟨c,by omega,he⟩
     ·exact⟨k,by omega,rfl⟩
    ·exact⟨k,by omega,rfl⟩
   ·rintro⟨c,hc,he⟩
    by_cases ck:c=k
    ·subst ck;exact .inr he.symm
    ·exact .inl (a2' r ((ih.ks r).2 ⟨c,by omega,he⟩))
  ·rw[pS (by rw[hb];omega) (by rw[hb];omega),a3 r,nCr_succ]
   by_cases e:r=rt l k
   ·subst e
    rw[if_pos rfl,if_pos rfl,if_pos rfl,if_neg (by omega)];omega
   ·have e':rt l k≠r:=fun h=>e h.symm
    rw[if_neg e,if_neg e,if_neg e',ih.val r,Nat.add_zero,Int.add_zero]
def zS(l:List Cr):Prop:= ∀c,c<l.length->nReg l (fL l) (rt l c)=2+nCr l l.length (rt l c)
theorem vK{l:List Cr}(hs:ax l)(hl:l.length<=200):pF l=true↔zS l:=by
 have hm:=wG hs hl l.length (EJ _)
 have hw:=ue hl l.length (EJ _)
 have hpl:plTo l.length=fL l:=rfl
 rw[hpl]at hm
 unfold pF
 rw[EI]
 generalize eo l l.length=q at hm hw
 constructor
 ·intro h c hc
  have hk:=(hw.ks (rt l c)).2 ⟨c,hc,rfl⟩
  obtain⟨p,hp,hpe⟩:=E9.1 hk
  have h1:=h p hp
  have h2:dz q.regs p.1=p.2:=by simpa[dz]using h1
  have h3:dz q.want p.1=p.2:=by unfold dz;rw[nv _ p.1 p.2 hw.nd hp];rfl
  rw[hpe]at h2 h3
  have hv:=hw.val (rt l c)
  have:=BM (l:=l) hc
  rw[if_neg (by omega)]at hv
  have hr:=hm.regs (rt l c)
  omega
 ·intro h p hp
  have h3:dz q.want p.1=p.2:=by unfold dz;rw[nv _ p.1 p.2 hw.nd hp];rfl
  obtain⟨c,hc,hce⟩:=(hw.ks p.1).1 (E9.2 ⟨p,hp,rfl⟩)
  have hv:=hw.val (rt l c)
  have:=BM (l:=l) hc
  rw[if_neg (by omega)]at hv
  have hr:=hm.regs (rt l c)
  have:=h c hc
  rw[hce]at hv hr this
  have:dz q.regs p.1=p.2:=by omega
  simpa[dz]using this
structure dE(l l':List Cr)(f f' g g':Nat->Nat):Prop where
 len:l'.length=l.length
 fl: ∀i,i<l.length->f i<l.length
 fl': ∀i,i<l.length->f' i<l.length
 ff: ∀i,i<l.length->f (f' i)=i
 ff': ∀i,i<l.length->f' (f i)=i
 gl: ∀i,i<2*l.length->g i<2*l.length
 gl': ∀i,i<2*l.length->g' i<2*l.length
 gg: ∀i,i<2*l.length->g (g' i)=i
 gg': ∀i,i<2*l.length->g' (g i)=i
 el: ∀i,i<l.length-> ∃x x',l'[i]? =some x'/\l[f i]? =some x/\x'.s=x.s/\ ∀q,q<4->x'.arc q=(g (x.arc q).toNat:Int)
section
variable {l l':List Cr}{f f' g g':Nat->Nat}
theorem dE.symm(hs:ax l)(h:dE l l' f f' g g'):dE l' l f' f g' g:=by
 have e:=h.len
 refine⟨e.symm,by rw[e];exact h.fl',by rw[e];exact h.fl,by rw[e];exact h.ff',by rw[e];exact h.ff,by rw[e];exact h.gl',by rw[e];exact h.gl,by rw[e];exact h.gg',by rw[e];exact h.gg,fun i hi=> ?_⟩
 rw[e]at hi
 obtain⟨x,x',h1,h2,h3,h4⟩:=h.el (f' i) (h.fl' i hi)
 rw[h.ff i hi]at h2
 refine⟨x',x,h2,h1,h3.symm,fun q hq=> ?_⟩
 have hr:=hs.range x (EE h2) q hq
 rw[h4 q hq,Int.toNat_natCast,h.gg' _ (by omega)]
 omega
def was(f:Nat->Nat)(p:Nat×Nat):Nat×Nat:=(f p.1,p.2)
theorem dE.pl(h:dE l l' f f' g g'){p:Nat×Nat}(hp:bt l' p):bt l (was f p):=⟨h.fl p.1 (by have:=hp.1;rw[h.len]at this;exact this),hp.2⟩
theorem dE.was_inj(h:dE l l' f f' g g'){p q:Nat×Nat}(hp:bt l' p)(hq:bt l' q)(e:was f p=was f q):p=q:=by
 have hp1:=hp.1
 have hq1:=hq.1
 rw[h.len]at hp1 hq1
 have e1:=congrArg Prod.fst e
 have e2:=congrArg Prod.snd e
 simp only[was]at e1 e2
 refine Gh ?_ e2
 rw[<-h.ff' p.1 hp1,<-h.ff' q.1 hq1,e1]
theorem dE.arc(h:dE l l' f f' g g'){p:Nat×Nat}(hp:bt l' p):ay l' p=(g (bW l (was f p)):Int)/\cn l' p=cn l (was f p):=by
 obtain⟨x,x',h1,h2,h3,h4⟩:=h.el p.1 (by have:=hp.1;rw[h.len]at this;exact this)
 simp only[ay,cn,bW,was,h1,h2]
 exact⟨h4 p.2 hp.2,by rw[h3]⟩
theorem dE.sound(hs:ax l)(h:dE l l' f f' g g'):ax l':=by
 refine ax.Eb (fun x' hx=> ?_) (fun p hp=> ?_) (fun p p' hp hp' e1 e2=> ?_)
 ·obtain⟨i,hi⟩:=Gs hx
  have hlt:=(Ey.1 hi).1
  rw[h.len]at hlt
  obtain⟨x,y,h1,h2,h3,_⟩:=h.el i hlt
  rw[hi]at h1;cases h1
  rw[h3];exact hs.sign x (EE h2)
 ·rw[(h.arc hp).1,h.len]
  have:=h.gl _ (hs.an (h.pl hp)).2
  omega
 ·rw[(h.arc hp).1,(h.arc hp').1]at e1
  rw[(h.arc hp).2,(h.arc hp').2]at e2
  have b1:=hs.an (h.pl hp)
  have b2:=hs.an (h.pl hp')
  have e3:bW l (was f p)=bW l (was f p'):=by
   rw[<-h.gg' _ b1.2,<-h.gg' _ b2.2]
   congr 1
   omega
  exact h.was_inj hp hp' (hs.same (h.pl hp) (h.pl hp') (by omega) e2)
theorem ax.oth_iff(hs:ax l){p:Nat×Nat}(hp:bt l p):ay l (oth l p)=ay l p/\cn l (oth l p)= !cn l p:=by
 obtain⟨x,hx,_⟩:=ax.mem hp
 obtain⟨hh,_⟩:=hs.oh hx hp.2
 obtain⟨_,a2,a3⟩:=dn.1 hh
 simp only[ay,cn,hx]at a2 a3⊢
 exact⟨a2,a3⟩
theorem dE.oth(hs:ax l)(h:dE l l' f f' g g'){p:Nat×Nat}(hp:bt l' p):was f (oth l' p)=oth l (was f p):=by
 have hs':=h.sound hs
 have hp':=hs'.oth_pl hp
 obtain⟨a1,a2⟩:=hs'.oth_iff hp
 obtain⟨b1,b2⟩:=hs.oth_iff (h.pl hp)
 rw[(h.arc hp).1,(h.arc hp').1]at a1
 rw[(h.arc hp).2,(h.arc hp').2]at a2
 have c1:=hs.an (h.pl hp)
 have c2:=hs.an (h.pl hp')
 have e3:bW l (was f (Proofs.Ytjcomcgpjjianaa.oth l' p))=bW l (was f p):=by
  rw[<-h.gg' _ c1.2,<-h.gg' _ c2.2]
  congr 1
  omega
 exact hs.same (h.pl hp') (hs.oth_pl (h.pl hp)) (by omega) (by rw[a2,b2])
theorem dE.nx(hs:ax l)(h:dE l l' f f' g g'){p:Nat×Nat}(hp:bt l' p):was f (nx l' p)=nx l (was f p):=by
 have:=h.oth hs hp
 have e1:=congrArg Prod.fst this
 have e2:=congrArg Prod.snd this
 simp only[was]at e1 e2
 exact Gh e1 (by simp only[was,Proofs.Ytjcomcgpjjianaa.nx];rw[e2])
theorem dE.it(hs:ax l)(h:dE l l' f f' g g'){p:Nat×Nat}(hp:bt l' p): ∀k,was f (it (Proofs.Ytjcomcgpjjianaa.nx l') k p)=it (Proofs.Ytjcomcgpjjianaa.nx l) k (was f p)
 | 0=>rfl
 |k+1=>by
  have hs':=h.sound hs
  simp only[Proofs.Ytjcomcgpjjianaa.it]
  rw[h.nx hs (jt (S:=bt l') hs'.nx_pl hp k),h.it hs hp k]
theorem dE.orb(hs:ax l)(h:dE l l' f f' g g'){p q:Nat×Nat}(hp:bt l' p)(hq:bt l' q):Orb l' p q↔Orb l (was f p) (was f q):=by
 have hs':=h.sound hs
 constructor
 ·rintro(rfl|⟨_,_,k,hk⟩)
  ·exact .inl rfl
  ·exact .inr ⟨h.pl hp,h.pl hq,k,by rw[<-h.it hs hp,hk]⟩
 ·rintro(e|⟨_,_,k,hk⟩)
  ·exact .inl (h.was_inj hp hq e)
  ·rw[<-h.it hs hp]at hk
   exact .inr ⟨hp,hq,k,h.was_inj (jt (S:=bt l') hs'.nx_pl hp k) hq hk⟩
theorem dE.lk(hs:ax l)(h:dE l l' f f' g g'){k c d:Nat}(hk:k<=2*l.length)(hl:Lk l' k c d):Lk l (2*l.length) (f c) (f d):=by
 have hs':=h.sound hs
 induction hl with
 |refl c=>exact .refl _
 |arc a ha=>
  obtain⟨p1,p2,p3,_⟩:=hs'.pl false (a:=a) (by rw[h.len];omega)
  obtain⟨q1,q2,q3,_⟩:=hs'.pl true (a:=a) (by rw[h.len];omega)
  generalize aW l' a false=p at p1 p2 p3
  generalize aW l' a true=q at q1 q2 q3
  rw[(h.arc p1).1]at p2
  rw[(h.arc q1).1]at q2
  rw[(h.arc p1).2]at p3
  rw[(h.arc q1).2]at q3
  have c1:=hs.an (h.pl p1)
  have c2:=hs.an (h.pl q1)
  have e3:bW l (was f p)=bW l (was f q):=by
   rw[<-h.gg' _ c1.2,<-h.gg' _ c2.2]
   congr 1
   omega
  have w1:=hs.plOf_arcN (h.pl p1)
  have w2:=hs.plOf_arcN (h.pl q1)
  rw[p3]at w1
  rw[q3]at w2
  have:=Lk.arc (l:=l) (k:=2*l.length) (bW l (was f p)) c1.2
  rw[w1,e3,w2]at this
  exact this
 |symm _ ih=>exact ih.symm
 |trans _ _ ih1 ih2=>exact ih1.trans ih2
theorem AY(hs:ax l)(c d:Nat):rt l c=rt l d↔Lk l (2*l.length) c d:=rZ hs _ (EJ _) c d
theorem dE.rt(hs:ax l)(h:dE l l' f f' g g'){c d:Nat}(e:rt l' c=rt l' d):rt l (f c)=rt l (f d):=by
 have hs':=h.sound hs
 have:=(AY hs' c d).1 e
 rw[h.len]at this
 exact(AY hs _ _).2 (h.lk hs (EJ _) this)
theorem Orb.rt(hs:ax l){p q:Nat×Nat}(h:Orb l p q):rt l p.1=rt l q.1:=by
 rcases h with rfl|⟨hp,hq0,k,rfl⟩
 ·rfl
 ·clear hq0
  refine(AY hs _ _).2 ?_
  induction k with
  |zero=>exact .refl _
  |succ k ih=>
   refine .trans ih ?_
   simp only[it]
   have hq:=jt (S:=bt l) hs.nx_pl hp k
   generalize it (Proofs.Ytjcomcgpjjianaa.nx l) k p=q at hq
   show Lk l _ q.1 (Proofs.Ytjcomcgpjjianaa.oth l q).1
   obtain⟨a1,a2⟩:=hs.oth_iff hq
   have c1:=hs.an hq
   have c2:=hs.an (hs.oth_pl hq)
   have w1:=hs.plOf_arcN hq
   have w2:=hs.plOf_arcN (hs.oth_pl hq)
   rw[a2,show bW l (Proofs.Ytjcomcgpjjianaa.oth l q)=bW l q by omega]at w2
   have:=Lk.arc (l:=l) (k:=2*l.length) (bW l q) c1.2
   cases hb:cn l q
   ·rw[hb]at w1 w2
    rw[w1,show aW l (bW l q) true=_ from w2]at this
    exact this
   ·rw[hb]at w1 w2
    rw[w1,show aW l (bW l q) false=_ from w2]at this
    exact this.symm
theorem dE.nCr_le(hs:ax l)(h:dE l l' f f' g g'){c:Nat}:nCr l' l'.length (Proofs.Ytjcomcgpjjianaa.rt l' c)<=nCr l l.length (Proofs.Ytjcomcgpjjianaa.rt l (f c)):=by
 unfold nCr
 refine xK (f:=f) (Gg.filter _) (fun x hx y hy e=> ?_) fun x hx=> ?_
 ·have hx1:=ET.1 (Fb.1 hx).1
  have hy1:=ET.1 (Fb.1 hy).1
  rw[h.len]at hx1 hy1
  rw[<-h.ff' x hx1,<-h.ff' y hy1,e]
 ·obtain⟨h1,h2⟩:=Fb.1 hx
  rw[ET,h.len]at h1
  exact Fb.2 ⟨ET.2 (h.fl x h1),by simpa using h.rt hs (by simpa using h2)⟩
theorem dE.nReg_le(hs:ax l)(h:dE l l' f f' g g'){c:Nat}:nReg l' (fL l') (Proofs.Ytjcomcgpjjianaa.rt l' c)<=nReg l (fL l) (Proofs.Ytjcomcgpjjianaa.rt l (f c)):=by
 have hs':=h.sound hs
 have hc: ∀x,x∈fL l'-> ∃y,y∈kq (Orb l) [] (fL l)/\Orb l y (was f x):=fun x hx=>by
  rcases pA (R:=Orb l) (Orb.refl l) (fun _ _ _ a b=>Orb.trans a b) (seen:=[]) (cW.2 (h.pl (cW.1 hx)))with ⟨y,hy,_⟩|⟨y,hy,hh⟩
  ·cases hy
  ·exact⟨y,hy,hh⟩
 have: ∃G:Nat×Nat->Nat×Nat,∀x∈fL l',G x∈kq (Orb l) [] (fL l)/\Orb l (G x) (was f x):=by
  refine⟨fun x=>if hx:x∈fL l' then Classical.choose (hc x hx)else x,fun x hx=> ?_⟩
  simp only[dif_pos hx]
  exact Fm (hc x hx)
 obtain⟨G,hG⟩:=this
 have hpw:=qF (R:=Orb l') (L:=fL l') (seen:=[])
 have hnd:(kq (Orb l') [] (fL l')).Nodup:=hpw.imp fun{x y} hh e=>hh (by rw[e];exact Orb.refl _ _)
 unfold nReg
 refine xK (f:=G) (hnd.filter _) (fun x hx y hy e=> ?_) fun x hx=> ?_
 ·have hx1:=(Fb.1 hx).1
  have hy1:=(Fb.1 hy).1
  have h1:=(hG x (jG hx1)).2
  have h2:=(hG y (jG hy1)).2
  rw[e]at h1
  have hxy:Orb l' x y:=(h.orb hs (cW.1 (jG hx1)) (cW.1 (jG hy1))).2 ((h1.symm hs).trans h2)
  obtain⟨i,hi⟩:=Gs hx1
  obtain⟨j,hj⟩:=Gs hy1
  have hi':=(Ey.1 hi)
  have hj':=(Ey.1 hj)
  rcases Ge i j with hh|hh|hh
  ·have:=GT.1 hpw i j hi'.1 hj'.1 hh
   rw[hi'.2,hj'.2]at this
   exact absurd hxy this
  ·subst hh;rw[hi]at hj;exact Fj hj
  ·have:=GT.1 hpw j i hj'.1 hi'.1 hh
   rw[hi'.2,hj'.2]at this
   exact absurd (hxy.symm hs') this
 ·obtain⟨h1,h2⟩:=Fb.1 hx
  obtain⟨g1,g2⟩:=hG x (jG h1)
  refine Fb.2 ⟨g1,?_⟩
  have e1:=g2.rt hs
  have e2:=h.rt hs (c:=x.1) (d:=c) (by simpa using h2)
  simp only[was]at e1
  simpa using e1.trans e2
theorem dE.planar(hs:ax l)(h:dE l l' f f' g g')(hp:zS l):zS l':=by
 intro c hc
 have hc':c<l.length:=by rw[<-h.len];exact hc
 have hs':=h.sound hs
 have a1:=h.nCr_le hs (c:=c)
 have a2:=h.nReg_le hs (c:=c)
 have b1:=(h.symm hs).nCr_le hs' (c:=f c)
 have b2:=(h.symm hs).nReg_le hs' (c:=f c)
 rw[h.ff' c hc']at b1 b2
 have:=hp (f c) (h.fl c hc')
 omega
end
end Go.Proofs.Ytjcomcgpjjianaa
