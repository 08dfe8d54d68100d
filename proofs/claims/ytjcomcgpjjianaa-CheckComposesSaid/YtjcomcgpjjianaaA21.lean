import Derived.Test.YtjcomcgpjjianaaA19
import Derived.Test.YtjcomcgpjjianaaA20
set_option linter.all false
set_option maxHeartbeats 16000000
set_option maxRecDepth 8000
open Go.Value renaming int→O
open Go.IntKind renaming i64→U
namespace Go.Proofs.Ytjcomcgpjjianaa
open Go.Ev
def Pm.list(p:Pm):List Int:=[p.p0,p.p1,p.p2,p.p3]
def Pm.ok(p:Pm):Bool:=eg (List.replicate 4 false) p.list
theorem Pm.list_get(p:Pm){q:Nat}(hq:q<4):p.list[q]? =some (p.at q):=by
 match q,hq with
 | 0,_=>rfl
 | 1,_=>rfl
 | 2,_=>rfl
 | 3,_=>rfl
theorem Pm.cells_get(p:Pm){q:Nat}(hq:q<4):([O U p.p0,O U p.p1,O U p.p2,O U p.p3]:List Value)[q]? =some (O U (p.at q)):=by
 match q,hq with
 | 0,_=>rfl
 | 1,_=>rfl
 | 2,_=>rfl
 | 3,_=>rfl
theorem Pm.cells_get'(p:Pm){q:Nat}(hq:q<4)(hl:q<([O U p.p0,O U p.p1,O U p.p2,O U p.p3]:List Value).length):
 ([O U p.p0,O U p.p1,O U p.p2,O U p.p3]:List Value)[q]=O U (p.at q):=by
 have:=p.cells_get hq
 rw[Ex hl]at this
 exact Fj this
theorem nE(H:AH)(p:Pm):AC Try.prog 13 [p.val] H (.val (.bool p.ok) H):=by
 refine AC.o 30 f13 fun σ w hr=> ?_
 refine W.seq (W.g ?_ (by simp[go_sem,Pm.val];rfl))
 refine W.seq (W.g ?_)
 refine W.seq ?_
 refine W.seq (W.g ?_)
 refine W.block ?_
 refine W.loop (fun m E h=> ∃q bs,m=4-q/\q<=4/\bs.length=4/\ae E 1= .pointer (some ⟨H.length,0,none⟩)/\ae E 3= .pointer (some ⟨H.length+1,0,none⟩)/\ae E 4=O U q/\h=H++[.cells [O U p.p0,O U p.p1,O U p.p2,O U p.p3] 39,.cells (bs.map .bool) 90]/\p.ok=eg bs (p.list.drop q)) 4
  ⟨0,List.replicate 4 false,rfl,by omega,rfl,by simp[ae],by simp[ae],by simp[ae],rfl,rfl⟩ ?_
 rintro m E h ⟨q,bs,rfl,hq,hbs,e1,e3,e4,rfl,hpl⟩
 by_cases hq4:q<4
 ·have hq':(q:Int)<4:=by omega
  have hc:=p.cells_get hq4
  have hc':=fun hl=>p.cells_get' hq4 hl
  have hx:=p.list_get hq4
  have hlq:q<p.list.length:=by simp[Pm.list];omega
  rw[E7 hlq]at hpl
  have hxe:p.list[q]=p.at q:=by rw[Ex hlq]at hx;exact Fj hx
  rw[hxe]at hpl
  generalize hx0:p.at q=x at hc hc' hpl
  refine W.seq (W.seq (W.g ?_ (by simp[go_sem,e4,hq'];rfl)))
  refine W.ct (W.skip ?_)
  refine W.seq (W.block ?_)
  refine W.seq (W.seq ?_)
  cases g1:decide (x<0)
  ·cases g2:decide (3<x)
   ·have hx1:0<=x:=by simpa using g1
    have hx2:x<4:=by have: ¬3<x:=by simpa using g2
                     omega
    have hxn:x.toNat<bs.length:=by omega
    have hxn':x.toNat+1<=4:=by omega
    have hb:bs[x.toNat]? =some bs[x.toNat]:=Ex hxn
    have hbm:(bs.map Value.bool)[x.toNat]? =some (.bool bs[x.toNat]):=by rw[EM,hb];rfl
    cases g3:bs[x.toNat]
    ·rw[g3]at hb hbm
     refine W.g ?_ (by simp[go_sem,e1,e3,e4,hq',hc,hc',g1,g2,hx1,hx2,hbm];rfl)
     refine W.cf (W.skip ?_)
     refine W.g ?_ (by simp[go_sem,e1,e3,e4,hq',hc,hc',hx1,hx2,hxn',hbs];rfl)
     refine W.g ?_ (by simp[go_sem,e4];rfl)
     refine⟨4-(q+1),by omega,q+1,bs.set x.toNat true,rfl,by omega,by simp[hbs],by simp[ae,e1],by simp[ae,e3],?_,by rw[Gz],?_⟩
     ·simp only[ae,if_true];rw[aA (by omega)]
     ·rw[hpl];simp only[eg]
      rw[if_neg (by omega),if_neg (by omega),EF,hb];simp
    ·rw[g3]at hb hbm
     refine W.g ?_ (by simp[go_sem,e1,e3,e4,hq',hc,hc',g1,g2,hx1,hx2,hbm];rfl)
     refine W.ct ?_
     refine W.seq (W.g ?_)
     have hf:p.ok=false:=by
      rw[hpl];simp only[eg]
      rw[if_neg (by omega),if_neg (by omega),EF,hb];simp
     rw[hf]
     exact W.ret (Ends.quiet (by simp[go_sem]) rfl)
   ·refine W.g ?_ (by simp[go_sem,e1,e4,hq',hc,hc',g1,g2];rfl)
    refine W.ct ?_
    refine W.seq (W.g ?_)
    have hf:p.ok=false:=by
     have h1: ¬x<0:=by simpa using g1
     have h2:3<x:=by simpa using g2
     rw[hpl];simp only[eg]
     rw[if_neg h1,if_pos (by omega)]
    rw[hf]
    exact W.ret (Ends.quiet (by simp[go_sem]) rfl)
  ·refine W.g ?_ (by simp[go_sem,e1,e4,hq',hc,hc',g1];rfl)
   refine W.ct ?_
   refine W.seq (W.g ?_)
   have hf:p.ok=false:=by
    have h1:x<0:=by simpa using g1
    rw[hpl];simp only[eg]
    rw[if_pos h1]
   rw[hf]
   exact W.ret (Ends.quiet (by simp[go_sem]) rfl)
 ·have hqq:q=4:=by omega
  subst hqq
  refine W.seq (W.seq (W.g ?_ (by simp[go_sem,e4];rfl)))
  refine W.cf (W.exit ?_)
  simp only[AX.then,AX.inBlock,if_true]
  refine W.seq (W.g ?_)
  rw[hpl]
  exact W.ret (Ends.quiet (by simp[go_sem,eg,Pm.list]) rfl)
theorem oy: ∀(l:List Int) (bs:List Bool),eg bs l=true-> ∀x∈l,0<=x/\x<bs.length
 | [],_,_,x,hx=>by cases hx
 |y::l,bs,h,x,hx=>by
  simp only[eg]at h
  split at h
  ·cases h
  ·split at h
   ·cases h
   ·split at h
    ·cases h
    ·rename_i h1 h2 h3
     rcases EG.1 hx with rfl|hx
     ·omega
     ·have:=oy l _ h x hx
      simpa using this
theorem Pm.DI{p:Pm}(h:p.ok=true):p.inside:=by
 have:=oy _ _ h
 simp only[Pm.list,Fy]at this
 exact⟨this _ (by simp),this _ (by simp),this _ (by simp),this _ (by simp)⟩
def Pm.none:Pm:=⟨0,0,0,0⟩
def Pm.inv(p:Pm):Pm:=if p.ok=true then p.undo else Pm.none
def Pm.comp(p q:Pm):Pm:=if p.ok=true/\q.ok=true then p.times q else Pm.none
theorem Az(H:AH)(p:Pm):AC Try.prog 14 [p.val] H (.val p.inv.val H):=by
 refine AC.o 19 f14 fun σ w hr=> ?_
 refine W.seq (W.g ?_ (by simp[go_sem,Pm.val];rfl))
 refine W.seq (W.g ?_)
 refine W.seq (W.seq (W.region (Wl.s ?_)))
 refine Wl.o (Sc b13 (nE _ p)) ?_
 refine Wl.s (Wl.nil ?_)
 cases hok:p.ok
 ·refine W.ct ?_ (by simp[go_sem,hok])
  refine W.seq (W.g ?_)
  have:p.inv=Pm.none:=by simp[Pm.inv,hok]
  rw[this]
  exact W.ret (Ends.quiet (by simp[go_sem,Pm.val,Pm.none]) rfl)
 ·have hp:=Pm.DI hok
  refine W.cf (W.skip ?_) (by simp[go_sem,hok])
  refine W.seq (W.seq (W.g ?_))
  refine W.block ?_
  refine W.loop (fun m E h=> ∃q,m=4-q/\q<=4/\ae E 1= .pointer (some ⟨H.length,0,none⟩)/\ae E 2= .pointer (some ⟨H.length+1,0,none⟩)/\ae E 3= .pointer (some ⟨H.length+2,0,none⟩)/\ae E 4=O U q/\h=H++[.cells [O U p.p0,O U p.p1,O U p.p2,O U p.p3] 39,.cells [O U 0,O U 0,O U 0,O U 0] 39,.cells (vR p q) 39]) 4
   ⟨0,rfl,by omega,by simp[ae],by simp[ae],by simp[ae],by simp[ae],rfl⟩ ?_
  rintro m E h ⟨q,rfl,hq,e1,e2,e3,e4,rfl⟩
  by_cases hq4:q<4
  ·have hq':(q:Int)<4:=by omega
   have hc:=p.cells_get hq4
   have hc':=fun hl=>p.cells_get' hq4 hl
   have hin:=p.at_inside hp (q:=q) ⟨by omega,hq'⟩
   have hlen:=ln p q
   have hle:(p.at q).toNat+1<=4:=by omega
   refine W.seq (W.seq (W.g ?_ (by simp[go_sem,e4,hq'];rfl)))
   refine W.ct (W.skip ?_)
   refine W.seq (W.block ?_)
   refine W.g ?_ (by simp[go_sem,e1,e3,e4,hq',hc,hc',hin,hlen,hle];rfl)
   refine W.g ?_ (by simp[go_sem,e4];rfl)
   refine⟨4-(q+1),by omega,q+1,rfl,by omega,by simp[ae,e1],by simp[ae,e2],by simp[ae,e3],?_,rfl⟩
   simp only[ae,if_true];rw[aA (by omega)]
  ·have hqq:q=4:=by omega
   subst hqq
   refine W.seq (W.seq (W.g ?_ (by simp[go_sem,e4];rfl)))
   refine W.cf (W.exit ?_)
   simp only[AX.then,AX.inBlock,if_true]
   rw[wA p hp]
   refine W.seq (W.g ?_ (by simp[go_sem,e2,e3];rfl))
   have:p.inv=p.undo:=by simp[Pm.inv,hok]
   rw[this]
   exact W.ret (Ends.quiet (by simp[go_sem,e2,Pm.val,Pm.undo]) rfl)
def tT(p r:Pm):Nat->List Value
 | 0=>[O U 0,O U 0,O U 0,O U 0]
 |q+1=>(tT p r q).set q (O U (p.at (r.at q)))
theorem oG(p r:Pm): ∀q,(tT p r q).length=4
 | 0=>rfl
 |q+1=>by simp only[tT,EA,oG p r q]
theorem Ah(p r:Pm):tT p r 4=[O U (p.at r.p0),O U (p.at r.p1),O U (p.at r.p2),O U (p.at r.p3)]:=rfl
theorem zQ(H:AH)(p r:Pm):AC Try.prog 8 [p.val,r.val] H (.val (p.comp r).val H):=by
 refine AC.o 28 f8 fun σ w hr=> ?_
 refine W.seq (W.g ?_ (by simp[go_sem,Pm.val];rfl))
 refine W.seq (W.g ?_)
 refine W.seq (W.seq (W.region (Wl.s ?_)))
 refine Wl.o (Sc b13 (nE _ p)) ?_
 cases h1:p.ok
 ·refine Wl.s (Wl.nil ?_) (by simp[go_sem,h1];rfl)
  refine W.ct ?_
  refine W.seq (W.g ?_)
  have:p.comp r=Pm.none:=by simp[Pm.comp,h1]
  rw[this]
  exact W.ret (Ends.quiet (by simp[go_sem,Pm.val,Pm.none]) rfl)
 ·refine Wl.s ?_ (by simp[go_sem,h1];rfl)
  refine Wl.o (Sc b13 (nE _ r)) ?_
  refine Wl.s (Wl.nil ?_)
  cases h2:r.ok
  ·refine W.ct ?_ (by simp[go_sem,h2])
   refine W.seq (W.g ?_)
   have:p.comp r=Pm.none:=by simp[Pm.comp,h2]
   rw[this]
   exact W.ret (Ends.quiet (by simp[go_sem,Pm.val,Pm.none]) rfl)
  ·have hri:=Pm.DI h2
   refine W.cf (W.skip ?_) (by simp[go_sem,h2])
   refine W.seq (W.seq (W.g ?_))
   refine W.block ?_
   refine W.loop (fun m E h=> ∃q,m=4-q/\q<=4/\ae E 2= .pointer (some ⟨H.length,0,none⟩)/\ae E 3= .pointer (some ⟨H.length+1,0,none⟩)/\ae E 4= .pointer (some ⟨H.length+2,0,none⟩)/\ae E 5= .pointer (some ⟨H.length+3,0,none⟩)/\ae E 6=O U q/\h=H++[.cells [O U p.p0,O U p.p1,O U p.p2,O U p.p3] 39,.cells [O U r.p0,O U r.p1,O U r.p2,O U r.p3] 39,
                                                                                                                                                                                                                                               .cells [O U 0,O U 0,O U 0,O U 0] 39,.cells (tT p r q) 39]) 4
    ⟨0,rfl,by omega,by simp[ae],by simp[ae],by simp[ae],by simp[ae],by simp[ae],rfl⟩ ?_
   rintro m E h ⟨q,rfl,hq,e2,e3,e4,e5,e6,rfl⟩
   by_cases hq4:q<4
   ·have hq':(q:Int)<4:=by omega
    have hc:=r.cells_get hq4
    have hc':=fun hl=>r.cells_get' hq4 hl
    have hin:=r.at_inside hri (q:=q) ⟨by omega,hq'⟩
    have hd:=p.get hin
    have hd':=fun hl=>p.get' hin hl
    have hlen:=oG p r q
    have hle:q+1<=4:=by omega
    refine W.seq (W.seq (W.g ?_ (by simp[go_sem,e6,hq'];rfl)))
    refine W.ct (W.skip ?_)
    refine W.seq (W.block ?_)
    refine W.g ?_ (by simp[go_sem,e2,e3,e5,e6,hq',hc,hc',hin,hd,hd',hlen,hle];rfl)
    refine W.g ?_ (by simp[go_sem,e6];rfl)
    refine⟨4-(q+1),by omega,q+1,rfl,by omega,by simp[ae,e2],by simp[ae,e3],by simp[ae,e4],by simp[ae,e5],?_,rfl⟩
    simp only[ae,if_true];rw[aA (by omega)]
   ·have hqq:q=4:=by omega
    subst hqq
    refine W.seq (W.seq (W.g ?_ (by simp[go_sem,e6];rfl)))
    refine W.cf (W.exit ?_)
    simp only[AX.then,AX.inBlock,if_true]
    rw[Ah]
    refine W.seq (W.g ?_ (by simp[go_sem,e4,e5];rfl))
    have:p.comp r=p.times r:=by simp[Pm.comp,h1,h2]
    rw[this]
    exact W.ret (Ends.quiet (by simp[go_sem,e4,Pm.val,Pm.times]) rfl)
theorem yq(H:AH)(v:Value)(l:List Int)(hs:cy H v l)(y:Int)(hl:l.length<4611686018427387904):AC Try.prog 28 [v,O U y] H (.val (.bool (l.contains y)) H):=by
 obtain⟨b,k,rfl⟩:=hs.len
 refine AC.o 18 f28 fun σ w hr=> ?_
 refine W.seq (W.g ?_)
 refine W.seq ?_
 refine W.seq (W.g ?_)
 refine W.block ?_
 refine W.loop (fun m E h=> ∃j,m=l.length-j/\j<=l.length/\ae E 0= .slice b l.length k/\ae E 1=O U y/\ae E 5=O U j/\h=H/\l.contains y=(l.drop j).contains y) l.length
  ⟨0,by omega,by omega,by simp[ae],by simp[ae],by simp[ae],rfl,rfl⟩ ?_
 rintro m E h ⟨j,rfl,hj,e0,e1,e5,rfl,hpl⟩
 by_cases hlt:j<l.length
 ·have hx:l[j]? =some l[j]:=Ex hlt
  rw[E7 hlt]at hpl
  generalize l[j]=x at hx hpl
  obtain⟨n',i',c',hb,h3⟩:=hs.read hx
  cases hb
  refine W.seq (W.seq (W.g ?_ (by simp[go_sem,e0,e5,hlt];rfl)))
  refine W.ct (W.skip ?_)
  refine W.seq (W.block ?_)
  cases g:x==y
  ·refine W.seq (W.g ?_ (by simp[go_sem,e0,e1,e5,hlt,h3,g];rfl))
   refine W.cf (W.skip ?_) (by simp[go_sem,g])
   refine W.g ?_ (by simp[go_sem,e5];rfl)
   refine⟨l.length-(j+1),by omega,j+1,rfl,by omega,by simp[ae,e0],by simp[ae,e1],?_,rfl,?_⟩
   ·simp only[ae,if_true];rw[aA (by omega)]
   ·rw[hpl,Hm]
    have:(y==x)=false:=by rw[FN]at*;intro h;exact g (by simpa using Eq.symm (by simpa using h))
    rw[this,Gm]
  ·refine W.seq (W.g ?_ (by simp[go_sem,e0,e1,e5,hlt,h3,g];rfl))
   refine W.ct ?_ (by simp[go_sem,g])
   refine W.seq (W.g ?_)
   have:l.contains y=true:=by
    rw[hpl,Hm]
    have:x=y:=by simpa using g
    simp[this]
   rw[this]
   exact W.ret (Ends.still (by simp[go_sem]) rfl)
 ·have hjl:j=l.length:=by omega
  subst hjl
  refine W.seq (W.seq (W.g ?_ (by simp[go_sem,e0,e5];rfl)))
  refine W.cf (W.exit ?_)
  simp only[AX.then,AX.inBlock,if_true]
  refine W.seq (W.g ?_)
  rw[hpl,Fu]
  exact W.ret (Ends.still (by simp[go_sem]) rfl)
def cx(ms:List (Int×Int)):List (Value×Value):=ms.map fun p=>(O U p.1,O U p.2)
def cE(a:Int):List (Int×Int)->Nat->Option (Nat×Int)
 | [],_=>none
 | (b,c)::r,i=>if(a==b)=true then some (i,c)else cE a r (i+1)
def look(ms:List (Int×Int))(a:Int):Option Int:=(cE a ms 0).map (·.2)
theorem px(a b:Int):bZ Try.prog 10000 3 (O U a) (O U b)=some (a==b):=by kernel_rfl
theorem n8(a:Int): ∀(ms:List (Int×Int)) (i:Nat),bP Try.prog 3 (O U a) (cx ms) i=some ((cE a ms i).map fun p=>(p.1,O U p.2))
 | [],_=>rfl
 | (b,c)::ms,i=>by
   simp only[cx,Fv,bP,cE,px]
   rw[if_pos (show plain (O U b)=true from rfl)]
   cases h:a==b
   ·have:=n8 a ms (i+1)
    simp only[cx]at this
    simp only[EO,if_false]
    exact this
   ·simp
theorem lk104{H:AH}{n:Nat}{ms:List (Int×Int)}(h:at_ H n= .map (cx ms))(a:Int):
 cU Try.prog H 104 (.map (some n)) (O U a) true=some (.tuple #[O U ((look ms a).getD 0),.bool (look ms a).isSome]):=by
 have key:cU Try.prog H 104 (.map (some n)) (O U a) true=(match at_ H n with
  | .map es=>match bP Try.prog 3 (O U a) es 0 with
    |some (some (_,v))=>some (.tuple #[v,.bool true])
    |some none=>some (.tuple #[O U 0,.bool false])
    |none=>none
  |_=>none):=by kernel_rfl
 rw[key,h]
 simp only[n8]
 unfold look
 cases cE a ms 0 with
 |none=>rfl
 |some p=>rfl
theorem lD{H:AH}{n:Nat}{ms:List (Int×Int)}(h:at_ H n= .map (cx ms))(a:Int):
 cU Try.prog H 104 (.map (some n)) (O U a) false=some (O U ((look ms a).getD 0)):=by
 have key:cU Try.prog H 104 (.map (some n)) (O U a) false=(match at_ H n with
  | .map es=>match bP Try.prog 3 (O U a) es 0 with
    |some (some (_,v))=>some v
    |some none=>some (O U 0)
    |none=>none
  |_=>none):=by kernel_rfl
 rw[key,h]
 simp only[n8]
 unfold look
 cases cE a ms 0 with
 |none=>rfl
 |some p=>rfl
def kj(ms:List (Int×Int))(a c:Int):List (Int×Int):=match cE a ms 0 with|some (i,_)=>ms.set i (a,c)|none=>ms++[(a,c)]
theorem ph(a:Int): ∀(ms:List (Int×Int)) (i j:Nat) (c:Int),cE a ms i=some (j,c)->i<=j/\ms[j-i]? =some (a,c)
 | [],_,_,_,h=>by cases h
 | (b,d)::ms,i,j,c,h=>by
   simp only[cE]at h
   split at h
   ·rename_i e
    cases h
    have:a=b:=by simpa using e
    subst this
    simp
   ·obtain⟨h1,h2⟩:=ph a ms (i+1) j c h
    refine⟨by omega,?_⟩
    rw[show j-i=(j-(i+1))+1 by omega,List.getElem?_cons_succ];exact h2
theorem rT{H:AH}{n:Nat}{ms:List (Int×Int)}(h:at_ H n= .map (cx ms))(a c:Int):
 cR Try.prog H 104 (.map (some n)) (O U a) (O U c)=some (H.set n (.map (cx (kj ms a c)))):=by
 have key:cR Try.prog H 104 (.map (some n)) (O U a) (O U c)=(match at_ H n with
  | .map es=>match bP Try.prog 3 (O U a) es 0 with
    |some (some (i,_))=>if Instr.sameBits 10000 ((es[i]?.map (·.1)).getD (O U a)) (O U a)=true then some (H.set n (.map (es.set i (O U a,O U c))))else none
    |some none=>some (H.set n (.map (es++[(O U a,O U c)])))
    |none=>none
  |_=>none):=by kernel_rfl
 rw[key,h]
 simp only[n8]
 unfold kj
 cases hl:cE a ms 0 with
 |none=>simp[cx]
 |some p=>
  obtain⟨i,d⟩:=p
  obtain⟨_,h2⟩:=ph a ms 0 i d hl
  rw[Nat.sub_zero]at h2
  have h3:(cx ms)[i]? =some (O U a,O U d):=by simp only[cx,EM,h2,Option.map_some]
  have hsb:Instr.sameBits 10000 (O U a) (O U a)=true:=by
   have:Instr.sameBits 10000 (O U a) (O U a)=(IntKind.i64==IntKind.i64&&a==a):=by kernel_rfl
   rw[this];simp
  simp only[Option.map_some,h3,Option.getD_some,hsb,if_true]
  simp only[cx,Gz]
def follow(ms:List (Int×Int)):Nat->Int->Option Int
 | 0,_=>none
 |f+1,x=>match look ms x with|none=>some x|some y=>follow ms f y
def IsCl(H:AH)(d:Value)(ms:List (Int×Int)):Prop:= ∃n i mn,d= .pointer (some ⟨n,i,none⟩)/\aj H n i=some (.map (some mn))/\at_ H mn= .map (cx ms)
theorem jW(H:AH)(d:Value)(ms:List (Int×Int))(hd:IsCl H d ms)(f:Nat)(x r:Int)(hf:follow ms f x=some r):AC Try.prog 66 [d,O U x] H (.val (O U r) H):=by
 obtain⟨n,i,mn,rfl,h1,h2⟩:=hd
 refine AC.o 20 f66 fun σ w hr=> ?_
 refine W.seq (W.g ?_)
 refine W.block ?_
 refine W.loop (fun m E h=> ∃y,ae E 0= .pointer (some ⟨n,i,none⟩)/\ae E 1=O U y/\h=H/\follow ms m y=some r) f ⟨x,by simp[ae],by simp[ae],rfl,hf⟩ ?_
 rintro m E h ⟨y,e0,e1,rfl,hfo⟩
 cases m with
 |zero=>cases hfo
 |succ m=>
  simp only[follow]at hfo
  have hlk:=lk104 h2 y
  refine W.block ?_
  cases g:look ms y with
  |none=>
   rw[g]at hfo hlk
   simp only[Option.getD_none,Option.isSome_none]at hlk
   refine W.seq (W.g ?_ (by simp[go_sem,e0,e1,h1,hlk];rfl))
   refine W.seq (W.seq (W.g ?_))
   refine W.ct ?_
   refine W.seq (W.g ?_ (by simp[go_sem,e1];rfl))
   have:y=r:=by simpa using hfo
   subst this
   exact W.ret (Ends.still (by simp[go_sem]) rfl)
  |some z=>
   rw[g]at hfo hlk
   simp only[Option.getD_some,Option.isSome_some]at hlk
   refine W.seq (W.g ?_ (by simp[go_sem,e0,e1,h1,hlk];rfl))
   refine W.seq (W.seq (W.g ?_))
   refine W.cf (W.skip ?_)
   refine W.g ?_
   exact⟨m,GL m,z,by simp[ae,e0],by simp[ae],rfl,hfo⟩
def mj(ms:List (Int×Int))(ra rb:Int):List (Int×Int):=if ra=rb then ms else kj ms rb ra
theorem bC.ints(k:Nat)(ms:List (Int×Int)):bC k (.map (cx ms)):=by
 intro σ w x ho
 obtain⟨g0,ents,g1,g2,g3⟩:=ho
 refine⟨g0,ents,g1,g2,fun i a v e p q=> ?_⟩
 obtain⟨q1,q2,q3⟩:=g3 i a v e p q
 refine⟨q1,?_,q3⟩
 simp only[cx,EM,EB]at p
 obtain⟨y,_,hy⟩:=p
 have hv:v=O U y.2:=(congrArg Prod.snd hy).symm
 rw[hv]at q2⊢
 generalize e.val=u at q2⊢
 cases q2
 exact .int _ _
theorem yU(H:AH){n:Nat}{o:AO}(h:at_ H n=o)(ho:o≠ .dead):H.set n o=H:=by
 apply FM
 intro j
 rw[Ff]
 split
 ·rename_i e
  subst e
  unfold at_ at h
  cases hx:H[n]? with
  |none=>rw[hx]at h;exact absurd h.symm ho
  |some x=>
   rw[hx]at h
   have hlt:=(Ey.1 hx).1
   rw[if_pos hlt,<-h];rfl
 ·rfl
theorem join_ok(H:AH)(n i mn:Nat)(ms:List (Int×Int))(h1:aj H n i=some (.map (some mn)))(h2:at_ H mn= .map (cx ms))(f f':Nat)(a b ra rb:Int)(ha:follow ms f a=some ra)(hb:follow ms f' b=some rb):
 AC Try.prog 54 [.pointer (some ⟨n,i,none⟩),O U a,O U b] H (.val (.tuple #[]) (H.set mn (.map (cx (mj ms ra rb))))):=by
 have hd:IsCl H (.pointer (some ⟨n,i,none⟩)) ms:=⟨n,i,mn,rfl,h1,h2⟩
 refine AC.o 21 f54 fun σ w hr=> ?_
 refine W.seq (W.region (Wl.s ?_))
 refine Wl.o (Sc b66 (jW _ _ ms hd f a ra ha)) ?_
 refine Wl.s ?_
 refine Wl.o (Sc b66 (jW _ _ ms hd f' b rb hb)) ?_
 refine Wl.s (Wl.nil ?_)
 refine W.seq (W.g ?_)
 have hmu:=rT h2 rb ra
 have hends: ∀(E:Env) (o:AO),(∀k,bC k o)->Ev.Ends Try.prog Try.f54 H (.val (.tuple #[]) (H.set mn o)) .normal E (H.set mn o):=by
  intro E o ho
  refine⟨.tuple #[],H.set mn o,[],rfl,rfl,by simp,by simp,Bel.junk _,fun j hj=> ?_⟩
  by_cases e:mn=j
  ·subst e
   rw[EA]at hj
   rw[au hj]
   exact .inr (ho _)
  ·rw[EA]at hj
   exact .inl ⟨hj,af e _⟩
 by_cases hab:ra=rb
 ·subst hab
  have hj:mj ms ra ra=ms:=by simp[mj]
  rw[hj]
  refine W.cf (W.skip ?_)
  have:=hends [] (.map (cx ms)) (fun k=>bC.ints k ms)
  rw[yU H h2 (by simp)]at this⊢
  obtain⟨v,Hr,G,q1,q2⟩:=this
  exact⟨v,Hr,G,q1,q2⟩
 ·have hj:mj ms ra rb=kj ms rb ra:=by simp[mj,hab]
  rw[hj]
  refine W.ct ?_ (by simp[go_sem,hab])
  refine W.g ?_ (by simp[go_sem,h1,hmu];rfl)
  exact hends _ _ (fun k=>bC.ints k _)
theorem oJ(a b c:Int): ∀(ms:List (Int×Int)) (i:Nat),cE a (ms++[(b,c)]) i=match cE a ms i with|some p=>some p|none=>if(a==b)=true then some (i+ms.length,c)else none
 | [],i=>by simp[cE]
 | (d,e)::ms,i=>by
   simp only[List.cons_append,cE,oJ a b c ms (i+1),List.length_cons]
   split
   ·rfl
   ·rw[show i+1+ms.length=i+(ms.length+1)by omega]
theorem pR{ms:List (Int×Int)}{b c:Int}(hb:look ms b=none)(a:Int):look (kj ms b c) a=if a=b then some c else look ms a:=by
 have hl:cE b ms 0=none:=by
  unfold look at hb
  cases h:cE b ms 0 with
  |none=>rfl
  |some p=>rw[h]at hb;cases hb
 unfold kj
 simp only[hl]
 unfold look
 rw[oJ]
 by_cases e:a=b
 ·subst e
  simp[hl]
 ·have e':(a==b)=false:=by simpa using e
  simp only[e',e,if_false,EO]
  cases cE a ms 0<;>rfl
def tN(ms:List (Int×Int)):Prop:= ∀x,∃f r,follow ms f x=some r
theorem iu{ms:List (Int×Int)}: ∀(f:Nat) (x r:Int),follow ms f x=some r->look ms r=none
 | 0,_,_,h=>by cases h
 |f+1,x,r,h=>by
  simp only[follow]at h
  cases g:look ms x with
  |none=>rw[g]at h;simp at h;subst h;exact g
  |some y=>rw[g]at h;exact iu f y r h
theorem nj{ms:List (Int×Int)}: ∀(f k:Nat) (x r:Int),follow ms f x=some r->follow ms (f+k) x=some r
 | 0,_,_,_,h=>by cases h
 |f+1,k,x,r,h=>by
  rw[show f+1+k=(f+k)+1 by omega]
  simp only[follow]at h⊢
  cases g:look ms x with
  |none=>rw[g]at h;exact h
  |some y=>rw[g]at h;exact nj f k y r h
theorem yG{ms:List (Int×Int)}{f f':Nat}{x r r':Int}(h:follow ms f x=some r)(h':follow ms f' x=some r'):r=r':=by
 have h1:=nj f f' x r h
 have h2:=nj f' f x r' h'
 rw[Gw]at h2
 rw[h1]at h2;exact Fj h2
theorem pr{ms:List (Int×Int)}{ra rb:Int}(ha:look ms ra=none)(hb:look ms rb=none)(hab:ra≠rb): ∀(f:Nat) (x r:Int),follow ms f x=some r->follow (kj ms rb ra) (f+1) x=some (if r=rb then ra else r)
 | 0,_,_,h=>by cases h
 |f+1,x,r,h=>by
  simp only[follow]at h
  rw[follow]
  rw[pR hb]
  by_cases e:x=rb
  ·subst e
   rw[hb]at h
   simp only at h
   cases h
   rw[if_pos rfl,if_pos rfl]
   simp only[follow]
   rw[pR hb,if_neg hab,ha]
  ·rw[if_neg e]
   cases g:look ms x with
   |none=>
    rw[g]at h
    simp only at h
    cases h
    rw[if_neg e]
   |some y=>
    rw[g]at h
    exact pr ha hb hab f y r h
theorem vV{ms:List (Int×Int)}(hm:tN ms){f f':Nat}{a b ra rb:Int}(ha:follow ms f a=some ra)(hb:follow ms f' b=some rb):tN (mj ms ra rb):=by
 intro x
 obtain⟨k,r,hx⟩:=hm x
 unfold mj
 split
 ·exact⟨k,r,hx⟩
 ·rename_i hab
  exact⟨k+1,_,pr (iu _ _ _ ha) (iu _ _ _ hb) hab k x r hx⟩
theorem yO:tN []:=fun x=>⟨1,x,rfl⟩
theorem jz{n:Nat}(h:n<2305843009213693952):IntKind.i64.wrap (2*(n:Int))=((2*n:Nat):Int):=by rw[EP];omega
open Classical in
noncomputable def fj(ms:List (Int×Int))(x:Int):Int:=if h: ∃r f,follow ms f x=some r then Classical.choose h else x
theorem ef{ms:List (Int×Int)}(hm:tN ms)(x:Int): ∃f,follow ms f x=some (fj ms x):=by
 obtain⟨f,r,h⟩:=hm x
 have hx: ∃r f,follow ms f x=some r:=⟨r,f,h⟩
 unfold fj
 rw[dif_pos hx]
 exact Fm hx
noncomputable def bz(l:List Cr):Nat->List (Int×Int)
 | 0=>[]
 |k+1=>mj (bz l k) (fj (bz l k) (bi k false 0 l).1) (fj (bz l k) (bi k true 0 l).1)
theorem dd(l:List Cr): ∀k,tN (bz l k)
 | 0=>yO
 |k+1=>by
  obtain⟨f,h⟩:=ef (dd l k) (bi k false 0 l).1
  obtain⟨f',h'⟩:=ef (dd l k) (bi k true 0 l).1
  exact vV (dd l k) h h'
theorem vJ(H:AH)(d:Value)(l:List Cr)(loops:Int)(hd:ig H d l loops)(hl:l.length<2305843009213693952):
 AC Try.prog 65 [d] H (.val (.pointer (some ⟨H.length+1,0,none⟩)) (H++[.map (cx (bz l (2*l.length))),.cells [.map (some H.length)] 136])):=by
 have hd0:=hd
 obtain⟨n,i,s,rfl,h2,hs⟩:=hd
 obtain⟨r0,r1⟩:=ig.two h2
 obtain⟨b,k,rfl⟩:=hs.len
 refine AC.o 30 f65 fun σ w hr=> ?_
 refine W.seq (W.g ?_)
 refine W.seq (W.g ?_ (by simp[go_sem,cK];rfl))
 refine W.seq ?_
 refine W.seq (W.g ?_ (by simp[go_sem,aw r0,jz hl];rfl))
 refine W.block ?_
 refine W.loop (fun m E h=> ∃j,m=2*l.length-j/\j<=2*l.length/\ae E 0= .pointer (some ⟨n,i,none⟩)/\ae E 3= .pointer (some ⟨H.length+1,0,none⟩)/\ae E 14=O U (2*l.length)/\ae E 15=O U j/\h=H++[.map (cx (bz l j)),.cells [.map (some H.length)] 136]) (2*l.length) ⟨0,by omega,by omega,by simp[ae],by simp[ae],by simp[ae],by simp[ae],rfl⟩ ?_
 rintro m E h ⟨j,rfl,hj,e0,e3,e14,e15,rfl⟩
 by_cases hlt:j<2*l.length
 ·have hlt':(j:Int)<2*(l.length:Int):=by omega
  refine W.seq (W.g ?_ (by simp[go_sem,e14,e15,hlt'];rfl))
  refine W.seq (W.ct (W.skip ?_))
  refine W.seq (W.block ?_)
  refine W.seq (W.g ?_ (by simp[go_sem,e15];rfl))
  refine W.region (Wl.s ?_ (by simp[go_sem,e0,e3];rfl))
  refine Wl.o (Sc b68 (dk _ _ l loops hd0.app (j:Int) false (by omega))) ?_
  refine Wl.s ?_ (by simp[go_sem,gZ,e0];rfl)
  refine Wl.o (Sc b68 (dk _ _ l loops hd0.app (j:Int) true (by omega))) ?_
  refine Wl.s ?_ (by simp[go_sem,gZ];rfl)
  obtain⟨f,hf⟩:=ef (dd l j) (bi j false 0 l).1
  obtain⟨f',hf'⟩:=ef (dd l j) (bi j true 0 l).1
  have hread:aj (H++[AO.map (cx (bz l j)),AO.cells [Value.map (some H.length)] 136]) (H.length+1) 0=some (.map (some H.length)):=by rw[bU];rfl
  refine Wl.o (Sc b54 (join_ok _ _ 0 _ _ hread (bF _ _ _) f f' _ _ _ _ hf hf')) ?_
  rw[g9]
  refine Wl.nil ?_
  refine W.g ?_ (by simp[go_sem,e15];rfl)
  refine⟨2*l.length-(j+1),by omega,j+1,rfl,by omega,by simp[ae,aB,e0],by simp[ae,aB,e3],by simp[ae,aB,e14],?_,rfl⟩
  simp only[ae,if_true];rw[aA (by omega)]
 ·have hjl:j=2*l.length:=by omega
  subst hjl
  refine W.seq (W.g ?_ (by simp[go_sem,e14,e15];rfl))
  refine W.seq (W.cf (W.exit ?_))
  simp only[AX.then,AX.inBlock,if_true]
  refine W.seq (W.g ?_ (by simp[go_sem,e3];rfl))
  refine W.ret ⟨_,_,[],by simp[go_sem]<;>rfl,rfl,by simp,by simp,?_,qn _ _ _ fun q hq=> ?_⟩
  ·intro τ u hu
   cases hu with
   |ptr hn=>exact .ptr (bG.2 ⟨by simp,hn⟩)
  ·match q,hq with
   | 0,_=>exact bC.ints _ _
   | 1,_=>
     intro τ w' x ho
     obtain⟨g0,cs,g1,g2,g3,g4⟩:=ho
     refine⟨g0,cs,g1,g2,g3,fun q v v' a b=> ?_⟩
     have:=g4 q v v' a b
     match q,a with
     | 0,a=>
       simp at a;subst a
       generalize v'=u at this
       cases this with
       |map hn=>exact .map (bG.2 ⟨by simp,hn⟩)
   |q+2,hq=>exact absurd hq (by simp)
theorem mH{α:Type}[DecidableEq α]: ∀(l m:List α),l.Nodup->(∀x∈l,x∈m)->l.length<=m.length
 | [],_,_,_=>FT _
 |x::l,m,hn,hs=>by
  have hx:x∈m:=hs x (by simp)
  obtain⟨h1,h2⟩:=Gj.1 hn
  have:=mH l (m.erase x) h2 fun y hy=>(GP (fun e=>h1 (by rw[<-e];exact hy))).2 (hs y (by simp[hy]))
  rw[GX hx]at this
  have hp:0<m.length:=List.length_pos_of_mem hx
  simp only[List.length_cons];omega
theorem jh{α β:Type}{f:α->β}: ∀{l:List α},l.Nodup->(∀x∈l,∀y∈l,f x=f y->x=y)->(l.map f).Nodup
 | [],_,_=>by simp
 |x::l,hn,hf=>by
  obtain⟨h1,h2⟩:=Gj.1 hn
  rw[Fv,Gj]
  refine⟨fun h=> ?_,jh h2 fun a ha b hb=>hf a (by simp[ha]) b (by simp[hb])⟩
  obtain⟨y,hy,e⟩:=E9.1 h
  have:=hf y (by simp[hy]) x (by simp) e
  subst this;exact h1 hy
theorem xK{α β:Type}[DecidableEq β]{f:α->β}{l:List α}{m:List β}(hn:l.Nodup)(hf: ∀x∈l,∀y∈l,f x=f y->x=y)(hm: ∀x∈l,f x∈m):l.length<=m.length:=by
 have:=mH (l.map f) m (jh hn hf) fun y hy=>by obtain⟨x,hx,e⟩:=E9.1 hy;exact e▸hm x hx
 rwa [Fl]at this
theorem rh{α:Type}[DecidableEq α]{l m:List α}(hn:l.Nodup)(hs: ∀x∈l,x∈m)(hl:m.length<=l.length): ∀x∈m,x∈l:=by
 intro x hx
 refine Fs fun h=> ?_
 have:=mH (x::l) m (Gj.2 ⟨h,hn⟩) fun y hy=>by
  rcases EG.1 hy with e|e
  ·exact e▸hx
  ·exact hs y e
 rw[List.length_cons]at this;omega
def it{α:Type}(f:α->α):Nat->α->α
 | 0,x=>x
 |k+1,x=>f (it f k x)
theorem mF{α:Type}(f:α->α): ∀(j k:Nat) (x:α),it f (j+k) x=it f j (it f k x)
 | 0,k,x=>by rw[EU];rfl
 |j+1,k,x=>by rw[show j+1+k=(j+k)+1 by omega];simp only[it,mF f j k x]
theorem jt{α:Type}{f:α->α}{S:α->Prop}(hm: ∀x,S x->S (f x)){x:α}(hx:S x): ∀k,S (it f k x)
 | 0=>hx
 |k+1=>hm _ (jt hm hx k)
theorem qY{α:Type}{f:α->α}{S:α->Prop}(hm: ∀x,S x->S (f x))(hi: ∀x y,S x->S y->f x=f y->x=y){x y:α}(hx:S x)(hy:S y):
 ∀k,it f k x=it f k y->x=y
 | 0,h=>h
 |k+1,h=>qY hm hi hx hy k (hi _ _ (jt hm hx k) (jt hm hy k) h)
theorem BX{α:Type}[DecidableEq α]{f:α->α}{S:α->Prop}{L:List α}(hL: ∀x,S x->x∈L)(hm: ∀x,S x->S (f x))(hi: ∀x y,S x->S y->f x=f y->x=y){x:α}(hx:S x):
 ∃k,1<=k/\k<=L.length/\it f k x=x:=by
 refine Fs fun h=> ?_
 have hno: ∀k,1<=k->k<=L.length->it f k x≠x:=fun k h1 h2 e=>h ⟨k,h1,h2,e⟩
 have hlt: ∀i j,i<j->j<=L.length->it f i x≠it f j x:=fun i j hij hj e=>by
  rw[show j=i+(j-i)by omega,mF]at e
  exact hno (j-i) (by omega) (by omega) (qY hm hi hx (jt hm hx _) i e).symm
 have:=xK (l:=List.range (L.length+1)) (m:=L) (f:=fun k=>it f k x) Gg (fun i hi j hj e=>by
  simp only[ET]at hi hj
  rcases Ge i j with h|h|h
  ·exact absurd e (hlt i j h (by omega))
  ·exact h
  ·exact absurd e.symm (hlt j i h (by omega))) (fun k _=>hL _ (jt hm hx k))
 rw[Gp]at this;omega
theorem least{p:Nat->Prop}: ∀n,p n-> ∃k,k<=n/\p k/\ ∀j,j<k-> ¬p j:=by
 intro n
 induction n using Nat.strongRecOn with
 |_ n ih=>
  intro h
  by_cases he: ∃j,j<n/\p j
  ·obtain⟨j,h1,h2⟩:=he
   obtain⟨k,a,b,c⟩:=ih j h1 h2
   exact⟨k,by omega,b,c⟩
  ·exact⟨n,EJ n,h,fun j hj hp=>he ⟨j,hj,hp⟩⟩
def oL{α:Type}(f:α->α)(x:α)(k:Nat):Prop:=1<=k/\it f k x=x/\ ∀j,1<=j->j<k->it f j x≠x
theorem per_ex{α:Type}[DecidableEq α]{f:α->α}{S:α->Prop}{L:List α}(hL: ∀x,S x->x∈L)(hm: ∀x,S x->S (f x))(hi: ∀x y,S x->S y->f x=f y->x=y){x:α}(hx:S x):
 ∃k,k<=L.length/\oL f x k:=by
 obtain⟨k,h1,h2,h3⟩:=BX hL hm hi hx
 obtain⟨k',a,b,c⟩:=least (p:=fun k=>1<=k/\it f k x=x) k ⟨h1,h3⟩
 exact⟨k',by omega,b.1,b.2,fun j h1 hj e=>c j hj ⟨h1,e⟩⟩
theorem oL.same{α:Type}{f:α->α}{x:α}{k k':Nat}(h:oL f x k)(h':oL f x k'):k=k':=by
 rcases Ge k k' with e|e|e
 ·exact absurd h.2.1 (h'.2.2 k h.1 e)
 ·exact e
 ·exact absurd h'.2.1 (h.2.2 k' h'.1 e)
def kT(l:List Cr)(a:Int)(e:Bool)(p:Nat×Nat):Prop:= ∃x,l[p.1]? =some x/\p.2<4/\x.arc p.2=a/\cS x.s p.2=e
structure ax(l:List Cr):Prop where
 sign: ∀x∈l,x.s=1\/x.s= -1
 range: ∀x∈l,∀q,q<4->0<=x.arc q/\x.arc q<2*l.length
 ex: ∀(a:Int) e,0<=a->a<2*l.length-> ∃p,kT l a e p
 uniq: ∀a e p p',kT l a e p->kT l a e p'->p=p'
def bt(l:List Cr)(p:Nat×Nat):Prop:=p.1<l.length/\p.2<4
theorem kT.pl{l:List Cr}{a:Int}{e:Bool}{p:Nat×Nat}(h:kT l a e p):bt l p:=by
 obtain⟨x,h1,h2,_⟩:=h
 exact⟨(Ey.1 h1).1,h2⟩
theorem uO{p:Nat->Bool}: ∀(n k:Nat),((List.range' k n).find? p=none/\ ∀q,k<=q->q<k+n->p q=false)\/ ∃q,(List.range' k n).find? p=some q/\k<=q/\q<k+n/\p q=true
 | 0,k=> .inl ⟨rfl,fun q h1 h2=>by omega⟩
 |n+1,k=>by
  rw[GM,List.find?_cons]
  cases h:p k with
  |true=>exact .inr ⟨k,rfl,EJ _,by omega,h⟩
  |false=>
   rcases uO (p:=p) n (k+1)with ⟨h1,h2⟩|⟨q,h1,h2,h3,h4⟩
   ·refine .inl ⟨h1,fun q q1 q2=> ?_⟩
    by_cases e:q=k
    ·subst e;exact h
    ·exact h2 q (by omega) (by omega)
   ·exact .inr ⟨q,h1,by omega,by omega,h4⟩
theorem B1{x:Cr}{a:Int}{e:Bool}{q:Nat}:hit x a e q=true↔x.arc q=a/\cS x.s q=e:=by
 unfold hit;simp
theorem fC(a:Int)(e:Bool): ∀(l:List Cr) (j:Nat),(bi a e j l=(-1,0)/\ ∀p,¬kT l a e p)\/ ∃p,bi a e j l=(((j+p.1:Nat):Int),(p.2:Int))/\kT l a e p
 | [],j=> .inl ⟨rfl,fun p ⟨x,h,_⟩=>by simp at h⟩
 |x::l,j=>by
  rw[bi]
  rcases uO (p:=hit x a e) 4 0 with ⟨h1,h2⟩|⟨q,h1,_,h3,h4⟩
  ·rw[h1]
   simp only
   rcases fC a e l (j+1)with ⟨g1,g2⟩|⟨p,g1,y,g2,g3⟩
   ·refine .inl ⟨g1,fun p hp=> ?_⟩
    obtain⟨y,k1,k2,k3⟩:=hp
    obtain⟨c,q⟩:=p
    cases c with
    |zero=>
     simp at k1;subst k1
     have:=h2 q (FT _) (by simpa using k2)
     rw[B1.2 k3]at this;cases this
    |succ c=>exact g2 (c,q) ⟨y,by simpa using k1,k2,k3⟩
   ·refine .inr ⟨(p.1+1,p.2),?_,y,by simpa using g2,g3⟩
    rw[g1];congr 1;simp only;omega
  ·rw[h1]
   exact .inr ⟨(0,q),rfl,x,rfl,by simpa using h3,B1.1 h4⟩
theorem ax.place{l:List Cr}(hs:ax l){a:Int}{e:Bool}{p:Nat×Nat}(h:kT l a e p):bi a e 0 l=((p.1:Int),(p.2:Int)):=by
 rcases fC a e l 0 with ⟨_,h2⟩|⟨p',h1,h2⟩
 ·exact absurd h (h2 p)
 ·rw[h1,hs.uniq _ _ _ _ h h2,EU]
def oth(l:List Cr)(p:Nat×Nat):Nat×Nat:=match l[p.1]? with
 |some x=>((jX l x p.2).1.toNat,(jX l x p.2).2.toNat)
 |none=>p
theorem ax.mem{l:List Cr}{p:Nat×Nat}(hp:bt l p): ∃x,l[p.1]? =some x/\x∈l:=⟨l[p.1]'hp.1,Ex hp.1,FE hp.1⟩
theorem ax.oh{l:List Cr}(hs:ax l){p:Nat×Nat}{x:Cr}(hx:l[p.1]? =some x)(hq:p.2<4):
 kT l (x.arc p.2) (!cS x.s p.2) (oth l p)/\jX l x p.2=(((oth l p).1:Int),((oth l p).2:Int)):=by
 have hm:x∈l:=EE hx
 obtain⟨h1,h2⟩:=hs.range x hm p.2 hq
 obtain⟨p',hp'⟩:=hs.ex (x.arc p.2) (!cS x.s p.2) h1 h2
 have:=hs.place hp'
 have e:oth l p=p':=by
  unfold oth jX
  rw[hx];simp only[this,Int.toNat_natCast]
 rw[e]
 exact⟨hp',by rw[jX,this]⟩
theorem ax.oth_oth{l:List Cr}(hs:ax l){p:Nat×Nat}(hp:bt l p):oth l (oth l p)=p:=by
 obtain⟨x,hx,_⟩:=ax.mem hp
 obtain⟨⟨y,g1,g2,g3,g4⟩,_⟩:=hs.oh hx hp.2
 obtain⟨k,_⟩:=hs.oh g1 g2
 rw[g3,g4,GJ]at k
 exact hs.uniq _ _ _ _ k ⟨x,hx,hp.2,rfl,rfl⟩
theorem ax.oth_pl{l:List Cr}(hs:ax l){p:Nat×Nat}(hp:bt l p):bt l (oth l p):=by
 obtain⟨x,hx,_⟩:=ax.mem hp
 exact(hs.oh hx hp.2).1.pl
def nx(l:List Cr)(p:Nat×Nat):Nat×Nat:=((oth l p).1,((oth l p).2+3)%4)
theorem ax.nx_pl{l:List Cr}(hs:ax l)(p:Nat×Nat)(hp:bt l p):bt l (nx l p):=⟨(hs.oth_pl hp).1,F7 _ (by omega)⟩
theorem ax.nx_inj{l:List Cr}(hs:ax l)(p q:Nat×Nat)(hp:bt l p)(hq:bt l q)(h:nx l p=nx l q):p=q:=by
 have h1:=hs.oth_pl hp
 have h2:=hs.oth_pl hq
 have e1:=congrArg Prod.fst h
 have e2:=congrArg Prod.snd h
 simp only[nx]at e1 e2
 have:oth l p=oth l q:=Gh e1 (by have:=h1.2;have:=h2.2;omega)
 rw[<-hs.oth_oth hp,<-hs.oth_oth hq,this]
def fL(l:List Cr):List (Nat×Nat):=(List.range l.length).flatMap fun c=>(List.range 4).map fun p=>(c,p)
theorem cW{l:List Cr}{p:Nat×Nat}:p∈fL l↔bt l p:=by
 simp only[fL,Fi,ET,E9,bt]
 constructor
 ·rintro⟨c,h1,q,h2,rfl⟩;exact⟨h1,h2⟩
 ·rintro⟨h1,h2⟩;exact⟨p.1,h1,p.2,h2,rfl⟩
theorem rA(l:List Cr):(fL l).length=4*l.length:=by
 unfold fL
 generalize l.length=n
 induction n with
 |zero=>rfl
 |succ n ih=>rw[Fq (n:=n),FV,Ez,ih];simp;omega
theorem ax.per{l:List Cr}(hs:ax l){p:Nat×Nat}(hp:bt l p): ∃k,k<=4*l.length/\oL (nx l) p k:=by
 have:=per_ex (S:=bt l) (L:=fL l) (fun x hx=>cW.2 hx) hs.nx_pl hs.nx_inj hp
 rwa [rA]at this
def fh(l:List Cr)(p:Nat×Nat)(k:Nat):List (Nat×Nat):=(List.range k).map fun j=>it (nx l) j p
end Go.Proofs.Ytjcomcgpjjianaa
