import Derived.Test.YtjcomcgpjjianaaA9
import Derived.Test.YtjcomcgpjjianaaA19
import Derived.Test.YtjcomcgpjjianaaA20
import Derived.Test.YtjcomcgpjjianaaA32
set_option linter.all false
set_option maxHeartbeats 16000000
set_option maxRecDepth 8000
open Go.Value renaming int→O
open Go.IntKind renaming i64→U
namespace Go.Proofs.Ytjcomcgpjjianaa
open Go.Ev
theorem uQ: ∀(l:List Int) (bs:List Bool) (seen:List Int),(∀x:Int,0<=x->x<bs.length->(bs.getD x.toNat false=true↔x∈seen))->seen.Nodup->(eg bs l=true↔(∀x∈l,0<=x/\x<bs.length)/\(seen++l).Nodup)
 | [],bs,seen,_,hn=>by simp[eg,hn]
 |x::r,bs,seen,h,hn=>by
  rw[eg]
  by_cases h1:x<0
  ·rw[if_pos h1]
   constructor
   ·intro hh;cases hh
   ·rintro⟨a,_⟩;have:=a x (by simp);omega
  rw[if_neg h1]
  by_cases h2:(bs.length:Int)<=x
  ·rw[if_pos h2]
   constructor
   ·intro hh;cases hh
   ·rintro⟨a,_⟩;have:=a x (by simp);omega
  rw[if_neg h2]
  have hx:=h x (by omega) (by omega)
  by_cases h3:bs.getD x.toNat false=true
  ·rw[if_pos h3]
   constructor
   ·intro hh;cases hh
   ·rintro⟨_,b⟩
    rw[Gf]at b
    exact absurd rfl (b.2.2 x (hx.1 h3) x (by simp))
  rw[if_neg h3]
  have hns:x∉seen:=fun hh=>h3 (hx.2 hh)
  have hn2:(seen++[x]).Nodup:=by
   rw[Gf]
   refine⟨hn,by simp,?_⟩
   intro a ha b hb e
   have:b=x:=by simpa using hb
   subst this;subst e;exact hns ha
  have ih:=uQ r (bs.set x.toNat true) (seen++[x]) (fun y hy0 hy1=>by
   rw[EA]at hy1
   rw[EF,Ff]
   have hlt:x.toNat<bs.length:=by omega
   by_cases e:x.toNat=y.toNat
   ·have:y=x:=by omega
    subst this
    rw[if_pos rfl,if_pos hlt];simp
   ·rw[if_neg e,<-EF,h y hy0 hy1]
    have:y≠x:=fun hh=>e (by rw[hh])
    simp[this]) hn2
  rw[ih,EA,EH]
  simp only[List.singleton_append,EG,forall_eq_or_imp]
  constructor
  ·rintro⟨a,b⟩;exact⟨⟨by omega,a⟩,b⟩
  ·rintro⟨⟨_,a⟩,b⟩;exact⟨a,b⟩
theorem er(l:List Int):cM l=true↔(∀x∈l,0<=x/\x<l.length)/\l.Nodup:=by
 unfold cM
 rw[uQ l _ [] (fun x h0 h1=>by
  rw[EF,FD]
  split<;>simp) GH]
 simp
theorem Cr.eq_iff(x y:Cr):x.eq y=true↔x=y:=by
 obtain⟨a,b,c,d,e⟩:=x
 obtain⟨a',b',c',d',e'⟩:=y
 simp only[Cr.eq,EC,beq_iff_eq,Cr.mk.injEq]
 constructor
 ·rintro⟨⟨⟨⟨h1,h2⟩,h3⟩,h4⟩,h5⟩;exact⟨h1,h2,h3,h4,h5⟩
 ·rintro⟨h1,h2,h3,h4,h5⟩;exact⟨⟨⟨⟨h1,h2⟩,h3⟩,h4⟩,h5⟩
theorem qi: ∀l m:List Cr,kX l m=true↔l=m
 | [],[]=>by simp[kX]
 | [],y::m=>by simp[kX]
 |x::l,[]=>by simp[kX]
 |x::l,y::m=>by
  rw[kX,EC,qi l m,Cr.eq_iff,Gc]
theorem lE(e:Int):Rigid (bf e):=by
 intro σ v h
 unfold bf at h
 cases h with
 |iface t h=>
  cases h with
  |agg hc hc'=>
   rename_i c'
   have hs:c'.size=1:=by simpa using hc.symm
   have h0:VR σ (O U e) (c'[0]'(by omega)):=hc' 0 (O U e) (c'[0]'(by omega)) rfl (EQ (by omega))
   have h1: ∀y,VR σ (O U e) y->y=O U e:=by intro y hy;cases hy;rfl
   have:c'= #[O U e]:=by
    apply Array.ext
    ·simpa using hs
    ·intro i hi hi'
     have:i=0:=by omega
     subst this
     simpa using h1 _ h0
   rw[this];rfl
theorem Df{o:Oper}(ho:o.op= .binOp .eql 20 (.tmp 5) (.const .nilIface) 20){ρ:Operand->Value}(h5:ρ (.tmp 5)= .nilIface)(hc:ρ (.const .nilIface)= .nilIface)(w:World):
 (execOp ρ o).run Try.prog w= .ok (.value (.bool true)) w:=by
 rw[execOp,ho]
 simp only[h5,hc]
 kernel_rfl
theorem zT{o:Oper}(ho:o.op= .binOp .eql 20 (.tmp 5) (.const .nilIface) 20){e:Int}{ρ:Operand->Value}(h5:ρ (.tmp 5)=bf e)(hc:ρ (.const .nilIface)= .nilIface)(w:World):
 (execOp ρ o).run Try.prog w= .ok (.value (.bool false)) w:=by
 rw[execOp,ho]
 simp only[h5,hc]
 kernel_rfl
theorem AM{o:Oper}(ho:o.op= .typeAssert (.tmp 5) 20 92 true){e:Int}{ρ:Operand->Value}(h5:ρ (.tmp 5)=bf e)(w:World):
 (execOp ρ o).run Try.prog w= .ok (.value (.tuple #[.agg #[O U e],.bool true])) w:=by
 rw[execOp,ho]
 simp only[h5]
 kernel_rfl
def actC(p:Value):Act:={tmps:= #[p]++Array.replicate 14 undef,defers:=[]}
theorem BE{σ:Ren}{v v':Value}(h:VR σ v v'):AR σ 15 (dD 0 [v]) (actC v'):=kS (args:=[v]) (args':=[v']) (Rs.cons h (Rs.nil σ)) (by simp)
theorem mA(n:Nat)(H:AH):DefC Try.prog 15 n H .returning H:=by
 intro σ w b o s hσ hr
 refine callsD_of_wpS (fn:=Try.f15) f15 rfl fun c₀ cs hc=> ?_
 show Code.wpS _ _ _ (actC _) _ _
 refine wpS_seq (wpS_region ?_)
 have hrec:recoverD (c₀::cs)=none:=by simp[recoverD,hc]
 show wpOpsS _ _ _ [0] _ _ _
 rw[wpOpsS]
 simp only[EX,List.getElem?_cons_zero]
 rw[if_pos (by rfl)]
 have hrun: ∀ρ o,o.op= .call {callee:= .builtin .recover,args:= #[],argTypes:= #[]}->(execOp ρ o).run Try.prog w= .ok .recover w:=by
  intro ρ o ho
  rw[execOp,ho]
  kernel_rfl
 rw[hrun _ _ rfl]
 simp only[hrec]
 rw[wpOpsS]
 show Code.wpS _ _ _ _ _ _
 have ha:=(BE (σ:=σ) (VR.ptr (n:=n) (i:=0) hσ)).put (some 5) VR.nilIface
 refine wpS_of_wp (wp_mono ((?_:W ⟨Try.prog,15,[],σ,H,w⟩ _ (fun x E h=>x= .normal/\h=H) (aB 15 (dD 0 [.pointer (some ⟨n,0,none⟩)]) (some 5) .nilIface) H) σ _ w ⟨hr,ha,rfl,Ext.refl _ _ _⟩) ?_)
 ·refine W.block ?_
  refine W.seq (W.region (Wl.raw (v:= .bool true) (by simp[go_sem]) (fun σ act w hi=> ?_) (Wl.nil ?_)))
  ·have h5:=hi.ar.get 5
   rw[show ae (aB 15 (dD 0 [.pointer (some ⟨n,0,none⟩)]) (some 5) .nilIface) 5= .nilIface by simp[ae,aB,dD]]at h5
   generalize h5':act.tmps.getD 5 undef=y at h5
   cases h5
   exact⟨_,Df rfl h5' rfl w,.bool true⟩
  refine W.ct ?_
  refine W.g ?_
  exact⟨rfl,rfl⟩
 ·rintro e act' w' ⟨x,E,h,σ',⟨rfl,rfl⟩,hx,hi⟩
  cases e<;>first|exact hx.elim|skip
  refine⟨hi.df,.returning,by rw[<-hc],.tuple #[],by kernel_rfl,⟨_,rfl⟩,rfl,σ',hi.hr,hi.ex⟩
theorem m7(n:Nat)(H:AH)(x k:Int)(hx:at_ H n= .cells [O U x] 36)(hn:n<H.length):
 DefC Try.prog 15 n H (.panicking [{v:=bf k,recovered:=false}]) (H.set n (.cells [O U k] 36)++[.cells [O U k] 92]):=by
 intro σ w b o s hσ hr
 refine callsD_of_wpS (fn:=Try.f15) f15 rfl fun c₀ cs hc=> ?_
 show Code.wpS _ _ _ (actC _) _ _
 refine wpS_seq (wpS_region ?_)
 have hrec:recoverD (c₀::cs)=some (bf k,{c₀ with mode:= .panicking [{v:=bf k,recovered:=true}]}::cs):=by simp[recoverD,hc]
 show wpOpsS _ _ _ [0] _ _ _
 rw[wpOpsS]
 simp only[EX,List.getElem?_cons_zero]
 rw[if_pos (by rfl)]
 have hrun: ∀ρ o,o.op= .call {callee:= .builtin .recover,args:= #[],argTypes:= #[]}->(execOp ρ o).run Try.prog w= .ok .recover w:=by
  intro ρ o ho
  rw[execOp,ho]
  kernel_rfl
 rw[hrun _ _ rfl]
 simp only[hrec]
 rw[wpOpsS]
 show Code.wpS _ _ _ _ _ _
 have hfv:VR σ (bf k) (bf k):= .iface _ (cT _ (by rfl))
 have ha:=(BE (σ:=σ) (VR.ptr (n:=n) (i:=0) hσ)).put (some 5) hfv
 have hr1:aj H n 0=some (O U x):=by unfold aj aP;rw[hx];rfl
 refine wpS_of_wp (wp_mono ((?_:W ⟨Try.prog,15,[],σ,H,w⟩ _ (fun x E h=>x= .normal/\h=H.set n (.cells [O U k] 36)++[.cells [O U k] 92]) (aB 15 (dD 0 [.pointer (some ⟨n,0,none⟩)]) (some 5) (bf k)) H) σ _ w ⟨hr,ha,rfl,Ext.refl _ _ _⟩) ?_)
 ·refine W.block ?_
  have h5: ∀{K:Cx} {E:Env} {h:AH} {σ act w},ae E 5=bf k->In K E h σ act w->act.eval (.tmp 5)=bf k:=by
   intro K E h σ act w he hi
   have:=hi.ar.eval (.tmp 5)
   rw[show bq E (.tmp 5)=bf k from he]at this
   exact lE k _ _ this
  refine W.seq (W.region (Wl.raw (v:= .bool false) (by simp[go_sem]) (fun σ act w hi=>⟨_,zT rfl (h5 (by simp[ae,aB,dD]) hi) rfl w,.bool false⟩) (Wl.nil ?_)))
  refine W.cf ?_
  refine W.seq (W.region (Wl.raw (v:= .tuple #[.agg #[O U k],.bool true]) (by simp[go_sem]) (fun σ act w hi=>⟨_,AM rfl (h5 (by simp[ae,aB,dD]) hi) w,?_⟩) (Wl.s (Wl.nil ?_))))
  ·refine .tuple rfl fun i v v' e1 e2=> ?_
   rw[e1]at e2;cases e2
   match i with
   | 0=>simp at e1;subst e1;exact cT _ rfl
   | 1=>simp at e1;subst e1;exact .bool true
   |i+2=>simp at e1
  refine W.ct ?_
  refine W.seq (W.g ?_)
  have hx':at_ (H++[.cells [O U k] 92]) n= .cells [O U x] 36:=by rw[ag hn,hx]
  refine W.g ?_ (by simp[go_sem,hx'];rfl)
  refine⟨rfl,?_⟩
  simp[Gq _ _ hn]
 ·rintro e act' w' ⟨x,E,h,σ',⟨rfl,rfl⟩,hx,hi⟩
  cases e<;>first|exact hx.elim|skip
  refine⟨hi.df,_,rfl,.tuple #[],by kernel_rfl,⟨_,rfl⟩,rfl,σ',hi.hr,hi.ex⟩
structure Dg where
 s:Value
 l:List Cr
 n:Int
noncomputable def kU(d:Dg):Option Int:=if eN d.l d.n=true then(if pF d.l=true then none else some 221)else some 220
noncomputable def sD(H:AH):List Dg->OpR
 | []=> .val (.tuple #[]) H
 |d::r=>match kU d with
  |some e=> .pan (bf e) H
  |none=>sD H r
def uH(ds:List Dg):List Value:=ds.flatMap fun d=>[d.s,O U d.n]
theorem rP: ∀(ds:List Dg) (j:Nat) (d:Dg),ds[j]? =some d->(uH ds).drop (j*2)=[d.s,O U d.n]++uH (ds.drop (j+1))
 | [],_,_,h=>by simp at h
 |e::ds,0,d,h=>by simp at h;subst h;simp[uH]
 |e::ds,j+1,d,h=>by
  have:=rP ds j d (by simpa using h)
  rw[show(j+1)*2=j*2+2 by omega]
  simpa[uH]using this
theorem asked_ok(H:AH)(ds:List Dg)(n C:Nat)(hr0:ak H n 0 (ds.length*2)=some (uH ds))(hd: ∀d∈ds,jK H d.s d.l)(hl:ds.length<100000):
 AC Try.prog 23 [.slice (some ⟨n,0,none⟩) ds.length C] H (sD H ds):=by
 refine AC.o 19 f23 fun σ w hr=> ?_
 refine W.seq (W.g ?_)
 refine W.block ?_
 refine W.loop (fun m E h=> ∃j G,m=ds.length-j/\j<=ds.length/\ae E 4= .slice (some ⟨n,0,none⟩) ds.length C/\ae E 5=O U ds.length/\ae E 6=O U j/\h=H++G/\sD H ds=sD H (ds.drop j)) ds.length
  ⟨0,[],by omega,by omega,by simp[ae],by simp[ae],by simp[ae],by simp,rfl⟩ ?_
 rintro m E h ⟨j,G,rfl,hj,e4,e5,e6,rfl,hask⟩
 by_cases hlt:j<ds.length
 ·have hx:ds[j]? =some (ds[j]'hlt):=Ex hlt
  have hdr:=E7 hlt
  rw[hdr]at hask
  have hm:ds[j]'hlt∈ds:=FE hlt
  generalize ds[j]'hlt=d at hx hask hm
  obtain⟨s,l,loops⟩:=d
  have hs:=hd _ hm
  simp only at hs
  have hrj:ak H n (j*2) 2=some [s,O U loops]:=by
   have:=bL hr0 (j:=j*2) (m:=2) (by omega)
   rw[rP ds j _ hx,EU]at this
   rw[this];rfl
  obtain⟨bs,ks,rfl⟩:=hs.len
  refine W.seq (W.g ?_ (by simp[go_sem,e5,e6,hlt];rfl))
  refine W.seq (W.ct (W.skip ?_))
  refine W.seq (W.block ?_)
  refine W.seq (W.g ?_ (by simp[go_sem,e4,e6,hlt,aD hrj];rfl))
  have hrd1:ak (H++(G++[.cells [.slice bs l.length ks,O U loops] 32])) (H.length+G.length) 0 2=some [.slice bs l.length ks,O U loops]:=by
   rw[aF];unfold ak aP;rw[aL];rfl
  refine W.seq (W.region (Wl.s ?_ (by simp[go_sem,hrd1];rfl)))
  refine Wl.o (Sc b40 (AW _ _ _ _ hs.app)) ?_
  cases hb:eN l loops
  ·refine Wl.p (Sc b16 (aM _ _)) ?_
   have:sD H ds= .pan (bf 220) H:=by rw[hask];simp[sD,kU,hb]
   rw[this]
   show Ev.Ends Try.prog Try.f23 H _ (.panic _) [] _
   exact Ends.DL rfl
  ·refine Wl.o (Sc b16 (aZ _ _)) ?_
   refine Wl.nil ?_
   show W _ _ _ _ _
   have hsd:=(gu l loops).1 hb
   have hrd2:ak (H++(G++[.cells [.slice bs l.length ks,O U loops] 32,.cells [.slice bs l.length ks,O U loops] 75])) (H.length+G.length+1) 0 2=some [.slice bs l.length ks,O U loops]:=by
    rw[FJ,aF];unfold ak aP
    rw[show G++[AO.cells [.slice bs l.length ks,O U loops] 32,.cells [.slice bs l.length ks,O U loops] 75]=(G++[.cells [.slice bs l.length ks,O U loops] 32])++[.cells [.slice bs l.length ks,O U loops] 75]by simp]
    rw[show G.length+1=(G++[AO.cells [.slice bs l.length ks,O U loops] 32]).length by simp,aL];rfl
   have hdr2:ig (H++(G++[.cells [.slice bs l.length ks,O U loops] 32,.cells [.slice bs l.length ks,O U loops] 75])) (.pointer (some ⟨H.length+(G.length+1),0,none⟩)) l loops:=⟨_,_,_,rfl,hrd2,hs.app⟩
   refine W.region (Wl.s ?_ (by simp[go_sem,hrd1];rfl))
   refine Wl.o (Sc b41 (zO _ _ _ _ hdr2 hsd.2.2.2 hsd.1)) ?_
   cases hp:pF l
   ·refine Wl.p (Sc b16 (aM _ _)) ?_
    have:sD H ds= .pan (bf 221) H:=by rw[hask];simp[sD,kU,hb,hp]
    rw[this]
    show Ev.Ends Try.prog Try.f23 H _ (.panic _) [] _
    exact Ends.DL rfl
   ·refine Wl.o (Sc b16 (aZ _ _)) ?_
    refine Wl.nil ?_
    show W _ _ _ _ _
    refine W.g ?_ (by simp[go_sem,e6];rfl)
    have hwr:IntKind.i64.wrap ((j:Int)+1)=((j+1:Nat):Int):=by rw[EP];omega
    exact⟨ds.length-(j+1),by omega,j+1,_,rfl,by omega,by simp[ae,e4],by simp[ae,e5],by simp[ae,hwr],rfl,by rw[hask];simp[sD,kU,hb,hp]⟩
 ·have hj':j=ds.length:=by omega
  subst hj'
  refine W.seq (W.g ?_ (by simp[go_sem,e5,e6];rfl))
  refine W.seq (W.cf (W.exit ?_))
  simp only[AX.then,AX.inBlock,if_true]
  have:sD H ds= .val (.tuple #[]) H:=by rw[hask];simp[sD]
  rw[this]
  exact Ends.unit rfl
def uK(v:Value)(k:Nat):Prop:= ∀b len c,v= .slice b len c->unk<=c->c=unk+k
theorem sl26{H:AH}{v:Value}{l:List Int}(h:cy H v l)(hc:uK v 1){j:Nat}(hj:j<=l.length):
 ∃v',lw Try.prog 26 v none (some (O U j)) none=some v'/\cy H v' (l.take j):=by
 have key: ∀b len c,lw Try.prog 26 (.slice b len c) none (some (O U (j:Int))) none=(match ey (some (O U (j:Int))) len with
  |some h=>(if 0<=h/\h<=len/\(false=true->h<=len/\len<=len/\len<unk)/\(false=true->true=true)then
   match b with
   |none=>if len=0/\c=0 then some (.slice none 0 0)else none
   |some ⟨_,_,some _⟩=>if 0=h then some (.slice (some ⟨0,0,some 0⟩) 0 0)else none
   |some ⟨n,i,none⟩=>if 0=h then some (.slice (some ⟨0,0,some 0⟩) 0 0)else
    if false=true then some (.slice (some ⟨n,i+0*1,none⟩) (h-0) (len-0))
    else if unk<=c then(if c=unk+1 then some (.slice (some ⟨n,i+0*1,none⟩) (h-0) c)else none)else some (.slice (some ⟨n,i+0*1,none⟩) (h-0) (c-0))
   else none)
  |none=>none):=by intro b len c;kernel_rfl
 have hab: ∀len,ey (some (O U (j:Int))) len=some j:=by intro len;simp[ey]
 rcases h with ⟨rfl,h|⟨i,c,h⟩⟩|⟨n,i,c,h,hr⟩
 ·subst h
  rw[key,hab]
  have:j=0:=by simpa using hj
  subst this
  exact⟨_,by simp,.inl ⟨rfl,.inl rfl⟩⟩
 ·subst h
  rw[key,hab]
  have:j=0:=by simpa using hj
  subst this
  exact⟨.slice (some ⟨0,0,some 0⟩) 0 0,by simp,.inl ⟨rfl,.inr ⟨0,0,rfl⟩⟩⟩
 ·subst h
  rw[key,hab]
  by_cases h0:j=0
  ·subst h0
   exact⟨.slice (some ⟨0,0,some 0⟩) 0 0,by simp,.inl ⟨by simp,.inr ⟨0,0,rfl⟩⟩⟩
  ·have hlen:(l.take j).length=j:=by simp;omega
   have hrd:ak H n i j=some ((l.take j).map (O U)):=by
    have:=bL hr (j:=0) (m:=j) (by omega)
    rw[Nat.add_zero]at this
    rw[this];simp
   by_cases hu:unk<=c
   ·have:=hc _ _ _ rfl hu
    refine⟨.slice (some ⟨n,i+0*1,none⟩) (j-0) c,?_,.inr ⟨n,i,c,by simp[hlen],by rw[hlen];exact hrd⟩⟩
    have h0': ¬0=j:=fun h=>h0 h.symm
    simp[hj,h0',hu,this]
   ·refine⟨.slice (some ⟨n,i+0*1,none⟩) (j-0) (c-0),?_,.inr ⟨n,i,c,by simp[hlen],by rw[hlen];exact hrd⟩⟩
    have h0': ¬0=j:=fun h=>h0 h.symm
    simp[hj,h0',hu]
def iG(n:Int):List Int->List Int->Bool
 |_,[]=>true
 |seen,x::r=>if(decide (x<0)||decide (n<=x)||seen.contains x)=true then false else iG n (seen++[x]) r
theorem rM(H:AH)(v:Value)(l:List Int)(hs:cy H v l)(hc:uK v 1)(n:Int)(hl:l.length<4611686018427387904):AC Try.prog 10 [v,O U n] H (.val (.bool (iG n [] l)) H):=by
 obtain⟨b,k,rfl⟩:=hs.len
 refine AC.o 35 f10 fun σ w hr=> ?_
 refine W.seq (W.g ?_)
 refine W.seq (W.seq (W.g ?_))
 refine W.block ?_
 refine W.loop (fun m E h=> ∃j,m=l.length-j/\j<=l.length/\ae E 0= .slice b l.length k/\ae E 1=O U n/\ae E 5=O U j/\h=H/\iG n [] l=iG n (l.take j) (l.drop j)) l.length
  ⟨0,by omega,by omega,by simp[ae],by simp[ae],by simp[ae],rfl,by simp⟩ ?_
 rintro m E h ⟨j,rfl,hj,e0,e1,e5,rfl,hd⟩
 by_cases hlt:j<l.length
 ·refine W.seq (W.seq (W.g ?_ (by simp[go_sem,e0,e5,hlt];rfl)))
  refine W.ct (W.skip ?_)
  refine W.seq (W.block ?_)
  have hx:l[j]? =some (l[j]'hlt):=Ex hlt
  rw[E7 hlt]at hd
  have htk:l.take (j+1)=l.take j++[l[j]'hlt]:=by rw[FP,hx];rfl
  generalize l[j]'hlt=x at hx hd htk
  obtain⟨n',i',c',hb,h3⟩:=hs.read hx
  cases hb
  obtain⟨v',hsl,hsv⟩:=sl26 hs hc (j:=j) (by omega)
  have hct:=yq h v' (l.take j) hsv x (by simp;omega)
  rw[iG]at hd
  have hwr:IntKind.i64.wrap ((j:Int)+1)=((j+1:Nat):Int):=by rw[EP];omega
  cases g1:decide (x<0)
  ·cases g2:decide (n<=x)
   ·cases g3:(l.take j).contains x
    ·rw[g3]at hct
     refine W.seq (W.drawnBy (fun i=>i==21) follows (by decide+kernel) (Dl.s ?_ (by simp[go_sem,e0,e1,e5,hlt,h3,g1,g2,hsl];rfl)))
     refine Dl.t (Sc b28 hct) ?_
     refine Dl.s (Dl.nil ?_)
     refine W.cf (W.skip ?_)
     refine W.g ?_ (by simp[go_sem,e5];rfl)
     refine⟨l.length-(j+1),by omega,j+1,rfl,by omega,by simp[ae,e0],by simp[ae,e1],by simp[ae,hwr],rfl,?_⟩
     rw[hd,htk,g1,g2,g3];rfl
    ·rw[g3]at hct
     have hf:iG n [] l=false:=by rw[hd,g1,g2,g3];rfl
     rw[hf]
     refine W.seq (W.drawnBy (fun i=>i==21) follows (by decide+kernel) (Dl.s ?_ (by simp[go_sem,e0,e1,e5,hlt,h3,g1,g2,hsl];rfl)))
     refine Dl.t (Sc b28 hct) ?_
     refine Dl.s (Dl.nil ?_)
     refine W.ct ?_
     refine W.seq (W.g ?_)
     exact W.ret (Ends.still (by simp[go_sem]) rfl)
   ·have hf:iG n [] l=false:=by rw[hd,g2];simp
    rw[hf]
    refine W.seq (W.drawnBy (fun i=>i==21) follows (by decide+kernel) (Dl.s (Dl.nil ?_) (by simp[go_sem,e0,e1,e5,hlt,h3,g1,g2,hsl];rfl)))
    refine W.ct ?_
    refine W.seq (W.g ?_)
    exact W.ret (Ends.still (by simp[go_sem]) rfl)
  ·have hf:iG n [] l=false:=by rw[hd,g1];simp
   rw[hf]
   refine W.seq (W.drawnBy (fun i=>i==21) follows (by decide+kernel) (Dl.s (Dl.nil ?_) (by simp[go_sem,e0,e1,e5,hlt,h3,g1,hsl];rfl)))
   refine W.ct ?_
   refine W.seq (W.g ?_)
   exact W.ret (Ends.still (by simp[go_sem]) rfl)
 ·have hjl:j=l.length:=by omega
  subst hjl
  refine W.seq (W.seq (W.g ?_ (by simp[go_sem,e0,e5];rfl)))
  refine W.cf (W.exit ?_)
  simp only[AX.then,AX.inBlock,if_true]
  refine W.seq (W.g ?_)
  rw[hd,Fu]
  exact W.ret (Ends.still (by simp[go_sem,iG]) rfl)
theorem kR(n:Int): ∀(l seen:List Int),seen.Nodup->(iG n seen l=true↔(∀x∈l,0<=x/\x<n)/\(seen++l).Nodup)
 | [],seen,h=>by simp[iG,h]
 |x::r,seen,h=>by
  rw[iG]
  by_cases hb:(decide (x<0)||decide (n<=x)||seen.contains x)=true
  ·rw[if_pos hb]
   constructor
   ·intro hh;cases hh
   ·rintro⟨h1,h2⟩
    exfalso
    have hx:=h1 x (by simp)
    simp only[E8,decide_eq_true_eq,GI]at hb
    rcases hb with (hb|hb)|hb
    ·omega
    ·omega
    ·rw[Gf]at h2
     exact h2.2.2 x hb x (by simp) rfl
  ·rw[if_neg hb]
   simp only[E8,decide_eq_true_eq,GI,not_or]at hb
   have hn:(seen++[x]).Nodup:=by
    rw[Gf]
    refine⟨h,by simp,?_⟩
    intro a ha b hb' e
    have:b=x:=by simpa using hb'
    subst this;subst e
    exact hb.2 ha
   rw[kR n r (seen++[x]) hn,EH]
   simp only[List.singleton_append,EG,forall_eq_or_imp]
   constructor
   ·rintro⟨a,b⟩;exact⟨⟨by omega,a⟩,b⟩
   ·rintro⟨⟨_,a⟩,b⟩;exact⟨a,b⟩
def nth(L:List Int)(a:Int):Int:=(L[a.toNat]?).getD 0
def eB(l:List Cr)(order arcs:List Int):List Cr:=order.map fun i=>(fD l i.toNat).map (nth arcs)
structure RN(G:AH)(s v:Value)(loops:Int):Prop where
 a0:at_ G 0= .cells [s,O U loops] 32
 a1:at_ G 1= .cells [.slice none 0 0,O U 0] 32
 a2:at_ G 2= .cells [v,O U loops] 32
 len:2<G.length
 junk: ∀k,3<=k->dS (at_ G k)=true
theorem RN.more{G:AH}{s v:Value}{loops:Int}(h:RN G s v loops){G':AH}(hj:cP G'):RN (G++G') s v loops:=by
 have hl:=h.len
 refine⟨by rw[ag (by omega)];exact h.a0,by rw[ag (by omega)];exact h.a1,by rw[ag (by omega)];exact h.a2,by simp;omega,fun k hk=> ?_⟩
 by_cases hlt:k<G.length
 ·rw[ag hlt];exact h.junk k hk
 ·obtain⟨j,rfl⟩: ∃j,k=G.length+j:=⟨k-G.length,by omega⟩
  rw[aq]
  unfold cP at hj
  unfold at_
  cases hg:G'[j]? with
  |none=>rfl
  |some o=>exact EI.1 hj o (EE hg)
theorem mapq_get(f:Int->Int)(x:Cr){q:Nat}(hq:q<4):(po f x q).cells[q]? =some (O U (x.arc q)):=by
 match q,hq with
 | 0,_=>rfl
 | 1,_=>rfl
 | 2,_=>rfl
 | 3,_=>rfl
theorem bC.dg{k:Nat}{s:Value}{loops:Int}(h:Bel k s):bC k (.cells [s,O U loops] 32):=by
 intro σ w x ho
 obtain⟨g0,cs,g1,g2,g3,g4⟩:=ho
 refine⟨g0,cs,g1,g2,g3,fun q v v' a b=> ?_⟩
 have:=g4 q v v' a b
 match q,a with
 | 0,a=>simp at a;subst a;exact h _ _ this
 | 1,a=>simp at a;subst a;exact Bel.int _ _ _ _ _ this
 |q+2,a=>simp at a
theorem yQ{G:AH}{b:Nat}{e:TypeId}{sz:Nat}{v:Value}{len:Nat}{cont:List Value}(h:bA G b e sz v len cont)(k:Nat)(hk:b+G.length<=k):Bel k v:=by
 rcases h with ⟨rfl,_⟩|⟨i,C,rfl,h2,_⟩
 ·intro σ w hv;cases hv;exact .slNil
 ·intro σ w hv
  have hB:b+i<k:=by omega
  generalize b+i=B at hv hB
  cases hv with
  |sl hσ hc=>exact .sl (bG.2 ⟨hB,hσ⟩) hc
theorem zI(H:AH)(s:Value)(l:List Cr)(loops:Int)(hs:jK H s l)(hl:l.length<=200)(ov av:Value)(order arcs:List Int)(ho:cy H ov order)(hav:cy H av arcs)(hor: ∀i∈order,0<=i/\i<l.length)(hol:order.length<=200)(har: ∀x∈l,∀q,q<4->0<=x.arc q/\x.arc q<arcs.length):
 ACE Try.prog 12 [dgV s loops,ov,av] H (fun r=> ∃v G,r= .val (dgV v loops) (H++G)/\jK (H++G) v (eB l order arcs)):=by
 obtain⟨bs,ks,rfl⟩:=hs.len
 obtain⟨bo,ko,rfl⟩:=ho.len
 refine ACE.o 49 f12 ?_
 refine X.seq (X.g ?_ (by simp[go_sem,dgV];rfl))
 refine X.seq (X.g ?_)
 refine X.seq (X.seq (X.g ?_))
 refine X.block ?_
 refine X.loop (fun m E h=> ∃j G v,m=order.length-j/\j<=order.length/\ae E 1= .slice bo order.length ko/\ae E 2=av/\ae E 3= .pointer (some ⟨H.length,0,none⟩)/\ae E 6= .pointer (some ⟨H.length+1,0,none⟩)/\ae E 7= .pointer (some ⟨H.length+2,0,none⟩)/\ae E 8=O U j/\h=H++G/\RN G (.slice bs l.length ks) v loops/\bA G H.length 73 5 v j (aE (eB l (order.take j) arcs))/\bA.DJ H.length v 0/\bA.DJ H.length v 1/\bA.DJ H.length v 2) order.length
  ⟨0,[.cells [.slice bs l.length ks,O U loops] 32,.cells [.slice none 0 0,O U 0] 32,.cells [.slice none 0 0,O U loops] 32],.slice none 0 0,by omega,by omega,by simp[ae],by simp[ae],by simp[ae],by simp[ae],by simp[ae],by simp[ae],rfl,⟨rfl,rfl,rfl,by simp,fun k hk=>by match k,hk with|k+3,_=>rfl⟩,.inl ⟨rfl,rfl,rfl⟩,fun _ _ h=>by(cases h),fun _ _ h=>by(cases h),fun _ _ h=>by(cases h)⟩ ?_
 rintro m E h ⟨j,G,v,rfl,hj,e1,e2,e3,e6,e7,e8,rfl,hG,hg,o0,o1,o2⟩
 have r00:aj G 0 0=some (.slice bs l.length ks):=by rw[ah,hG.a0];rfl
 by_cases hlt:j<order.length
 ·have hlt':(j:Int)<(order.length:Int):=by omega
  refine X.seq (X.seq (X.g ?_ (by simp[go_sem,e1,e8,hlt'];rfl)))
  refine X.ct (X.skip ?_)
  refine X.seq (X.block ?_)
  have hi:order[j]? =some (order[j]'hlt):=Ex hlt
  have him:=hor (order[j]'hlt) (FE hlt)
  have htk:order.take (j+1)=order.take j++[order[j]'hlt]:=by rw[FP,hi];rfl
  generalize order[j]'hlt=i at hi him htk
  obtain⟨no,io,co,hbo,hro⟩:=(ho.app (G:=G)).read hi
  cases hbo
  obtain⟨c,rfl⟩: ∃c:Nat,i=c:=⟨i.toNat,by omega⟩
  have hc:c<l.length:=by omega
  have hx:l[c]? =some (fD l c):=by unfold fD;rw[Ex hc];rfl
  have hxm:fD l c∈l:=EE hx
  have hrn:eB l (order.take (j+1)) arcs=eB l (order.take j) arcs++[(fD l c).map (nth arcs)]:=by rw[htk];simp[eB]
  generalize fD l c=x at hx hxm hrn
  obtain⟨n',i',c',hb',h3⟩:=(hs.app (G:=G)).read hx
  cases hb'
  refine X.seq (X.drawnBy (fun i=>false) follows (by decide+kernel) (Xd.s (Xd.nil ?_) (by simp[go_sem,e1,e3,e8,hlt',r00,hro,hc,h3,Cr.cells];rfl)))
  refine X.seq (X.seq (X.g ?_))
  refine X.block ?_
  have hal: ∃ba ka,av= .slice ba arcs.length ka:=by obtain⟨ba,ka,h⟩:=hav.len;exact⟨ba,ka,h⟩
  obtain⟨ba,ka,rfl⟩:=hal
  refine X.loop (fun m E h=> ∃q,m=4-q/\q<=4/\ae E 1= .slice (some ⟨no,io,none⟩) order.length ko/\ae E 2= .slice ba arcs.length ka/\ae E 3= .pointer (some ⟨H.length,0,none⟩)/\ae E 6= .pointer (some ⟨H.length+1,0,none⟩)/\ae E 7= .pointer (some ⟨H.length+2,0,none⟩)/\ae E 8=O U j/\ae E 9= .pointer (some ⟨H.length+G.length,0,none⟩)/\ae E 10=O U q/\h=H++(G++[.cells (po (nth arcs) x q).cells 73])) 4
   ⟨0,rfl,by omega,by simp[ae,e1],by simp[ae,e2],by simp[ae,e3],by simp[ae,e6],by simp[ae,e7],by simp[ae,e8],by simp[ae],by simp[ae],rfl⟩ ?_
  clear e1 e2 e3 e6 e7 e8 E
  rintro m E h ⟨q,rfl,hq,e1,e2,e3,e6,e7,e8,e9,e10,rfl⟩
  by_cases hq4:q<4
  ·have hq':(q:Int)<4:=by omega
   refine X.seq (X.seq (X.g ?_ (by simp[go_sem,e10,hq'];rfl)))
   refine X.ct (X.skip ?_)
   refine X.seq (X.block ?_)
   have har':=har x hxm q hq4
   obtain⟨a,ha⟩: ∃a:Nat,x.arc q=a:=⟨(x.arc q).toNat,by omega⟩
   have hal:a<arcs.length:=by omega
   have hy:arcs[a]? =some (nth arcs (x.arc q)):=by unfold nth;rw[ha,Int.toNat_natCast,Ex hal];rfl
   obtain⟨na,ia,ca,hba,hra⟩:=(hav.app (G:=G++[.cells (po (nth arcs) x q).cells 73])).read hy
   cases hba
   have hrx:aj (H++(G++[.cells (po (nth arcs) x q).cells 73])) (H.length+G.length) q=some (O U a):=by
    rw[bU,ah,aL,<-ha]
    exact mapq_get _ _ hq4
   have hms:=uM (nth arcs) x hq4
   have hml:(po (nth arcs) x q).cells.length=5:=rfl
   have hq5:q+1<=5:=by omega
   refine X.g ?_ (by simp[go_sem,e2,e9,e10,hq',hrx,hra,hal,wP,hms,hml,hq5];rfl)
   refine X.g ?_ (by simp[go_sem,e10];rfl)
   refine⟨4-(q+1),by omega,q+1,rfl,by omega,by simp[ae,e1],by simp[ae,e2],by simp[ae,e3],by simp[ae,e6],by simp[ae,e7],by simp[ae,e8],by simp[ae,e9],?_,rfl⟩
   simp only[ae,if_true];rw[aA (by omega)]
  ·have hqq:q=4:=by omega
   subst hqq
   have hm4:po (nth arcs) x 4=x.map (nth arcs):=rfl
   rw[hm4]
   refine X.seq (X.seq (X.g ?_ (by simp[go_sem,e10];rfl)))
   refine X.cf (X.exit ?_)
   simp only[AX.then,AX.inBlock,if_true]
   generalize hY:x.map (nth arcs)=y at*
   have hy:y.cells=[O U y.a0,O U y.a1,O U y.a2,O U y.a3,O U y.s]:=rfl
   have tY:=hG.more (G':=[.cells y.cells 73]) rfl
   have gY:=hg.more [.cells y.cells 73]
   obtain⟨v',G',hap,hg',hl',hk,hno,hju⟩:=app30 (H:=H) y (by omega) gY
   rw[hy]at hap
   simp only[EH,List.cons_append,List.nil_append,Ez,List.length_cons,List.length_nil,EU]at hap hl'
   rw[hy]
   have hvc: ∃vb vl vc,v'= .slice vb vl vc:=by
    rcases hg' with ⟨h,_⟩|⟨i,C',h,_⟩<;>exact⟨_,_,_,h⟩
   obtain⟨vb,vl,vc,rfl⟩:=hvc
   have hGl:=hG.len
   have gl:G'.length=G.length+3:=by omega
   have f4: ∀k,k<G.length->bA.DJ H.length v k->at_ G' k=at_ (G++[.cells y.cells 73]) k:=fun k h h'=>hk k (by simp;omega) h'
   have r20:aj (G++[.cells [O U y.a0,O U y.a1,O U y.a2,O U y.a3,O U y.s] 73]) 2 0=some v:=by rw[ah,ag hGl,hG.a2];rfl
   have hat2:at_ G' 2= .cells [v,O U loops] 32:=by rw[f4 2 hGl o2];exact tY.a2
   refine X.g ?_ (by simp[go_sem,e7,e9,r20,pf,hap,hat2];rfl)
   refine X.g ?_ (by simp[go_sem,e8];rfl)
   refine⟨order.length-(j+1),by omega,j+1,G'.set 2 (.cells [.slice vb vl vc,O U loops] 32),.slice vb vl vc,rfl,by omega,by simp[ae,e1],by simp[ae,e2],by simp[ae,e3],by simp[ae,e6],by simp[ae,e7],?_,rfl,?_,?_,hno _ (by simp<;>omega),hno _ (by simp<;>omega),hno _ (by simp<;>omega)⟩
   ·simp only[ae,if_true];rw[aA (by omega)]
   ·refine⟨by rw[af (by decide),f4 0 (by omega) o0];exact tY.a0,by rw[af (by decide),f4 1 (by omega) o1];exact tY.a1,au (by omega) _,by simp;omega,fun k hk3=> ?_⟩
    rw[af (by omega)]
    rcases hju (cq _) k with ⟨_,h⟩|h
    ·rw[h];exact tY.junk k hk3
    ·exact h
   ·rw[hrn,lg]
    have:aE [y]=y.cells:=by simp[aE]
    rw[this]
    exact hg'.set (hno _ (by simp<;>omega)) _
 ·have hjl:j=order.length:=by omega
  subst hjl
  refine X.seq (X.seq (X.g ?_ (by simp[go_sem,e1,e8];rfl)))
  refine X.cf (X.exit ?_)
  simp only[AX.then,AX.inBlock,if_true]
  have hGl:=hG.len
  have hvc: ∃vb vl vc,v= .slice vb vl vc:=by
   rcases hg with ⟨h,_⟩|⟨i,C',h,_⟩<;>exact⟨_,_,_,h⟩
  obtain⟨vb,vl,vc,rfl⟩:=hvc
  have r2:ak G 2 0 2=some [.slice vb vl vc,O U loops]:=by unfold ak aP;rw[hG.a2];rfl
  rw[Fp]at hg
  have hA1:=hG.a1
  refine X.seq (X.g ?_ (by simp[go_sem,e6,e7,r2,hA1];rfl))
  refine X.kill (H.length+0) (X.kill (H.length+2) (X.ret ?_))
  rw[bV,bV]
  generalize hG2:((G.set 1 (.cells [.slice vb vl vc,O U loops] 32)).set 0 .dead).set 2 .dead=G2
  have hl2:G2.length=G.length:=by rw[<-hG2];simp
  have b1:at_ G2 1= .cells [.slice vb vl vc,O U loops] 32:=by
   rw[<-hG2,af (by decide),af (by decide),au (by omega)]
  have hg2:bA G2 H.length 73 5 (.slice vb vl vc) order.length (aE (eB l order arcs)):=by
   rw[<-hG2];exact((hg.set o1 _).set o0 _).set o2 _
  have hb2: ∀k,k=1\/dS (at_ G2 k)=true:=by
   intro k
   rw[<-hG2,pO,pO]
   split
   ·exact .inr rfl
   ·split
    ·exact .inr rfl
    ·by_cases e:k=1
     ·exact .inl e
     ·rw[af (fun h=>e h.symm)]
      exact .inr (hG.junk k (by omega))
  have hr2:ak G2 1 0 2=some [.slice vb vl vc,O U loops]:=by unfold ak aP;rw[b1];rfl
  have hlen:(H++G2).length=H.length+G.length:=by simp[hl2]
  refine⟨.val (dgV (.slice vb vl vc) loops) (H++G2),⟨_,G2,rfl,?_⟩,Ends.own (by simp[go_sem,e6,hr2,dgV]) (by simp) ?_ fun k hk=> ?_⟩
  ·rcases hg2 with ⟨h1,h2,h3⟩|⟨i,C,h1,h2,h3,h4,_⟩
   ·refine .inl ⟨?_,.inl h1⟩
    exact Fr.1 (by simp[eB,h2])
   ·refine .inr ⟨H.length+i,0,C,by rw[h1];simp[eB],?_⟩
    rw[aF]
    have:(eB l order arcs).length=order.length:=by simp[eB]
    exact ao h3 (by rw[this,h4])
  ·have hb:=yQ hg2 (H++G2).length (by rw[hlen,hl2];omega)
   intro σ w hv
   cases hv with
   |agg hc hc'=>
    refine .agg hc fun i v v' a b=> ?_
    have:=hc' i v v' a b
    match i,a with
    | 0,a=>simp at a;subst a;exact hb _ _ this
    | 1,a=>simp at a;subst a;exact Bel.int _ _ _ _ _ this
    |i+2,a=>simp at a
  ·by_cases hkH:k<H.length
   ·exact .inl ⟨hkH,ag hkH⟩
   ·obtain⟨i,rfl⟩: ∃i,k=H.length+i:=⟨k-H.length,by omega⟩
    rw[aq]
    rcases hb2 i with rfl|h
    ·refine .inr ?_
     rw[b1]
     exact bC.dg (yQ hg2 _ (by rw[hlen,hl2];omega))
    ·exact .inr (cQ h _)
end Go.Proofs.Ytjcomcgpjjianaa
