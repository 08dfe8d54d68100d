import Derived.Test.YtjcomcgpjjianaaA19
import Derived.Test.YtjcomcgpjjianaaA20
import Derived.Test.YtjcomcgpjjianaaA46
set_option linter.all false
set_option maxHeartbeats 16000000
set_option maxRecDepth 8000
open Go.Value renaming int→O
open Go.IntKind renaming i64→U
namespace Go.Proofs.Ytjcomcgpjjianaa
open Go.Ev Go.Joins Go.Deep Go.ChangeShapes Go.WideShapes
theorem lv52:leaves Try.prog 5 52=(List.range 20).map fun i=>(i,.int .i64):=by kernel_rfl
theorem lv64:leaves Try.prog 5 64=(List.range 6).map fun i=>(i,.int .i64):=by kernel_rfl
theorem lv39:leaves Try.prog 5 39=(List.range 4).map fun i=>(i,.int .i64):=by kernel_rfl
theorem lv3:leaves Try.prog 5 3=(List.range 1).map fun i=>(i,.int .i64):=by kernel_rfl
theorem lv73:leaves Try.prog 5 73=(List.range 5).map fun i=>(i,.int .i64):=by kernel_rfl
theorem lv79:leaves Try.prog 5 79=[(0,.int .i64),(1,.int .i64),(2,.int .i64),(3,.bool),(4,.int .i64),(5,.int .i64),(6,.int .i64),(7,.int .i64)]:=by kernel_rfl
theorem cl52:Try.prog.cellsOf 52=20:=by kernel_rfl
theorem cl64:Try.prog.cellsOf 64=6:=by kernel_rfl
theorem cl39:Try.prog.cellsOf 39=4:=by kernel_rfl
theorem cl3:Try.prog.cellsOf 3=1:=by kernel_rfl
theorem cl73:Try.prog.cellsOf 73=5:=by kernel_rfl
theorem cl79:Try.prog.cellsOf 79=8:=by kernel_rfl
section
variable {H:Type}{enc:TypeId×Value->H}{w:World}{spare:Nat->Bool}{held:Bool}
theorem qz{t:TypeId}{m:Nat}(ht:leaves Try.prog 5 t=(List.range m).map fun i=>(i,.int .i64)){n:Nat}{cs:List Value}{x:DataW H×List MemPlace}(hl:cs.length=m)(h:DataW.trod enc Try.prog w 0 spare held n t cs=some x):
 ∃l:List Int,l.length=m/\cs=l.map (.int .i64):=by
 have key: ∀i,i<m-> ∃z:Int,cs[i]? =some (.int .i64 z):=fun i hi=>by
  obtain⟨v,h1,z,rfl⟩:=jR 5 n t cs x h i (.int .i64) (by rw[ht];simpa using hi)
  exact⟨z,h1⟩
 obtain⟨f,hf⟩:=choose_lt key
 refine⟨(List.range m).map f,by simp,FM fun i=> ?_⟩
 simp only[List.map_map,EM]
 by_cases hi:i<m
 ·rw[hf i hi,EW hi];rfl
 ·rw[Ev.Fd (by omega),Ev.Fd (by simp;omega)];rfl
theorem rd52(n:Nat)(cs:List Value)(x:DataW H×List MemPlace)(hl:cs.length=20)(h:DataW.trod enc Try.prog w 0 spare held n 52 cs=some x): ∃a:Row,cs=a.cells:=by
 obtain⟨l,hm,rfl⟩:=qz lv52 hl h
 match l,hm with
 | [a0,a1,a2,a3,a4,a5,a6,a7,a8,a9,b0,b1,b2,b3,b4,b5,b6,b7,b8,b9],_=>
   exact⟨⟨⟨a0,⟨a1,a2,a3,a4⟩⟩,⟨a5,⟨a6,a7,a8,a9⟩⟩,⟨b0,⟨b1,b2,b3,b4⟩⟩,⟨b5,⟨b6,b7,b8,b9⟩⟩⟩,rfl⟩
theorem rd64(n:Nat)(cs:List Value)(x:DataW H×List MemPlace)(hl:cs.length=6)(h:DataW.trod enc Try.prog w 0 spare held n 64 cs=some x): ∃a:Mv,cs=a.cells:=by
 obtain⟨l,hm,rfl⟩:=qz lv64 hl h
 match l,hm with
 | [a0,a1,a2,a3,a4,a5],_=>exact⟨⟨a0,a1,⟨a2,a3,a4,a5⟩⟩,rfl⟩
theorem rd39(n:Nat)(cs:List Value)(x:DataW H×List MemPlace)(hl:cs.length=4)(h:DataW.trod enc Try.prog w 0 spare held n 39 cs=some x): ∃a:Pm,cs=a.cells:=by
 obtain⟨l,hm,rfl⟩:=qz lv39 hl h
 match l,hm with
 | [a0,a1,a2,a3],_=>exact⟨⟨a0,a1,a2,a3⟩,rfl⟩
def inC(n:Int):List Value:=[.int .i64 n]
theorem rd3(n:Nat)(cs:List Value)(x:DataW H×List MemPlace)(hl:cs.length=1)(h:DataW.trod enc Try.prog w 0 spare held n 3 cs=some x): ∃a:Int,cs=inC a:=by
 obtain⟨l,hm,rfl⟩:=qz lv3 hl h
 match l,hm with
 | [a0],_=>exact⟨a0,rfl⟩
theorem rd73(n:Nat)(cs:List Value)(x:DataW H×List MemPlace)(hl:cs.length=5)(h:DataW.trod enc Try.prog w 0 spare held n 73 cs=some x): ∃a:Cr,cs=a.cells:=by
 obtain⟨l,hm,rfl⟩:=qz lv73 hl h
 match l,hm with
 | [a0,a1,a2,a3,a4],_=>exact⟨⟨a0,a1,a2,a3,a4⟩,rfl⟩
theorem rd79(n:Nat)(cs:List Value)(x:DataW H×List MemPlace)(hl:cs.length=8)(h:DataW.trod enc Try.prog w 0 spare held n 79 cs=some x): ∃a:Rd,cs=a.cells:=by
 have key: ∀i K,(i,K)∈leaves Try.prog 5 79-> ∃v,cs[i]? =some v/\K.has v:=jR 5 n 79 cs x h
 rw[lv79]at key
 match cs,hl with
 | [v0,v1,v2,v3,v4,v5,v6,v7],_=>
   obtain⟨_,⟨⟩,a0,rfl⟩:=key 0 (.int .i64) (by simp)
   obtain⟨_,⟨⟩,a1,rfl⟩:=key 1 (.int .i64) (by simp)
   obtain⟨_,⟨⟩,a2,rfl⟩:=key 2 (.int .i64) (by simp)
   obtain⟨_,⟨⟩,a3,rfl⟩:=key 3 .bool (by simp)
   obtain⟨_,⟨⟩,a4,rfl⟩:=key 4 (.int .i64) (by simp)
   obtain⟨_,⟨⟩,a5,rfl⟩:=key 5 (.int .i64) (by simp)
   obtain⟨_,⟨⟩,a6,rfl⟩:=key 6 (.int .i64) (by simp)
   obtain⟨_,⟨⟩,a7,rfl⟩:=key 7 (.int .i64) (by simp)
   exact⟨⟨a0,a1,a2,a3,a4,a5,a6,a7⟩,rfl⟩
theorem ar22{fuel:Nat}{v:Value}{x:DataW H×List MemPlace}(h:DataW.trod enc Try.prog w 0 spare held fuel 22 [v]=some x): ∃(l:List Row) (o:Option Ev.Loc) (c:List Value) (av:Nat->Value),iw w Row.cells 20 v l o c av/\sliceLen x.1=l.length:=qQ (by decide) cl52 Try.underlying22 (fun a u hu σ=>by simp only[Row.cells,EG,EK,or_false]at hu;rcases hu with rfl|rfl|rfl|rfl|rfl|rfl|rfl|rfl|rfl|rfl|rfl|rfl|rfl|rfl|rfl|rfl|rfl|rfl|rfl|rfl<;>exact .int _ _) rd52 h
theorem ar25{fuel:Nat}{v:Value}{x:DataW H×List MemPlace}(h:DataW.trod enc Try.prog w 0 spare held fuel 25 [v]=some x): ∃(l:List Mv) (o:Option Ev.Loc) (c:List Value) (av:Nat->Value),iw w Mv.cells 6 v l o c av/\sliceLen x.1=l.length:=qQ (by decide) cl64 Try.underlying25 (fun a u hu σ=>by simp only[Mv.cells,EG,EK,or_false]at hu;rcases hu with rfl|rfl|rfl|rfl|rfl|rfl<;>exact .int _ _) rd64 h
theorem ar27{fuel:Nat}{v:Value}{x:DataW H×List MemPlace}(h:DataW.trod enc Try.prog w 0 spare held fuel 27 [v]=some x): ∃(l:List Pm) (o:Option Ev.Loc) (c:List Value) (av:Nat->Value),iw w Pm.cells 4 v l o c av/\sliceLen x.1=l.length:=qQ (by decide) cl39 Try.underlying27 (fun a u hu σ=>by simp only[Pm.cells,EG,EK,or_false]at hu;rcases hu with rfl|rfl|rfl|rfl<;>exact .int _ _) rd39 h
theorem ar26{fuel:Nat}{v:Value}{x:DataW H×List MemPlace}(h:DataW.trod enc Try.prog w 0 spare held fuel 26 [v]=some x): ∃(l:List Int) (o:Option Ev.Loc) (c:List Value) (av:Nat->Value),iw w inC 1 v l o c av/\sliceLen x.1=l.length:=qQ (by decide) cl3 Try.underlying26 (fun a u hu σ=>by simp only[inC,EG,EK,or_false]at hu;subst hu;exact .int _ _) rd3 h
theorem ar30{fuel:Nat}{v:Value}{x:DataW H×List MemPlace}(h:DataW.trod enc Try.prog w 0 spare held fuel 30 [v]=some x): ∃(l:List Cr) (o:Option Ev.Loc) (c:List Value) (av:Nat->Value),iw w Cr.cells 5 v l o c av/\sliceLen x.1=l.length:=qQ (by decide) cl73 Try.underlying30 (fun a u hu σ=>by simp only[Cr.cells,EG,EK,or_false]at hu;rcases hu with rfl|rfl|rfl|rfl|rfl<;>exact .int _ _) rd73 h
theorem ar33{fuel:Nat}{v:Value}{x:DataW H×List MemPlace}(h:DataW.trod enc Try.prog w 0 spare held fuel 33 [v]=some x): ∃(l:List Rd) (o:Option Ev.Loc) (c:List Value) (av:Nat->Value),iw w Rd.cells 8 v l o c av/\sliceLen x.1=l.length:=qQ (by decide) cl79 Try.underlying33 (fun a u hu σ=>by simp only[Rd.cells,EG,EK,or_false]at hu;rcases hu with rfl|rfl|rfl|rfl|rfl|rfl|rfl|rfl<;>first|exact .int _ _|exact .bool _) rd79 h
end
theorem Sl.ints{A:AH}{v:Value}{l:List Int}(h:Sl inC 1 A v l):cy A v l:=by
 rcases h with h|⟨n,i,c,h,hr⟩
 ·exact .inl h
 ·refine .inr ⟨n,i,c,h,?_⟩
  rw[Hl]at hr
  rw[hr];congr 1
  clear h hr
  induction l with
  |nil=>rfl
  |cons a l ih=>simp only[FG,Fv,ih];rfl
end Go.Proofs.Ytjcomcgpjjianaa
namespace Go.Proofs.Ytjcomcgpjjianaa
open Go.Ev
def ord3(o1 o2:List Int)(n:Nat):List Int:=(List.range n).map fun(i:Nat)=>((bM o1 (bM o2 i):Nat):Int)
def prm3(p1 p2:List Pm)(o2:List Int)(n:Nat):List Pm:=(List.range n).map fun i=>(bY p1 (bM o2 i)).times (bY p2 i)
theorem Dd(o1 o2:List Int)(n:Nat):ord3 o1 o2 (n+1)=ord3 o1 o2 n++[((bM o1 (bM o2 n):Nat):Int)]:=by unfold ord3;rw[Fq,Gd];rfl
theorem Dw(p1 p2:List Pm)(o2:List Int)(n:Nat):prm3 p1 p2 o2 (n+1)=prm3 p1 p2 o2 n++[(bY p1 (bM o2 n)).times (bY p2 n)]:=by unfold prm3;rw[Fq,Gd];rfl
theorem yV(o1 o2:List Int)(n:Nat):(ord3 o1 o2 n).length=n:=by simp[ord3]
theorem zz(p1 p2:List Pm)(o2:List Int)(n:Nat):(prm3 p1 p2 o2 n).length=n:=by simp[prm3]
theorem zG{perms:List Pm}{i:Nat}(h:i<perms.length):perms[i]? =some (bY perms i):=by unfold bY;rw[EF,Ex h];rfl
theorem Bc{S S':AH}(hk: ∀k,k<S.length->at_ S' k=at_ S k){n i k:Nat}{l:List Value}(h:ak S n i k=some l):ak S' n i k=some l:=by
 have hn:n<S.length:=by
  by_cases e:n<S.length
  ·exact e
  ·unfold ak aP at h;rw[dW (by omega)]at h;simp at h
 unfold ak aP at*
 rw[hk n hn];exact h
theorem SlG.keep{S S':AH}(hk: ∀k,k<S.length->at_ S' k=at_ S k){v:Value}{g:List Row}(h:SlG S v g):SlG S' v g:=by
 rcases h with h|⟨n,i,c,h,hr⟩
 ·exact .inl h
 ·exact .inr ⟨n,i,c,h,Bc hk hr⟩
theorem cc2_ok{H:AH}{D:List Deferred}{σ:Ren}{w:World}{G:AH}{E:Env}{V:Gv}{a b:List Row}{ms:List Mv}{o1 o2:List Int}{p1 p2:List Pm}(hsa:SlG H V.sa a)(hsb:SlG H V.sb b)(hlv:SlMv H V.lv ms)(hov:cy H V.ov o1)(hpv:mv H V.pv p1)(hov2:cy H V.o2 o2)(hpv2:mv H V.p2 p2)(hG:CB G V)(he:CE E H.length V):
 W ⟨Try.prog,203,D,σ,H,w⟩ cc2 (fun x E' h=>x= .normal/\CE E' H.length V/\ ∃G',h=H++G'/\CB G' V) E (H++G):=by
 obtain⟨r,⟨_,X,rfl,⟨xk,lk,kk,rfl⟩,hk⟩,hac⟩:=ren01_ok (H++G) V.sb V.o2 V.p2 b o2 p2 hsb.app hov2.app hpv2.app
 unfold glV at hac
 have e11:=he.e11
 have e3:=he.e3
 have e4:=he.e4
 have r1:=ao (k:=1) hG.a1 rfl
 have hlen:=hG.len
 refine W.seq (W.region (Wl.s ?_ (by simp[go_sem,e3,e4,e11,r1];rfl)))
 refine Wl.o (Sc b7 hac) ?_
 refine Wl.s (Wl.nil ?_) (by simp[go_sem,aB];rfl)
 have hG1:=hG.app (X++[.cells [.slice xk lk kk] 24])
 have hkS:jM b o2 p2=0->SlG (H++(G++(X++[.cells [.slice xk lk kk] 24]))) (.slice xk lk kk) (de b o2 p2):=fun h=>by
  have:=hk h
  rw[EH]at this
  rw[<-EH G]
  rw[<-EH]at this⊢
  rw[<-EH]
  exact this.app
 have hl23:H.length+G.length+X.length=H.length+(G.length+X.length):=by omega
 have hat23:at_ (G++(X++[AO.cells [.slice xk lk kk] 24])) (G.length+X.length)= .cells [.slice xk lk kk] 24:=by rw[aq,aL]
 have hl2:(G++(X++[AO.cells [.slice xk lk kk] 24])).length=G.length+X.length+1:=by simp;omega
 generalize G++(X++[AO.cells [.slice xk lk kk] 24])=G2 at hG1 hkS hat23 hl2
 generalize G.length+X.length=c3 at hl23 hat23 hl2
 have hfin: ∀(E':Env) (G':AH),(∀t∈[3,4,8,9,10,11,12,15,16,17],ae E' t=ae E t)->CB G' V->AX.normal= .normal/\CE E' H.length V/\ ∃G'',H++G'=H++G''/\CB G'' V:=fun E' G' h1 h2=>⟨rfl,he.of h1,G',rfl,h2⟩
 have e10:=he.e10
 have e12:=he.e12
 by_cases hR:jM b o2 p2=0
 case neg=>
  have hR':(jM b o2 p2==0)=false:=by simpa using hR
  refine W.seq (W.g ?_ (by simp[go_sem,hR'];rfl))
  refine W.cf (W.skip ?_)
  exact hfin _ _ (fun t ht=>by simp only[EG,EK,or_false]at ht;rcases ht with rfl|rfl|rfl|rfl|rfl|rfl|rfl|rfl|rfl|rfl<;>simp[ae,aB]) hG1
 have hR':(jM b o2 p2==0)=true:=by simpa using hR
 have hSp:=uT (H++G2) V.sa V.sb V.lv V.ov V.pv a b ms o1 p1 hsa.app hsb.app hlv.app hov.app hpv.app
 unfold glV at hSp
 have q0:=ao (k:=1) hG1.a0 rfl
 have q1:=ao (k:=1) hG1.a1 rfl
 have q2:=ao (k:=3) hG1.a2 rfl
 by_cases hS:eD a b ms o1 p1=0
 case neg=>
  have hS':(eD a b ms o1 p1==0)=false:=by simpa using hS
  refine W.seq (W.region (Wl.s ?_ (by simp[go_sem,hR',e10,e11,e12,q0,q1,q2];rfl)))
  refine Wl.o (Sc b6 hSp) ?_
  refine Wl.s (Wl.nil ?_) (by simp[go_sem,hS'];rfl)
  refine W.cf (W.skip ?_)
  exact hfin _ _ (fun t ht=>by simp only[EG,EK,or_false]at ht;rcases ht with rfl|rfl|rfl|rfl|rfl|rfl|rfl|rfl|rfl|rfl<;>simp[ae,aB]) hG1
 have hS':(eD a b ms o1 p1==0)=true:=by simpa using hS
 obtain⟨h1,hbl⟩:=DB hS
 have h2:IsO o2 p2 b.length:=by
  unfold jM at hR
  split at hR
  case isFalse=>cases hR
  split at hR
  case isFalse=>cases hR
  rename_i hI
  exact(dF _ _ _).1 hI
 refine W.seq (W.region (Wl.s ?_ (by simp[go_sem,hR',e10,e11,e12,q0,q1,q2];rfl)))
 refine Wl.o (Sc b6 hSp) ?_
 refine Wl.s (Wl.nil ?_) (by simp[go_sem,hS'];rfl)
 refine W.ct ?_
 obtain⟨bl,kl,hlve⟩:=hlv.len
 obtain⟨bo,ko,hove⟩:=hov.len
 obtain⟨bp,kp,hpve⟩:=hpv.len
 obtain⟨b2,k2,ho2e⟩:=hov2.len
 obtain⟨b4,k4,hp2e⟩:=hpv2.len
 have ql:aj G2 2 0=some (.slice bl ms.length kl):=by rw[ah,hG1.a2,hlve];rfl
 refine W.seq (W.g ?_ (by simp[go_sem,aB,e12,ql];rfl))
 refine W.seq (W.seq (W.g ?_ (by simp[go_sem,aB,e3,ho2e];rfl)))
 refine W.block ?_
 have hlen2:=hG1.len
 refine W.loop (fun m E' h=> ∃(j:Nat) (G':AH) (so sp:Value),m=b.length-j/\j<=b.length/\(∀t∈[3,4,8,9,10,11,12,15,16,17],ae E' t=ae E t)/\ae E' 25= .pointer (some ⟨H.length+G2.length,0,none⟩)/\ae E' 23= .pointer (some ⟨H.length+c3,0,none⟩)/\ae E' 80= .slice b2 o2.length k2/\ae E' 81=O U o2.length/\ae E' 82=O U j/\h=H++G'/\(∀k,k<G2.length->at_ G' k=at_ G2 k)/\G2.length<G'.length/\qS H.length G' G2.length 29 3 1 39 4 (.slice bl ms.length kl) so sp j j (ints (ord3 o1 o2 j)) (jY (prm3 p1 p2 o2 j))) b.length
  ⟨0,_,.slice none 0 0,.slice none 0 0,by omega,by omega,(fun t ht=>by simp only[EG,EK,or_false]at ht;rcases ht with rfl|rfl|rfl|rfl|rfl|rfl|rfl|rfl|rfl|rfl<;>simp[ae,aB]),by simp[ae,aB],by simp[ae,aB,hl23],by simp[ae,aB],by simp[ae,aB],by simp[ae,aB],rfl,fun k hk=>ag hk,by simp,⟨aL _ _,by simp,.inl ⟨rfl,rfl,rfl⟩,.inl ⟨rfl,rfl,rfl⟩,fun _ _ _ _ h=>(by cases h),fun _ _ _ _ h=>(by cases h),fun _ _ _ h=>(by cases h),fun _ _ _ h=>(by cases h)⟩⟩ ?_
 clear q0 q1 q2 ql r1
 rintro m E' h ⟨j,G',so,sp,rfl,hj,hE,e25,e23,e80,e81,e82,rfl,hkeep,hlG,hT⟩
 have hjj:IntKind.i64.wrap ((j:Int)+1)=((j+1:Nat):Int):=aA (by omega)
 have hlo2:=h2.lo
 have e12':=(hE 12 (by simp)).trans e12
 have e4':=(hE 4 (by simp)).trans e4
 by_cases hlt:j<b.length
 ·have hlt':(j:Int)<(o2.length:Int):=by omega
  obtain⟨n1,i1,c1,hb1,hr1⟩:=hov2.read (h2.val j hlt)
  rw[ho2e]at hb1
  cases hb1
  have htl:=h2.lt j hlt
  obtain⟨n5,i5,c5,hb5,hr5⟩:=hov.read (h1.val _ htl)
  rw[hove]at hb5
  cases hb5
  obtain⟨n6,i6,c6,hb6,hr6⟩:=hpv.read (zG (perms:=p1) (i:=bM o2 j) (by rw[h1.lp];exact htl))
  rw[hpve]at hb6
  cases hb6
  obtain⟨n7,i7,c7,hb7,hr7⟩:=hpv2.read (zG (perms:=p2) (i:=j) (by rw[h2.lp];exact hlt))
  rw[hp2e]at hb7
  cases hb7
  have hp1ok:=h1.ok _ htl
  have hp2ok:=h2.ok j hlt
  have hcm:=fun H=>tJ H hp1ok hp2ok
  have hs3:=Dd o1 o2 j
  have hs4:=Dw p1 p2 o2 j
  have hl1:=h1.lo
  have hl2p:=h1.lp
  have hl3p:=h2.lp
  generalize bM o1 (bM o2 j)=t3 at hr5 hs3
  generalize bY p1 (bM o2 j)=x1 at hr6 hcm hs4
  generalize bY p2 j=x2 at hr7 hcm hs4
  generalize bM o2 j=t2 at hr1 htl hr6 hr5
  generalize x1.times x2=x3 at hcm hs4
  obtain⟨y0,y1,y2,y3⟩:=x3
  unfold Pm.val at hcm
  unfold Pm.cells at hr6 hr7
  have hto:(t2:Int)<(o1.length:Int):=by omega
  have htp:(t2:Int)<(p1.length:Int):=by omega
  have hjp:(j:Int)<(p2.length:Int):=by omega
  have hr1': ∀Y,aj (H++Y) n1 (i1+j)=_:=fun Y=>aw hr1
  have hr5': ∀Y,aj (H++Y) n5 (i5+t2)=_:=fun Y=>aw hr5
  have hr6': ∀Y,ak (H++Y) n6 (i6+t2*4) 4=_:=fun Y=>aD hr6
  have hr7': ∀Y,ak (H++Y) n7 (i7+j*4) 4=_:=fun Y=>aD hr7
  have q1:aj G' G2.length 1=some so:=by rw[ah,hT.ac];rfl
  have qo:aj G' 2 1=some (.slice (some ⟨n5,i5,none⟩) o1.length ko):=by rw[ah,hkeep 2 (by omega),hG1.a2,hove];rfl
  obtain⟨G3,ha1,hg1,hl1',hk1⟩:=app26 (a:=(t3:Int)) (by omega) hT.g1
  obtain⟨hac1,hT1,hkk1⟩:=hT.push1 hg1 hl1' hk1
  have hle1:G'.length+1<=G3.length:=by omega
  refine W.seq (W.g ?_ (by simp[go_sem,e81,e82,hlt'];rfl))
  refine W.seq (W.ct (W.skip ?_))
  refine W.seq (W.block ?_)
  refine W.seq (W.g ?_ (by simp[go_sem,e80,e82,hlt',hr1'];rfl))
  refine W.seq (W.drawnBy (fun _=>false) follows (by decide+kernel) (Dl.s (Dl.nil ?_) (by simp[go_sem,e12',e25,q1,qo,hto,hr5',bs26,ha1,hac1,hle1];rfl)))
  have hkeep1: ∀k,k<G2.length->at_ (G3.set G2.length (.cells [.slice bl ms.length kl,.slice (some ⟨H.length+(G'.length+1),0,none⟩) (j+1) (unk+1),sp] 29)) k=at_ G2 k:=fun k hk=>by rw[hkk1 k hk,hkeep k hk]
  generalize G3.set G2.length (.cells [.slice bl ms.length kl,.slice (some ⟨H.length+(G'.length+1),0,none⟩) (j+1) (unk+1),sp] 29)=G4 at hT1 hkeep1
  have q2:aj G4 G2.length 2=some sp:=by rw[ah,hT1.ac];rfl
  have qp:aj G4 2 2=some (.slice (some ⟨n6,i6,none⟩) p1.length kp):=by rw[ah,hkeep1 2 (by omega),hG1.a2,hpve];rfl
  obtain⟨G5,ha2,hg2,hl2',hk2⟩:=app27 (a:=y0) (b:=y1) (c:=y2) (d:=y3) (by omega) hT1.g2
  obtain⟨hac2,hT2,hkk2⟩:=hT1.push2 hg2 hl2' hk2
  have hle2:G4.length+1<=G5.length:=by omega
  have hlt4:=hT1.lt
  refine W.drawnBy (fun i=>i==11) follows (by decide+kernel) (Dl.s ?_ (by simp[go_sem,e4',hp2e,e12',e25,q2,qp,km,htp,hr6',hjp,hr7'];rfl))
  refine Dl.t (Sc b8 (hcm _)) ?_
  refine Dl.s (Dl.nil ?_) (by simp[go_sem,e25,bs27,ha2,hac2,hle2];rfl)
  refine W.g ?_ (by simp[go_sem,e82];rfl)
  refine⟨b.length-(j+1),by omega,j+1,_,.slice (some ⟨H.length+(G'.length+1),0,none⟩) (j+1) (unk+1),.slice (some ⟨H.length+(G4.length+1),0,none⟩) (j+1) (unk+4),rfl,by omega,(fun t ht=>by
   rw[<-hE t ht]
   simp only[EG,EK,or_false]at ht;rcases ht with rfl|rfl|rfl|rfl|rfl|rfl|rfl|rfl|rfl|rfl<;>simp[ae,aB]),by simp[ae,aB,e25],by simp[ae,aB,e23],by simp[ae,aB,e80],by simp[ae,aB,e81],by simp[ae,aB,hjj],rfl,fun k hk=>by rw[hkk2 k hk,hkeep1 k hk],by rw[EA];omega,?_⟩
  rw[hs3,qc,hs4,vE]
  exact hT2
 ·have hjl:j=b.length:=by omega
  subst hjl
  have hnlt: ¬((b.length:Int)<(o2.length:Int)):=by omega
  refine W.seq (W.g ?_ (by simp[go_sem,e81,e82,hnlt];rfl))
  refine W.seq (W.cf (W.exit ?_))
  simp only[AX.then,AX.inBlock,if_true]
  have hg1:=hT.g1
  have hg2:=hT.g2
  have hB:=hG1.keep (fun k hk=>hkeep k (by omega)) (by omega)
  have hso:cy (H++G') so (ord3 o1 o2 b.length):=sH (by rw[yV];exact hg1)
  have hsp:mv (H++G') sp (prm3 p1 p2 o2 b.length):=growPm (by rw[zz];exact hg2)
  have hsk:SlG (H++G') (.slice xk lk kk) (de b o2 p2):=by
   refine(hkS hR).keep fun k hk=> ?_
   by_cases hkH:k<H.length
   ·rw[ag hkH,ag hkH]
   ·obtain⟨i,rfl⟩: ∃i,k=H.length+i:=⟨k-H.length,by omega⟩
    rw[aq,aq]
    exact hkeep i (by rw[Ez]at hk;omega)
  have hsp0:=uT (H++G') V.sa (.slice xk lk kk) (.slice bl ms.length kl) so sp a (de b o2 p2) ms (ord3 o1 o2 b.length) (prm3 p1 p2 o2 b.length) hsa.app hsk (by rw[<-hlve];exact hlv.app) hso hsp
  rw[Bm hS hR (yV _ _ _) (zz _ _ _ _) (fun i hi=>by unfold ord3;rw[EM,EW hi];rfl) (fun i hi=>by unfold prm3 bY;rw[EF,EM,EW hi];rfl)]at hsp0
  unfold glV at hsp0
  have e10':=(hE 10 (by simp)).trans e10
  have r0:=ao (k:=1) hB.a0 rfl
  have r6:=ao (k:=3) hT.ac rfl
  have r23:=ao (S:=G') (n:=c3) (k:=1) (by rw[hkeep c3 (by omega)];exact hat23) rfl
  refine W.seq (W.region (Wl.s ?_ (by simp[go_sem,e10',e23,e25,r0,r6,r23];rfl)))
  refine Wl.o (Sc b6 hsp0) ?_
  refine Wl.s (Wl.nil ?_)
  refine W.cf (W.skip ?_)
  exact hfin _ _ (fun t ht=>by
   rw[<-hE t ht]
   simp only[EG,EK,or_false]at ht;rcases ht with rfl|rfl|rfl|rfl|rfl|rfl|rfl|rfl|rfl|rfl<;>simp[ae,aB]) hB
theorem link_len{d e:Dg}{ms:List Rd}{order arcs:List Int}(h:iF d e ms order arcs=0):order.length=e.l.length/\arcs.length=2*e.l.length/\(∀x∈arcs,0<=x/\x<arcs.length)/\e.l.length<=200/\ax e.l:=by
 unfold iF at h
 cases hA:kU d with
 |some k=>rw[hA]at h;exact absurd h (sP hA)
 |none=>
 rw[hA]at h
 simp only at h
 cases hB:kU e with
 |some k=>rw[hB]at h;exact absurd h (sP hB)
 |none=>
 rw[hB]at h
 simp only at h
 by_cases hmax:20000<ms.length
 ·rw[if_pos hmax]at h;exact absurd h (by decide)
 rw[if_neg hmax]at h
 cases hlog:pG ms d.l d.n with
 |none=>rw[hlog]at h;simp at h
 |some p=>
 obtain⟨l,lo⟩:=p
 rw[hlog]at h
 simp only at h
 by_cases hcond:(order.length=l.length/\arcs.length=2*l.length)/\cM order=true/\cM arcs=true
 case neg=>rw[if_neg hcond]at h;exact absurd h (by decide)
 rw[if_pos hcond]at h
 by_cases heq:kX (eB l order arcs) e.l=true/\lo=e.n
 case neg=>rw[if_neg heq]at h;exact absurd h (by decide)
 obtain⟨⟨c1,c2⟩,p1,p2⟩:=hcond
 obtain⟨e1,e2⟩:=heq
 have e1:=(qi _ _).1 e1
 obtain⟨a1,a2⟩:=(er arcs).1 p2
 have hel:e.l.length=l.length:=by rw[<-e1];simp[eB,c1]
 have heS:eN e.l e.n=true:=by
  unfold kU at hB
  split at hB
  ·rename_i h;exact h
  ·cases hB
 obtain⟨q1,q2,q3,q4⟩:=(gu e.l e.n).1 heS
 exact⟨by omega,by omega,a1,q1,q4⟩
theorem B0{L:List Int}{x:Int}(h0:0<=x)(hl:x<L.length):L[x.toNat]? =some (nth L x):=by
 unfold nth
 rw[Ex (by omega)];rfl
theorem oz(f:Int->Int)(l:List Int){j:Nat}{x:Int}(h:l[j]? =some x):(l.take (j+1)).map f=(l.take j).map f++[f x]:=by
 rw[FP,h,Option.toList_some,Gd];rfl
theorem cc3_ok{H:AH}{D:List Deferred}{σ:Ren}{w:World}{G:AH}{E:Env}{V:Gv}{dl el:List Cr}{rs:List Rd}{order arcs cross arcs2:List Int}(hd:jK H V.sd dl)(hel:jK H V.se el)(hrl:SlRd H V.rl rs)(hro:cy H V.ro order)(hra:cy H V.ra arcs)(hcv:cy H V.cv cross)(hav:cy H V.av arcs2)(hcc:uK V.cv 1)(hca:uK V.av 1)(hcl:cross.length<4611686018427387904)(hal:arcs2.length<4611686018427387904)(hG:CB G V)(he:CE E H.length V):
 W ⟨Try.prog,203,D,σ,H,w⟩ cc3 (Ev.Ends Try.prog Try.f3 H (.val (.bool true) H)) E (H++G):=by
 have hlk:=B8 (H++G) ⟨V.sd,dl,V.nd⟩ ⟨V.se,el,V.ne⟩ hd.app hel.app V.rl V.ro V.ra rs order arcs hrl.app hro.app hra.app
 unfold dgV at hlk
 simp only at hlk
 have e8:=he.e8
 have e9:=he.e9
 have e15:=he.e15
 have e16:=he.e16
 have e17:=he.e17
 have q3:=ao (k:=2) hG.a3 rfl
 have q4:=ao (k:=2) hG.a4 rfl
 have q5:=ao (k:=3) hG.a5 rfl
 obtain⟨be,ke,hse⟩:=hel.len
 obtain⟨bc,kc,hcve⟩:=hcv.len
 obtain⟨ba,ka,have'⟩:=hav.len
 have q40:aj G 4 0=some (.slice be el.length ke):=by rw[ah,hG.a4,hse];rfl
 have hsane: ∀H,AC Try.prog 11 [] H (.val (.bool true) H):=sane_ok
 by_cases hL:iF ⟨V.sd,dl,V.nd⟩ ⟨V.se,el,V.ne⟩ rs order arcs=0
 case neg=>
  have hL':(iF ⟨V.sd,dl,V.nd⟩ ⟨V.se,el,V.ne⟩ rs order arcs !=0)=true:=by simpa using hL
  refine W.seq (W.seq (W.region (Wl.s ?_ (by simp[go_sem,e15,e16,e17,q3,q4,q5];rfl))))
  refine Wl.o (Sc b9 hlk) ?_
  refine Wl.s (Wl.nil ?_) (by simp[go_sem,hL'];rfl)
  refine W.ct ?_
  refine W.seq (W.region (Wl.o (Sc b11 (hsane _)) ?_))
  refine Wl.s (Wl.nil ?_)
  exact W.ret (Ends.quiet (by simp[go_sem]) rfl)
 have hL':(iF ⟨V.sd,dl,V.nd⟩ ⟨V.se,el,V.ne⟩ rs order arcs !=0)=false:=by simpa using hL
 obtain⟨l1,l2,l3,l4,l5⟩:=link_len hL
 simp only at l1 l2 l4 l5
 by_cases c1:cross.length=el.length
 case neg=>
  have c1':((cross.length:Int)!=(el.length:Int))=true:=by simp;omega
  refine W.seq (W.seq (W.region (Wl.s ?_ (by simp[go_sem,e15,e16,e17,q3,q4,q5];rfl))))
  refine Wl.o (Sc b9 hlk) ?_
  refine Wl.s (Wl.nil ?_) (by simp[go_sem,aB,hL',e8,hcve,e16,q40,c1'];rfl)
  refine W.ct ?_
  refine W.seq (W.region (Wl.o (Sc b11 (hsane _)) ?_))
  refine Wl.s (Wl.nil ?_)
  exact W.ret (Ends.quiet (by simp[go_sem]) rfl)
 have c1':((cross.length:Int)!=(el.length:Int))=false:=by simp[c1]
 have hw2:IntKind.i64.wrap (2*(el.length:Int))=2*(el.length:Int):=by rw[EP];omega
 by_cases c2:arcs2.length=2*el.length
 case neg=>
  have c2':((arcs2.length:Int)!=2*(el.length:Int))=true:=by simp;omega
  refine W.seq (W.seq (W.region (Wl.s ?_ (by simp[go_sem,e15,e16,e17,q3,q4,q5];rfl))))
  refine Wl.o (Sc b9 hlk) ?_
  refine Wl.s (Wl.nil ?_) (by simp[go_sem,aB,hL',e8,e9,hcve,have',e16,q40,c1',hw2,c2'];rfl)
  refine W.ct ?_
  refine W.seq (W.region (Wl.o (Sc b11 (hsane _)) ?_))
  refine Wl.s (Wl.nil ?_)
  exact W.ret (Ends.quiet (by simp[go_sem]) rfl)
 have c2':((arcs2.length:Int)!=2*(el.length:Int))=false:=by simp;omega
 have hd1:=rM (H++G) V.cv cross hcv.app hcc cross.length hcl
 have hd2:=rM (H++G) V.av arcs2 hav.app hca arcs2.length hal
 cases d1:iG cross.length [] cross
 case false=>
  rw[d1]at hd1
  refine W.seq (W.seq (W.region (Wl.s ?_ (by simp[go_sem,e15,e16,e17,q3,q4,q5];rfl))))
  refine Wl.o (Sc b9 hlk) ?_
  refine Wl.s ?_ (by simp[go_sem,aB,hL',e8,e9,hcve,have',e16,q40,c1',hw2,c2'];rfl)
  refine Wl.o (Sc b10 (by rw[<-hcve];exact hd1)) ?_
  refine Wl.s (Wl.nil ?_)
  refine W.ct ?_
  refine W.seq (W.region (Wl.o (Sc b11 (hsane _)) ?_))
  refine Wl.s (Wl.nil ?_)
  exact W.ret (Ends.quiet (by simp[go_sem]) rfl)
 rw[d1]at hd1
 cases d2:iG arcs2.length [] arcs2
 case false=>
  rw[d2]at hd2
  refine W.seq (W.seq (W.region (Wl.s ?_ (by simp[go_sem,e15,e16,e17,q3,q4,q5];rfl))))
  refine Wl.o (Sc b9 hlk) ?_
  refine Wl.s ?_ (by simp[go_sem,aB,hL',e8,e9,hcve,have',e16,q40,c1',hw2,c2'];rfl)
  refine Wl.o (Sc b10 (by rw[<-hcve];exact hd1)) ?_
  refine Wl.s ?_ (by simp[go_sem,aB,e9,have'];rfl)
  refine Wl.o (Sc b10 (by rw[<-have'];exact hd2)) ?_
  refine Wl.s (Wl.nil ?_)
  refine W.ct ?_
  refine W.seq (W.region (Wl.o (Sc b11 (hsane _)) ?_))
  refine Wl.s (Wl.nil ?_)
  exact W.ret (Ends.quiet (by simp[go_sem]) rfl)
 rw[d2]at hd2
 have hlaw:=fun s=>link_law hL c1 (by exact c2) d1 d2 s
 simp only at hlaw
 obtain⟨hcr,_⟩:=(kR _ cross [] GH).1 d1
 obtain⟨har,_⟩:=(kR _ arcs2 [] GH).1 d2
 obtain⟨br,kr,hrle⟩:=hrl.len
 obtain⟨bo,ko,hroe⟩:=hro.len
 obtain⟨bx,kx,hrae⟩:=hra.len
 refine W.seq (W.seq (W.region (Wl.s ?_ (by simp[go_sem,e15,e16,e17,q3,q4,q5];rfl))))
 refine Wl.o (Sc b9 hlk) ?_
 refine Wl.s ?_ (by simp[go_sem,aB,hL',e8,e9,hcve,have',e16,q40,c1',hw2,c2'];rfl)
 refine Wl.o (Sc b10 (by rw[<-hcve];exact hd1)) ?_
 refine Wl.s ?_ (by simp[go_sem,aB,e9,have'];rfl)
 refine Wl.o (Sc b10 (by rw[<-have'];exact hd2)) ?_
 refine Wl.s (Wl.nil ?_)
 refine W.cf (W.skip ?_)
 have q50:aj G 5 0=some (.slice br rs.length kr):=by rw[ah,hG.a5,hrle];rfl
 refine W.seq (W.g ?_ (by simp[go_sem,aB,e17,q50];rfl))
 have hlen:=hG.len
 refine W.seq (W.seq (W.g ?_ (by simp[go_sem,aB,e8,hcve];rfl)))
 refine W.block ?_
 refine W.loop (fun m E' h=> ∃(j:Nat) (G':AH) (so:Value),m=cross.length-j/\j<=cross.length/\(∀t∈[3,4,8,9,10,11,12,15,16,17],ae E' t=ae E t)/\ae E' 28= .pointer (some ⟨H.length+G.length,0,none⟩)/\ae E' 158= .slice bc cross.length kc/\ae E' 159=O U cross.length/\ae E' 160=O U j/\h=H++G'/\CB G' V/\qS H.length G' G.length 35 3 1 3 1 (.slice br rs.length kr) so (.slice none 0 0) j 0 (ints ((cross.take j).map (nth order))) []) cross.length
  ⟨0,_,.slice none 0 0,by omega,by omega,(fun t ht=>by simp only[EG,EK,or_false]at ht;rcases ht with rfl|rfl|rfl|rfl|rfl|rfl|rfl|rfl|rfl|rfl<;>simp[ae,aB]),by simp[ae,aB],by simp[ae,aB],by simp[ae,aB],by simp[ae,aB],rfl,hG.app _,⟨aL _ _,by simp,.inl ⟨rfl,rfl,rfl⟩,.inl ⟨rfl,rfl,rfl⟩,fun _ _ _ _ h=>(by cases h),fun _ _ _ _ h=>(by cases h),fun _ _ _ h=>(by cases h),fun _ _ _ h=>(by cases h)⟩⟩ ?_
 clear hlk hd1 hd2 hL' c1' c2' q3 q4 q5 q40 q50
 rintro m E' h ⟨j,G',so,rfl,hj,hE,e28,e158,e159,e160,rfl,hB,hT⟩
 have hjj:IntKind.i64.wrap ((j:Int)+1)=((j+1:Nat):Int):=aA (by omega)
 have e17':=(hE 17 (by simp)).trans e17
 by_cases hlt:j<cross.length
 ·have hlt':(j:Int)<(cross.length:Int):=by omega
  have hx:cross[j]? =some (cross[j]'hlt):=Ex hlt
  have hxr:=hcr (cross[j]'hlt) (FE hlt)
  have hmt:=oz (nth order) cross hx
  generalize cross[j]'hlt=x at hx hxr hmt
  obtain⟨hx0,hxl⟩:=hxr
  obtain⟨n1,i1,k1,hb1,hr1⟩:=hcv.read hx
  rw[hcve]at hb1
  cases hb1
  have hxo:x<(order.length:Int):=by omega
  obtain⟨n2,i2,k2,hb2,hr2⟩:=hro.read (B0 hx0 hxo)
  rw[hroe]at hb2
  cases hb2
  have hr1': ∀Y,aj (H++Y) n1 (i1+j)=_:=fun Y=>aw hr1
  have hr2': ∀Y,aj (H++Y) n2 (i2+x.toNat)=_:=fun Y=>aw hr2
  generalize nth order x=y at hr2 hr2' hmt
  have q1:aj G' G.length 1=some so:=by rw[ah,hT.ac];rfl
  have qo:aj G' 5 1=some (.slice (some ⟨n2,i2,none⟩) order.length ko):=by rw[ah,hB.a5,hroe];rfl
  obtain⟨G1,ha1,hg1,hl1,hk1⟩:=app26 (a:=y) (by omega) hT.g1
  obtain⟨hac1,hT1,hkk1⟩:=hT.push1 hg1 hl1 hk1
  have hle1:G'.length+1<=G1.length:=by omega
  refine W.seq (W.g ?_ (by simp[go_sem,e159,e160,hlt'];rfl))
  refine W.seq (W.ct (W.skip ?_))
  refine W.seq (W.block ?_)
  refine W.seq (W.g ?_ (by simp[go_sem,e158,e160,hlt',hr1'];rfl))
  refine W.drawnBy (fun _=>false) follows (by decide+kernel) (Dl.s (Dl.nil ?_) (by simp[go_sem,e17',e28,q1,qo,hx0,hxo,hr2',bs26,ha1,hac1,hle1];rfl))
  refine W.g ?_ (by simp[go_sem,e160];rfl)
  refine⟨cross.length-(j+1),by omega,j+1,_,.slice (some ⟨H.length+(G'.length+1),0,none⟩) (j+1) (unk+1),rfl,by omega,(fun t ht=>by
   rw[<-hE t ht]
   simp only[EG,EK,or_false]at ht;rcases ht with rfl|rfl|rfl|rfl|rfl|rfl|rfl|rfl|rfl|rfl<;>simp[ae,aB]),by simp[ae,aB,e28],by simp[ae,aB,e158],by simp[ae,aB,e159],by simp[ae,aB,hjj],rfl,hB.keep (fun k hk=>hkk1 k (by omega)) (by rw[EA];omega),?_⟩
  rw[hmt,qc]
  exact hT1
 ·have hjl:j=cross.length:=by omega
  subst hjl
  rw[Fp]at hT
  have q52:aj G' 5 2=some (.slice bx arcs.length kx):=by rw[ah,hB.a5,hrae];rfl
  refine W.seq (W.g ?_ (by simp[go_sem,e159,e160];rfl))
  refine W.seq (W.cf (W.exit ?_))
  simp only[AX.then,AX.inBlock,if_true]
  refine W.seq (W.seq (W.g ?_ (by simp[go_sem,e17',q52];rfl)))
  refine W.block ?_
  refine W.loop (fun m E' h=> ∃(j:Nat) (G':AH) (sa:Value),m=arcs.length-j/\j<=arcs.length/\(∀t∈[3,4,8,9,10,11,12,15,16,17],ae E' t=ae E t)/\ae E' 28= .pointer (some ⟨H.length+G.length,0,none⟩)/\ae E' 176= .slice bx arcs.length kx/\ae E' 177=O U arcs.length/\ae E' 178=O U j/\h=H++G'/\CB G' V/\qS H.length G' G.length 35 3 1 3 1 (.slice br rs.length kr) so sa cross.length j (ints (cross.map (nth order))) (ints ((arcs.take j).map (nth arcs2)))) arcs.length
   ⟨0,G',.slice none 0 0,by omega,by omega,(fun t ht=>by
     rw[<-hE t ht]
     simp only[EG,EK,or_false]at ht;rcases ht with rfl|rfl|rfl|rfl|rfl|rfl|rfl|rfl|rfl|rfl<;>simp[ae,aB]),by simp[ae,aB,e28],by simp[ae,aB],by simp[ae,aB],by simp[ae,aB],rfl,hB,hT⟩ ?_
  clear hB hT q52 hE e28 e158 e159 e160 e17' E' hjj
  rintro m E' h ⟨j,G',sa,rfl,hj,hE,e28,e176,e177,e178,rfl,hB,hT⟩
  have hjj:IntKind.i64.wrap ((j:Int)+1)=((j+1:Nat):Int):=aA (by omega)
  have e9':=(hE 9 (by simp)).trans e9
  by_cases hlt:j<arcs.length
  ·have hlt':(j:Int)<(arcs.length:Int):=by omega
   have hx:arcs[j]? =some (arcs[j]'hlt):=Ex hlt
   have hxr:=l3 (arcs[j]'hlt) (FE hlt)
   have hmt:=oz (nth arcs2) arcs hx
   generalize arcs[j]'hlt=x at hx hxr hmt
   obtain⟨hx0,hxl⟩:=hxr
   obtain⟨n1,i1,k1,hb1,hr1⟩:=hra.read hx
   rw[hrae]at hb1
   cases hb1
   have hxo:x<(arcs2.length:Int):=by omega
   obtain⟨n2,i2,k2,hb2,hr2⟩:=hav.read (B0 hx0 hxo)
   rw[have']at hb2
   cases hb2
   have hr1': ∀Y,aj (H++Y) n1 (i1+j)=_:=fun Y=>aw hr1
   have hr2': ∀Y,aj (H++Y) n2 (i2+x.toNat)=_:=fun Y=>aw hr2
   generalize nth arcs2 x=y at hr2 hr2' hmt
   have q1:aj G' G.length 2=some sa:=by rw[ah,hT.ac];rfl
   obtain⟨G1,ha1,hg1,hl1,hk1⟩:=app26 (a:=y) (by omega) hT.g2
   obtain⟨hac1,hT1,hkk1⟩:=hT.push2 hg1 hl1 hk1
   have hle1:G'.length+1<=G1.length:=by omega
   refine W.seq (W.g ?_ (by simp[go_sem,e177,e178,hlt'];rfl))
   refine W.seq (W.ct (W.skip ?_))
   refine W.seq (W.block ?_)
   refine W.seq (W.g ?_ (by simp[go_sem,e176,e178,hlt',hr1'];rfl))
   refine W.drawnBy (fun _=>false) follows (by decide+kernel) (Dl.s (Dl.nil ?_) (by simp[go_sem,e9',have',e28,q1,hx0,hxo,hr2',bs26,ha1,hac1,hle1];rfl))
   refine W.g ?_ (by simp[go_sem,e178];rfl)
   refine⟨arcs.length-(j+1),by omega,j+1,_,.slice (some ⟨H.length+(G'.length+1),0,none⟩) (j+1) (unk+1),rfl,by omega,(fun t ht=>by
    rw[<-hE t ht]
    simp only[EG,EK,or_false]at ht;rcases ht with rfl|rfl|rfl|rfl|rfl|rfl|rfl|rfl|rfl|rfl<;>simp[ae,aB]),by simp[ae,aB,e28],by simp[ae,aB,e176],by simp[ae,aB,e177],by simp[ae,aB,hjj],rfl,hB.keep (fun k hk=>hkk1 k (by omega)) (by rw[EA];omega),?_⟩
   rw[hmt,qc]
   exact hT1
  ·have hjl:j=arcs.length:=by omega
   subst hjl
   rw[Fp]at hT
   refine W.seq (W.g ?_ (by simp[go_sem,e177,e178];rfl))
   refine W.seq (W.cf (W.exit ?_))
   simp only[AX.then,AX.inBlock,if_true]
   have e8':=(hE 8 (by simp)).trans e8
   have e15':=(hE 15 (by simp)).trans e15
   have e16':=(hE 16 (by simp)).trans e16
   have q3:=ao (k:=2) hB.a3 rfl
   have q4:=ao (k:=2) hB.a4 rfl
   have q28:=ao (k:=3) hT.ac rfl
   obtain⟨r,⟨v,X,rfl,hv⟩,hac⟩:=zI (H++G') V.se el V.ne hel.app l4 V.cv V.av cross arcs2 hcv.app hav.app (fun i hi=>by have:=hcr i hi;omega) (by omega) (fun x hx q hq=>by have:=l5.range x hx q hq;omega)
   have hso:cy (H++G') so (cross.map (nth order)):=sH (by rw[Fl];exact hT.g1)
   have hsa:cy (H++G') sa (arcs.map (nth arcs2)):=sH (by rw[Fl];exact hT.g2)
   have hlk2:=B8 (H++G'++X) ⟨V.sd,dl,V.nd⟩ ⟨v,eB el cross arcs2,V.ne⟩ (by rw[EH];exact hd.app) hv V.rl so sa rs (cross.map (nth order)) (arcs.map (nth arcs2)) (by rw[EH];exact hrl.app) hso.app hsa.app
   rw[hlaw v]at hlk2
   unfold dgV at hac hlk2
   simp only at hlk2
   have q28':ak (G'++X) G.length 0 3=_:=aD q28
   have hrlv:V.rl= .slice br rs.length kr:=hrle
   rw[hrlv]at hlk2
   rw[EH]at hlk2
   refine W.seq (W.drawnBy (fun i=>i==0||i==6||i==8) follows (by decide+kernel) ?_)
   refine Dl.t (Sc b11 (hsane _)) ?_
   refine Dl.s ?_ (by simp[go_sem,aB,e8',e9',e15',e16',q3,q4];rfl)
   refine Dl.quiet (aC:=X) rfl (by simp[go_sem]) (Sc b12 hac) ?_
   rw[EH]
   refine Dl.s ?_ (by simp[go_sem,aB,e28,q28'];rfl)
   refine Dl.t (Sc b9 hlk2) ?_
   refine Dl.s (Dl.nil ?_)
   exact W.ret (Ends.quiet (by simp[go_sem]) rfl)
theorem yx(H:AH)(V:Gv){a b:List Row}{ms:List Mv}{o1 o2:List Int}{p1 p2:List Pm}{dl el:List Cr}{rs:List Rd}{order arcs cross arcs2:List Int}(hsa:SlG H V.sa a)(hsb:SlG H V.sb b)(hlv:SlMv H V.lv ms)(hov:cy H V.ov o1)(hpv:mv H V.pv p1)(hov2:cy H V.o2 o2)(hpv2:mv H V.p2 p2)(hd:jK H V.sd dl)(hel:jK H V.se el)(hrl:SlRd H V.rl rs)(hro:cy H V.ro order)(hra:cy H V.ra arcs)(hcv:cy H V.cv cross)(hav:cy H V.av arcs2)(hcc:uK V.cv 1)(hca:uK V.av 1)(hcl:cross.length<4611686018427387904)(hal:arcs2.length<4611686018427387904):
 AC Try.prog 3 [glV V.sa,glV V.sb,.agg #[V.lv,V.ov,V.pv],V.o2,V.p2,dgV V.sd V.nd,dgV V.se V.ne,.agg #[V.rl,V.ro,V.ra],V.cv,V.av] H (.val (.bool true) H):=by
 refine AC.o 203 f3 fun σ w hr=> ?_
 obtain⟨b1,k1,h1⟩:=hsa.len
 obtain⟨b2,k2,h2⟩:=hsb.len
 obtain⟨b3,k3,h3⟩:=hlv.len
 obtain⟨b4,k4,h4⟩:=hov.len
 obtain⟨b5,k5,h5⟩:=hpv.len
 obtain⟨b6,k6,h6⟩:=hd.len
 obtain⟨b7,k7,h7⟩:=hel.len
 obtain⟨b8,k8,h8⟩:=hrl.len
 obtain⟨b9,k9,h9⟩:=hro.len
 obtain⟨bx,kx,hx⟩:=hra.len
 have hG:CB [.cells [V.sa] 24,.cells [V.sb] 24,.cells [V.lv,V.ov,V.pv] 29,.cells [V.sd,O U V.nd] 32,.cells [V.se,O U V.ne] 32,.cells [V.rl,V.ro,V.ra] 35] V:=⟨rfl,rfl,rfl,rfl,rfl,rfl,by simp⟩
 refine W.seq (W.g ?_ (by simp[go_sem,glV,dgV,h1,h2,h3,h4,h5,h6,h7,h8,h9,hx];rfl))
 rw[h1,h2,h3,h4,h5,h6,h7,h8,h9,hx]at hG
 refine W.seq (W.mono (cc1_ok (V:=V) hsa hG ⟨by simp[ae,dD],by simp[ae,dD],by simp[ae,dD],by simp[ae,dD],by simp[ae],by simp[ae],by simp[ae],by simp[ae],by simp[ae],by simp[ae]⟩) ?_)
 rintro x E h ⟨rfl,he,G',rfl,hG'⟩
 show W _ _ _ _ _
 refine W.seq (W.mono (cc2_ok hsa hsb hlv hov hpv hov2 hpv2 hG' he) ?_)
 rintro x E h ⟨rfl,he,G',rfl,hG'⟩
 exact cc3_ok hd hel hrl hro hra hcv hav hcc hca hcl hal hG' he
end Go.Proofs.Ytjcomcgpjjianaa
