import Derived.Test.YtjcomcgpjjianaaA18
import Derived.Test.YtjcomcgpjjianaaA19
import Derived.Test.YtjcomcgpjjianaaA35
import Derived.Test.YtjcomcgpjjianaaA36
set_option linter.all false
set_option maxHeartbeats 16000000
set_option maxRecDepth 8000
open Go.Value renaming int→O
open Go.IntKind renaming i64→U
namespace Go.Proofs.Ytjcomcgpjjianaa
open Go.Ev
theorem bs97_2(H:AH)(a b c d e a' b' c' d' e':Int):aQ Try.prog H 97 2 [(0,.agg #[O U a,O U b,O U c,O U d,O U e]),(1,.agg #[O U a',O U b',O U c',O U d',O U e'])]=some (.slice (some ⟨H.length,0,none⟩) 2 2,H++[.cells [O U a,O U b,O U c,O U d,O U e,O U a',O U b',O U c',O U d',O U e'] 103]):=by kernel_rfl
def ew(g:List Row)(x:Fc)(l:Int)(by':Pm):Fc:=⟨(az g x.t.toNat (x.p.at l).toNat).t,(az g x.t.toNat (x.p.at l).toNat).p.times (x.p.times by')⟩
theorem CV:eY Bw (jV 6):=by
 have h:qj (jV 6)=some Bw:=by kernel_rfl
 exact nq h
theorem CJ:eY AK (jV 5):=by
 have h:qj (jV 5)=some AK:=by kernel_rfl
 exact nq h
def ki(H:AH)(x u:Fc):AH:=[.cells x.cells 103,.cells [.slice none 0 0,O U 0,.slice none 0 0,.slice none 0 0] 101,.cells u.cells 103,.cells (x.cells++u.cells) 103,
 .cells [.slice (some ⟨H.length+3,0,none⟩) 2 2,O U 3,.slice none 0 0,.slice none 0 0] 101]
def mM(H:AH)(x u:Fc):AH:=fo (H++ki H x u) (H.length+1) (H.length+4) (H.length+3) 2 2 3 23 5 6 18446744073709551624 6 18446744073709551623 (dm gR) (dC lU)
theorem raise_ok(H:AH)(n:Nat)(s:Value)(g:List Row)(hc:aj H n 0=some s)(hs:SlG H s g)(t:Nat)(p:Pm)(ht:t<g.length)(hp:p.inside)(u:Fc)(hu:u=ew g ⟨t,p⟩ 0 (Pm.swap 0 0))(hneg: ¬u.t<0)(hd:pk [⟨t,p⟩,u]=true):
 AC Try.prog 35 [.pointer (some ⟨n,0,none⟩),Fc.val ⟨t,p⟩] H (.val (.agg #[.slice (some ⟨H.length+3,0,none⟩) 2 2,O U 3,.slice (some ⟨H.length+5+23,0,none⟩) 6 18446744073709551624,.slice (some ⟨H.length+5+29,0,none⟩) 6 18446744073709551623]) (mM H ⟨t,p⟩ u)):=by
 refine AC.ofX f35 rfl (EL rfl) fun σ w hr=> ?_
 show W ⟨Try.prog,67,[],σ,H,w⟩ _ (mY Try.prog Try.f35 _) _ H
 have hsw: ∀H,AC Try.prog 57 [O U 0,O U 0] H (.val (Pm.swap 0 0).val H):=fun H=>nR H 0 0 ⟨by omega,by omega⟩ ⟨by omega,by omega⟩
 have hac: ∀X,AC Try.prog 58 [.pointer (some ⟨n,0,none⟩),Fc.val ⟨t,p⟩,O U 0,(Pm.swap 0 0).val] (H++X) (.val u.val (H++X)):=by
  intro X
  have:=nZ (H++X) n s g (aw hc) hs.app t p 0 (Pm.swap 0 0) ht hp ⟨by omega,by omega⟩ (Pm.DI (p:=Pm.swap 0 0) rfl)
  unfold nV at this
  rw[if_neg (by rw[hu]at hneg;exact hneg)]at this
  rw[hu];exact this
 have hdf: ∀Y,AC Try.prog 59 [.slice (some ⟨H.length+3,0,none⟩) 2 2] (H++(.cells (Fc.mk t p).cells 103:: .cells [.slice none 0 0,O U 0,.slice none 0 0,.slice none 0 0] 101:: .cells u.cells 103:: .cells ((Fc.mk t p).cells++u.cells) 103::Y)) (.val (.tuple #[]) (H++(.cells (Fc.mk t p).cells 103:: .cells [.slice none 0 0,O U 0,.slice none 0 0,.slice none 0 0] 101:: .cells u.cells 103:: .cells ((Fc.mk t p).cells++u.cells) 103::Y))):=by
  intro Y
  have:=iW (H++(.cells (Fc.mk t p).cells 103:: .cells [.slice none 0 0,O U 0,.slice none 0 0,.slice none 0 0] 101:: .cells u.cells 103:: .cells ((Fc.mk t p).cells++u.cells) 103::Y)) (H.length+3) 0 2 [⟨t,p⟩,u] (by rw[aF];rfl) (by simp)
  unfold kI at this
  rw[hd,if_pos rfl]at this
  exact this
 clear hu hd
 obtain⟨ut,⟨u0,u1,u2,u3⟩⟩:=u
 obtain⟨p0,p1,p2,p3⟩:=p
 have hsv:(Pm.swap 0 0).val= .agg #[O U 0,O U 1,O U 2,O U 3]:=rfl
 rw[hsv]at hsw hac
 unfold Fc.val at hac
 refine W.seq (W.g ?_ (by simp[go_sem,Fc.val];rfl))
 refine W.seq (W.drawnBy (fun i=>i==2||i==3) follows (by decide+kernel) (Dl.s ?_))
 refine Dl.t (Sc b57 (hsw _)) ?_
 refine Dl.s ?_
 refine Dl.t (Sc b58 (hac _)) ?_
 refine Dl.s (Dl.nil ?_)
 refine W.seq (W.g ?_ (by simp[go_sem,bs97_2];rfl))
 refine W.seq (W.region (Wl.s ?_))
 refine Wl.o (Sc b59 (hdf _)) (Wl.nil ?_)
 refine W.mono (wk (code:=vC) (tp:=6) (H0:=H++ki H ⟨t,⟨p0,p1,p2,p3⟩⟩ ⟨ut,⟨u0,u1,u2,u3⟩⟩) (r:=H.length+1) (q:=H.length+4) (o:=H.length+3) (L:=2) (cp:=2) (aC:=3) rfl rfl (by decide) (by simp[ae,aB]) (by simp[ae,aB])
  (by rw[aq];rfl) (by rw[aq];rfl) (by omega) (by omega) (by omega) (by simp[ki]) (by kernel_rfl) CV CK rfl rfl) ?_
 rintro x a3 H3 ⟨rfl,rfl,rfl⟩
 refine⟨_,fun t=> .inr rfl,_,?_,rfl⟩
 have hr4:ak (mM H ⟨t,⟨p0,p1,p2,p3⟩⟩ ⟨ut,⟨u0,u1,u2,u3⟩⟩) (H.length+1) 0 4=some [.slice (some ⟨H.length+3,0,none⟩) 2 2,O U 3,.slice (some ⟨H.length+5+23,0,none⟩) 6 18446744073709551624,.slice (some ⟨H.length+5+29,0,none⟩) 6 18446744073709551623]:=by
  have hat:at_ (mM H ⟨t,⟨p0,p1,p2,p3⟩⟩ ⟨ut,⟨u0,u1,u2,u3⟩⟩) (H.length+1)= .cells [.slice (some ⟨H.length+3,0,none⟩) 2 2,O U 3,.slice (some ⟨H.length+5+23,0,none⟩) 6 18446744073709551624,.slice (some ⟨H.length+5+29,0,none⟩) 6 18446744073709551623] 101:=by
   unfold mM fo
   rw[ag (by simp[ki]),af (by omega),au (by simp[ki])]
   simp[ki]
  exact ao hat rfl
 unfold mM at hr4
 simp[go_sem,hr4]<;>repeat constructor
theorem eO{H:AH}{n m i k:Nat}{o:AO}(h:n≠m):ak (H.set m o) n i k=ak H n i k:=by
 unfold ak aP;rw[af (Fg h)]
theorem zd{H0:AH}{r q o L cp:Nat}{aC:Int}{i m l1 c1 l2 c2:Nat}{outs inns:List Value}{out:List Fc}{outers:List Ou}{inners:List Nn}(hro:o≠r)(hqo:o≠q)(ho:o<H0.length)(hL:L=out.length)(h0:ak H0 o 0 (out.length*5)=some (eI out))(h1:outs=dm outers)(h2:inns=dC inners)(e1:l1=outers.length)(e2:l2=inners.length):
 uC (fo H0 r q o L cp aC i m l1 c1 l2 c2 outs inns) (.agg #[.slice (some ⟨o,0,none⟩) L cp,O U aC,.slice (some ⟨H0.length+i,0,none⟩) l1 c1,.slice (some ⟨H0.length+(i+(m+1)),0,none⟩) l2 c2]) out aC outers inners:=by
 subst hL;subst h1;subst h2;subst e1;subst e2
 have hbl: ∀o1 o2,((H0.set r o1).set q o2).length=H0.length:=by intro o1 o2;simp
 have hO: ∀l:List Ou,(dm l).length=l.length*8:=by
  intro l
  induction l with
  |nil=>rfl
  |cons x l ih=>simp only[dm,FG,Ez,List.length_cons]at ih⊢;rw[ih];show 8+_=_;omega
 have hN: ∀l:List Nn,(dC l).length=l.length*7:=by
  intro l
  induction l with
  |nil=>rfl
  |cons x l ih=>simp only[dC,FG,Ez,List.length_cons]at ih⊢;rw[ih];show 7+_=_;omega
 refine⟨_,_,_,_,_,rfl,?_,?_,.inr ⟨_,_,rfl,?_⟩⟩
 ·unfold fo
  refine aD ?_
  rw[eO hqo,eO hro];exact h0
 ·have hat:at_ (fo H0 r q o out.length cp aC i m outers.length c1 inners.length c2 (dm outers) (dC inners)) (H0.length+i)= .cells (dm outers) 109:=by
   unfold fo
   have:=aq ((H0.set r (.cells [.slice (some ⟨o,0,none⟩) out.length cp,O U aC,.slice (some ⟨H0.length+i,0,none⟩) outers.length c1,.slice (some ⟨H0.length+(i+(m+1)),0,none⟩) inners.length c2] 101)).set q .dead) (fX i m (dm outers) (dC inners)) i
   rw[hbl]at this
   rw[this]
   unfold fX
   have:=bF (List.replicate i AO.dead) (.cells (dm outers) 109) (List.replicate m AO.dead++[.cells (dC inners) 107])
   rw[Fy]at this
   exact this
  exact ao hat (hO _).symm
 ·have hat:at_ (fo H0 r q o out.length cp aC i m outers.length c1 inners.length c2 (dm outers) (dC inners)) (H0.length+(i+(m+1)))= .cells (dC inners) 107:=by
   unfold fo
   have:=aq ((H0.set r (.cells [.slice (some ⟨o,0,none⟩) out.length cp,O U aC,.slice (some ⟨H0.length+i,0,none⟩) outers.length c1,.slice (some ⟨H0.length+(i+(m+1)),0,none⟩) inners.length c2] 101)).set q .dead) (fX i m (dm outers) (dC inners)) (i+(m+1))
   rw[hbl]at this
   rw[this]
   unfold fX
   have h3:=aq (List.replicate i AO.dead) (.cells (dm outers) 109::(List.replicate m AO.dead++[.cells (dC inners) 107])) (m+1)
   rw[Fy]at h3
   rw[h3,lF]
   have:=aL (List.replicate m AO.dead) (AO.cells (dC inners) 107)
   rw[Fy]at this
   exact this
  exact ao hat (hN _).symm
theorem raise_no(H:AH)(n:Nat)(s:Value)(g:List Row)(hc:aj H n 0=some s)(hs:SlG H s g)(t:Nat)(p:Pm)(ht:t<g.length)(hp:p.inside)(u:Fc)(hu:u=ew g ⟨t,p⟩ 0 (Pm.swap 0 0))(hneg: ¬u.t<0)(hd:pk [⟨t,p⟩,u]=false):
 AC Try.prog 35 [.pointer (some ⟨n,0,none⟩),Fc.val ⟨t,p⟩] H (.pan (bf 5) H):=by
 refine AC.o 67 f35 fun σ w hr=> ?_
 have hsw: ∀H,AC Try.prog 57 [O U 0,O U 0] H (.val (Pm.swap 0 0).val H):=fun H=>nR H 0 0 ⟨by omega,by omega⟩ ⟨by omega,by omega⟩
 have hac: ∀X,AC Try.prog 58 [.pointer (some ⟨n,0,none⟩),Fc.val ⟨t,p⟩,O U 0,(Pm.swap 0 0).val] (H++X) (if u.t<0 then .pan (bf 5) (H++X)else .val u.val (H++X)):=by
  intro X
  have:=nZ (H++X) n s g (aw hc) hs.app t p 0 (Pm.swap 0 0) ht hp ⟨by omega,by omega⟩ (Pm.DI (p:=Pm.swap 0 0) rfl)
  rw[hu];exact this
 have hdf: ∀Y,AC Try.prog 59 [.slice (some ⟨H.length+3,0,none⟩) 2 2] (H++(.cells (Fc.mk t p).cells 103:: .cells [.slice none 0 0,O U 0,.slice none 0 0,.slice none 0 0] 101:: .cells u.cells 103:: .cells ((Fc.mk t p).cells++u.cells) 103::Y)) (.pan (bf 5) (H++(.cells (Fc.mk t p).cells 103:: .cells [.slice none 0 0,O U 0,.slice none 0 0,.slice none 0 0] 101:: .cells u.cells 103:: .cells ((Fc.mk t p).cells++u.cells) 103::Y))):=by
  intro Y
  have:=iW (H++(.cells (Fc.mk t p).cells 103:: .cells [.slice none 0 0,O U 0,.slice none 0 0,.slice none 0 0] 101:: .cells u.cells 103:: .cells ((Fc.mk t p).cells++u.cells) 103::Y)) (H.length+3) 0 2 [⟨t,p⟩,u] (by rw[aF];rfl) (by simp)
  unfold kI at this
  rw[hd,if_neg (by simp)]at this
  exact this
 clear hu hd
 obtain⟨ut,⟨u0,u1,u2,u3⟩⟩:=u
 obtain⟨p0,p1,p2,p3⟩:=p
 have hsv:(Pm.swap 0 0).val= .agg #[O U 0,O U 1,O U 2,O U 3]:=rfl
 rw[hsv]at hsw hac
 unfold Fc.val at hac
 refine W.seq (W.g ?_ (by simp[go_sem,Fc.val];rfl))
 refine W.seq (W.drawnBy (fun i=>i==2||i==3) follows (by decide+kernel) (Dl.s ?_))
 refine Dl.t (Sc b57 (hsw _)) ?_
 simp only at hneg
 simp only[hneg,if_false]at hac
 ·refine Dl.s ?_
  refine Dl.t (Sc b58 (hac _)) ?_
  refine Dl.s (Dl.nil ?_)
  refine W.seq (W.g ?_ (by simp[go_sem,bs97_2];rfl))
  refine W.seq (W.region (Wl.s ?_))
  exact Wl.p (Sc b59 (hdf _)) (Ends.DL (P:=Try.prog) (fn:=Try.f35) (a:=[]) rfl)
theorem DG(H:AH)(n:Nat)(s:Value)(g:List Row)(hc:aj H n 0=some s)(hs:SlG H s g)(t:Nat)(p:Pm)(ht:t<g.length)(hp:p.inside)(u:Fc)(hu:u=ew g ⟨t,p⟩ 0 (Pm.swap 0 0))(hneg:u.t<0):
 AC Try.prog 35 [.pointer (some ⟨n,0,none⟩),Fc.val ⟨t,p⟩] H (.pan (bf 5) H):=by
 refine AC.o 67 f35 fun σ w hr=> ?_
 have hsw: ∀H,AC Try.prog 57 [O U 0,O U 0] H (.val (Pm.swap 0 0).val H):=fun H=>nR H 0 0 ⟨by omega,by omega⟩ ⟨by omega,by omega⟩
 have hac: ∀X,AC Try.prog 58 [.pointer (some ⟨n,0,none⟩),Fc.val ⟨t,p⟩,O U 0,(Pm.swap 0 0).val] (H++X) (.pan (bf 5) (H++X)):=by
  intro X
  have:=nZ (H++X) n s g (aw hc) hs.app t p 0 (Pm.swap 0 0) ht hp ⟨by omega,by omega⟩ (Pm.DI (p:=Pm.swap 0 0) rfl)
  unfold nV at this
  rw[if_pos (by rw[hu]at hneg;exact hneg)]at this
  exact this
 clear hu hneg
 obtain⟨p0,p1,p2,p3⟩:=p
 have hsv:(Pm.swap 0 0).val= .agg #[O U 0,O U 1,O U 2,O U 3]:=rfl
 rw[hsv]at hsw hac
 unfold Fc.val at hac
 refine W.seq (W.g ?_ (by simp[go_sem,Fc.val];rfl))
 refine W.seq (W.drawnPartBy [0,1,2,4,3] (fun i=>i==2||i==4) follows (by decide+kernel) (by decide+kernel) ?_)
 unfold iC
 simp only[Fv,Gy,GQ,GR]
 refine Dl.s ?_
 refine Dl.t (Sc b57 (hsw _)) ?_
 refine Dl.s ?_
 exact Dl.pan (by simp[go_sem]) (Sc b58 (hac _)) rfl (Ends.DL (P:=Try.prog) (fn:=Try.f35) (a:=[]) rfl)
def acr(g:List Row)(x:Fc)(l:Int)(by':Pm):Option Fc:=if(ew g x l by').t<0 then none else some (ew g x l by')
def jnd(g:List Row)(x:Fc)(l:Int)(y:Fc)(by':Pm):Bool:=(az g x.t.toNat (x.p.at l).toNat).eq ⟨y.t,y.p.times (by'.times x.p.undo)⟩
structure fi(g:List Row)(x:Fc):Prop where
 lo:0<=x.t
 hi:x.t<g.length
 ok:x.p.ok=true
theorem fi.nat{g:List Row}{x:Fc}(h:fi g x): ∃t:Nat,x.t=t/\t<g.length:=⟨x.t.toNat,by have:=h.lo;omega,by have:=h.lo;have:=h.hi;omega⟩
theorem fi.face{g:List Row}(hg:VG g){x:Fc}(h:fi g x){l:Int}(hl:In4 l):az g x.t.toNat (x.p.at l).toNat=kD\/FOk g x.t.toNat (x.p.at l) (az g x.t.toNat (x.p.at l).toNat):=by
 have h1:=h.lo
 have h2:=h.hi
 have h3:=Pm.at4 h.ok hl
 have h4:(((x.p.at l).toNat:Nat):Int)=x.p.at l:=by have:=h3.1;omega
 have:=hg x.t.toNat (by omega) (x.p.at l).toNat (by have:=h3.1;have:=h3.2;omega)
 rw[h4]at this
 exact this
theorem vd{g:List Row}(hg:VG g){x y:Fc}(hx:fi g x){l:Int}(hl:In4 l){by':Pm}(hby:by'.ok=true)(h:acr g x l by'=some y):fi g y:=by
 unfold acr at h
 split at h
 ·cases h
 ·rename_i hn
  cases h
  unfold ew at hn⊢
  rcases hx.face hg hl with e|e
  ·exact absurd (show(az g x.t.toNat (x.p.at l).toNat).t<0 by rw[e];decide) hn
  ·exact⟨e.lo,e.hi,Pm.DM e.ok (Pm.DM hx.ok hby)⟩
theorem tU(H:AH)(n:Nat)(s:Value)(g:List Row)(hc:aj H n 0=some s)(hs:SlG H s g)(x:Fc)(hx:fi g x)(l:Int)(hl:In4 l)(by':Pm)(hby:by'.ok=true):
 AC Try.prog 58 [.pointer (some ⟨n,0,none⟩),x.val,O U l,by'.val] H (match acr g x l by' with|none=> .pan (bf 5) H|some y=> .val y.val H):=by
 obtain⟨t,ht,htl⟩:=hx.nat
 obtain⟨xt,p⟩:=x
 simp only at ht
 subst ht
 have:=nZ H n s g hc hs t p l by' htl (Pm.DI hx.ok) ⟨hl.1,by have:=hl.2;omega⟩ (Pm.DI hby)
 unfold nV at this
 unfold acr
 by_cases hn:(az g t (p.at l).toNat).t<0
 ·have hn':(ew g ⟨t,p⟩ l by').t<0:=hn
  rw[if_pos hn]at this;rw[if_pos hn'];exact this
 ·have hn': ¬(ew g ⟨t,p⟩ l by').t<0:=hn
  rw[if_neg hn]at this;rw[if_neg hn'];exact this
theorem tS(H:AH)(n:Nat)(s:Value)(g:List Row)(hc:aj H n 0=some s)(hs:SlG H s g)(x:Fc)(hx:fi g x)(l:Int)(hl:In4 l)(y:Fc)(by':Pm)(hby:by'.ok=true):
 AC Try.prog 60 [.pointer (some ⟨n,0,none⟩),x.val,O U l,y.val,by'.val] H (kI H (jnd g x l y by')):=by
 obtain⟨t,ht,htl⟩:=hx.nat
 obtain⟨xt,p⟩:=x
 simp only at ht
 subst ht
 exact Cb H n s g hc hs t p l y.t y.p by' htl (Pm.DI hx.ok) ⟨hl.1,by have:=hl.2;omega⟩ (Pm.DI hby)
theorem und97:Try.prog.underlying 97=some (.slice 103):=by kernel_rfl
theorem info103:Try.prog.info? 103=some Try.t103:=by kernel_rfl
theorem Ct:Try.t103.bytes=40:=rfl
theorem CD(g h:List Fc):eI (g++h)=eI g++eI h:=by simp[eI]
theorem n0: ∀g:List Fc,(eI g).length=g.length*5
 | []=>rfl
 |r::g=>by
  have:=n0 g
  simp only[eI,FG,Ez,List.length_cons]at this⊢
  rw[this];show 5+_=_;omega
theorem app97{H G:AH}{v:Value}{len:Nat}{cont:List Value}{a b c d e:Int}(hl:len<1000000)(hg:bA G H.length 103 5 v len cont):
 ∃G',bD Try.prog (H++(G++[.cells [O U a,O U b,O U c,O U d,O U e] 103])) #[97,97] v (.slice (some ⟨H.length+G.length,0,none⟩) 1 1)=some (.slice (some ⟨H.length+(G.length+1),0,none⟩) (len+1) (unk+5),H++G')/\bA G' H.length 103 5 (.slice (some ⟨H.length+(G.length+1),0,none⟩) (len+1) (unk+5)) (len+1) (cont++[O U a,O U b,O U c,O U d,O U e])/\G'.length=G.length+2/\(∀j,j<G.length->bA.DJ H.length v j->at_ G' j=at_ G j):=by
 obtain⟨v',G',h1,h2,h3,h4,_,_,rfl,_⟩:=bA.append (P:=Try.prog) (H:=H) (G:=G) (v:=v) (cont:=cont) (e:=103) (ts:= #[97,97]) (t:=97) (el:=[O U a,O U b,O U c,O U d,O U e]) (it:=Try.t103) (z:= .agg #[O U 0,O U 0,O U 0,O U 0,O U 0]) (by simp[und97]) info103 rfl rfl (by decide) rfl und97 (fun _ h=>nomatch h) rfl rfl (by rw[Ct];omega) (by omega) hg
 exact⟨G',h1,h2,h3,h4⟩
theorem dv{b i j len C:Nat}(h:i≠j):bA.DJ b (.slice (some ⟨b+i,0,none⟩) len C) j:=by
 intro len C he
 simp only[Fw,ER,F3]at he
 omega
structure PlS(H G:AH)(i:Nat)(C:Nat)(aC:Int)(outs:List Fc):Prop where
 a1:at_ G 1= .cells [.slice none 0 0,O U 0,.slice none 0 0,.slice none 0 0] 101
 a3:at_ G 3= .cells [.slice (some ⟨H.length+i,0,none⟩) outs.length C,O U aC,.slice none 0 0,.slice none 0 0] 101
 li:i<G.length
 ai:at_ G i= .cells (eI outs) 103
 ci:(C=outs.length/\outs.length<unk)\/C=unk+5
 n1:i≠1
 n3:i≠3
 l3:3<G.length
theorem PlS.grow{H G:AH}{i C:Nat}{aC:Int}{outs:List Fc}(h:PlS H G i C aC outs):bA G H.length 103 5 (.slice (some ⟨H.length+i,0,none⟩) outs.length C) outs.length (eI outs):=
 .inr ⟨i,C,rfl,h.li,h.ai,n0 _,h.ci⟩
theorem PlS.r3{H G:AH}{i C:Nat}{aC:Int}{outs:List Fc}(h:PlS H G i C aC outs):aj G 3 0=some (.slice (some ⟨H.length+i,0,none⟩) outs.length C):=by
 rw[ah,h.a3];rfl
theorem PlS.rout{H G:AH}{i C:Nat}{aC:Int}{outs:List Fc}(h:PlS H G i C aC outs):ak G i 0 (outs.length*5)=some (eI outs):=ao h.ai (n0 _).symm
theorem PlS.rel{H G:AH}{i C:Nat}{aC:Int}{outs:List Fc}(h:PlS H G i C aC outs){j:Nat}{x:Fc}(hx:outs[j]? =some x):ak G i (j*5) 5=some x.cells:=by
 have hj:j<outs.length:=(Ey.1 hx).1
 obtain⟨y,hy,h5,_⟩:=jH h.rout hj
 rw[hx]at hy;cases hy
 rw[EU]at h5;exact h5
theorem PlS.more{H G G':AH}{i C:Nat}{aC:Int}{outs:List Fc}{y:Fc}(h:PlS H G i C aC outs)(hg:bA G' H.length 103 5 (.slice (some ⟨H.length+(G.length+1),0,none⟩) (outs.length+1) (unk+5)) (outs.length+1) (eI outs++y.cells))(hl:G'.length=G.length+2)(hk: ∀j,j<G.length->bA.DJ H.length (.slice (some ⟨H.length+i,0,none⟩) outs.length C) j->at_ G' j=at_ G j):
 at_ G' 3= .cells [.slice (some ⟨H.length+i,0,none⟩) outs.length C,O U aC,.slice none 0 0,.slice none 0 0] 101/\PlS H (G'.set 3 (.cells [.slice (some ⟨H.length+(G.length+1),0,none⟩) (outs.length+1) (unk+5),O U aC,.slice none 0 0,.slice none 0 0] 101)) (G.length+1) (unk+5) aC (outs++[y]):=by
 have h3:=h.l3
 refine⟨by rw[hk 3 h3 (dv h.n3)];exact h.a3,?_⟩
 refine⟨?_,?_,by simp;omega,?_,.inr rfl,by omega,by omega,by simp;omega⟩
 ·rw[af (by omega),hk 1 (by omega) (dv h.n1)];exact h.a1
 ·rw[au (by omega),Ez];rfl
 ·rw[af (by omega)]
  rcases hg with ⟨h,_⟩|⟨i',C',h1,h2,h3,h4,_⟩
  ·cases h
  ·simp only[Fw,ER,F3]at h1
   have:i'=G.length+1:=by omega
   subst this
   rw[h3,CD];simp[eI]
def vG(H:AH)(o:Option (List Fc))(aC:Int)(outers:List Ou)(inners:List Nn)(r:OpR):Prop:=match o with
 |none=>r= .pan (bf 5) H
 |some out=> ∃v X,r= .val v (H++X)/\uC (H++X) v out aC outers inners
def ma(g:List Row)(x:Fc):Nat->Option (List Fc)
 | 0=>some [x]
 |j+1=>(ma g x j).bind fun l=>(l[j]?).bind fun y=>(acr g y 2 (.swap 2 3)).map fun z=>l++[z]
def jn(g:List Row)(x:Fc):Option (List Fc):=(ma g x 2).bind fun l=>if pk l&&(match l with| [a,_,c]=>jnd g c 2 a (.swap 2 3)|_=>false)then some l else none
theorem rC{g:List Row}{x:Fc}: ∀{j:Nat} {l:List Fc},ma g x j=some l->l.length=j+1
 | 0,l,h=>by cases h;rfl
 |j+1,l,h=>by
  simp only[ma,EN,EB]at h
  obtain⟨l',h1,y,_,z,_,rfl⟩:=h
  rw[Ez,rC h1];rfl
theorem zn{g:List Row}(hg:VG g){x:Fc}(hx:fi g x): ∀{j:Nat} {l:List Fc},ma g x j=some l-> ∀y∈l,fi g y
 | 0,l,h=>by cases h;intro y hy;simp at hy;subst hy;exact hx
 |j+1,l,h=>by
  simp only[ma,EN,EB]at h
  obtain⟨l',h1,y,hy,z,hz,rfl⟩:=h
  have ih:=zn hg hx h1
  intro u hu
  rw[EY]at hu
  rcases hu with hu|hu
  ·exact ih u hu
  ·simp at hu;subst hu
   exact vd hg (ih y (EE hy)) ⟨by omega,by omega⟩ rfl hz
theorem lower_ok(H:AH)(n:Nat)(s:Value)(g:List Row)(hc:aj H n 0=some s)(hs:SlG H s g)(hg:VG g)(x:Fc)(hx:fi g x):
 ACE Try.prog 36 [.pointer (some ⟨n,0,none⟩),x.val] H (vG H (jn g x) 2 fO jQ):=by
 refine ACE.ofY (N:=75) f36 rfl rfl (EL rfl) ?_
 have hsw: ∀H,AC Try.prog 57 [O U 2,O U 3] H (.val (Pm.swap 2 3).val H):=fun H=>nR H 2 3 ⟨by omega,by omega⟩ ⟨by omega,by omega⟩
 have hsv:(Pm.swap 2 3).val= .agg #[O U 0,O U 1,O U 3,O U 2]:=rfl
 have hac: ∀X y,fi g y->AC Try.prog 58 [.pointer (some ⟨n,0,none⟩),y.val,O U 2,(Pm.swap 2 3).val] (H++X) (match acr g y 2 (.swap 2 3)with|none=> .pan (bf 5) (H++X)|some y=> .val y.val (H++X)):=fun X y hy=>tU (H++X) n s g (aw hc) hs.app y hy 2 ⟨by omega,by omega⟩ _ rfl
 have hjo: ∀X y z,fi g y->AC Try.prog 60 [.pointer (some ⟨n,0,none⟩),y.val,O U 2,z.val,(Pm.swap 2 3).val] (H++X) (kI (H++X) (jnd g y 2 z (.swap 2 3))):=fun X y z hy=>tS (H++X) n s g (aw hc) hs.app y hy 2 ⟨by omega,by omega⟩ z _ rfl
 rw[hsv]at hsw hac hjo
 unfold Fc.val at hac hjo
 refine X.seq (X.g ?_ (by simp[go_sem,Fc.val];rfl))
 refine X.seq (X.g ?_ (by simp[go_sem,uh];rfl))
 refine X.seq (X.seq (X.g ?_))
 refine X.block ?_
 refine X.loop (fun m E h=> ∃j G i C outs,m=2-j/\j<=2/\ae E 0= .pointer (some ⟨n,0,none⟩)/\ae E 4= .pointer (some ⟨H.length+1,0,none⟩)/\ae E 5= .pointer (some ⟨H.length+3,0,none⟩)/\ae E 11=O U (j:Nat)/\h=H++G/\ma g x j=some outs/\PlS H G i C 2 outs/\(j=0\/C=unk+5)) 2
  ⟨0,_,2,1,[x],rfl,by omega,by simp[ae],by simp[ae],by simp[ae],by simp[ae],rfl,rfl,⟨rfl,rfl,by simp,rfl,.inl ⟨rfl,by simp[mK]⟩,by decide,by decide,by simp⟩,.inl rfl⟩ ?_
 rintro m E h ⟨j,G,i,C,outs,rfl,hj,e0,e4,e5,e11,rfl,ho,hp,hC⟩
 have hlen:=rC ho
 have hin:=zn hg hx ho
 by_cases hlt:j<2
 ·have hlt':(j:Int)<2:=by omega
  refine X.seq (X.g ?_ (by simp[go_sem,e11,hlt'];rfl))
  refine X.seq (X.ct (X.skip ?_))
  refine X.seq (X.block ?_)
  refine X.seq (X.g ?_ (by simp[go_sem,e11];rfl))
  obtain⟨y,hy⟩: ∃y,outs[j]? =some y:=⟨_,Ex (show j<outs.length by omega)⟩
  have hyin:=hin y (EE hy)
  have r3:=hp.r3
  have r5:=hp.rel hy
  have hjl:(j:Int)<(outs.length:Int):=by omega
  have hnext:ma g x (j+1)=(acr g y 2 (.swap 2 3)).map fun z=>outs++[z]:=by simp[ma,ho,hy]
  have hacy:=fun X=>hac X y hyin
  obtain⟨yt,⟨y0,y1,y2,y3⟩⟩:=y
  unfold Fc.cells at r5
  cases hz:acr g ⟨yt,⟨y0,y1,y2,y3⟩⟩ 2 (.swap 2 3)with
  |none=>
   rw[hz]at hacy hnext
   have hF:jn g x=none:=by
    have h2:ma g x 2=none:=by
     have:j=0\/j=1:=by omega
     rcases this with rfl|rfl
     ·show(ma g x 1).bind _=none;rw[hnext];rfl
     ·exact hnext
    unfold jn;rw[h2];rfl
   refine X.drawnPartBy [0,1,2,3,4,5,6,7,8,9] (fun i=>i==8||i==9) follows (by decide+kernel) (by decide+kernel) ?_
   unfold iC
   simp only[Fv,Gy,GQ,GR]
   refine Xd.s ?_ (by simp[go_sem,e0,e5,e11,r3,r5,hjl];rfl)
   refine Xd.t (Sc b57 (hsw _)) ?_
   refine Xd.s ?_ (by simp[go_sem,e5];rfl)
   refine Xd.pan (by simp[go_sem]) (Sc b58 (hacy _)) rfl ?_
   exact⟨.pan (bf 5) H,by rw[hF];rfl,Ends.DL (P:=Try.prog) (fn:=Try.f36) (a:=[]) rfl⟩
  |some z=>
   rw[hz]at hacy hnext
   obtain⟨zt,⟨z0,z1,z2,z3⟩⟩:=z
   obtain⟨G',ha,hgr,hl',hk⟩:=app97 (a:=zt) (b:=z0) (c:=z1) (d:=z2) (e:=z3) (by omega) hp.grow
   obtain⟨h3,hp'⟩:=hp.more (y:=⟨zt,⟨z0,z1,z2,z3⟩⟩) hgr hl' hk
   refine X.drawnBy (fun i=>i==8||i==9) follows (by decide+kernel) (Xd.s ?_ (by simp[go_sem,e0,e5,e11,r3,r5,hjl];rfl))
   refine Xd.t (Sc b57 (hsw _)) ?_
   refine Xd.s ?_
   refine Xd.t (Sc b58 (hacy _)) ?_
   have hle:G.length+1<=G'.length:=by omega
   refine Xd.s (Xd.nil ?_) (by simp[go_sem,Fc.val,uh,ha,e5,h3,hle];rfl)
   refine X.g ?_ (by simp[go_sem,e11];rfl)
   have hjj:IntKind.i64.wrap ((j:Int)+1)=((j+1:Nat):Int):=aA (by omega)
   refine⟨2-(j+1),by omega,j+1,_,G.length+1,unk+5,outs++[⟨zt,⟨z0,z1,z2,z3⟩⟩],rfl,by omega,by simp[ae,e0],by simp[ae,e4],by simp[ae,e5],by simp[ae,hjj],rfl,by rw[hnext];rfl,hp',.inr rfl⟩
 ·have hj2:j=2:=by omega
  subst hj2
  have hlt': ¬((2:Nat):Int)<2:=by omega
  refine X.seq (X.g ?_ (by simp[go_sem,e11];rfl))
  refine X.seq (X.cf (X.exit ?_))
  simp only[AX.then,AX.inBlock,if_true]
  have r3:=hp.r3
  have hdf:=iW (H++G) (H.length+i) 0 C outs (by rw[aF];exact hp.rout) (by omega)
  unfold kI at hdf
  cases hd:pk outs
  ·rw[hd,if_neg (by simp)]at hdf
   have hF:jn g x=none:=by unfold jn;rw[ho,Option.bind_some,hd,G7];rfl
   refine X.seq (X.region (Xl.s ?_ (by simp[go_sem,e5,r3];rfl)))
   refine Xl.p (Sc b59 hdf) ?_
   exact⟨.pan (bf 5) H,by rw[hF];rfl,Ends.DL (P:=Try.prog) (fn:=Try.f36) (a:=[]) rfl⟩
  rw[hd,if_pos rfl]at hdf
  refine X.seq (X.region (Xl.s ?_ (by simp[go_sem,e5,r3];rfl)))
  refine Xl.o (Sc b59 hdf) (Xl.nil ?_)
  obtain⟨a,b,c,rfl⟩: ∃a b c,outs=[a,b,c]:=by
   match outs,hlen with
   | [a,b,c],_=>exact⟨a,b,c,rfl⟩
  have q2:=hp.rel (j:=2) rfl
  have q0:=hp.rel (j:=0) rfl
  have hF:jn g x=if jnd g c 2 a (.swap 2 3)then some [a,b,c]else none:=by unfold jn;rw[ho,Option.bind_some,hd,F0]
  have hjo:=fun X=>hjo X c a (hin c (by simp))
  clear ho hd hdf hin hac hx
  obtain⟨ct,⟨c0,c1,c2,c3⟩⟩:=c
  obtain⟨at',⟨a0,a1,a2,a3⟩⟩:=a
  unfold Fc.cells at q2 q0
  rw[Hu]at q0
  cases hj:jnd g ⟨ct,⟨c0,c1,c2,c3⟩⟩ 2 ⟨at',⟨a0,a1,a2,a3⟩⟩ (.swap 2 3)
  ·rw[hj,if_neg (by simp)]at hF
   rw[hj]at hjo
   refine X.seq (X.drawnBy (fun i=>i==9||i==10) follows (by decide+kernel) (Xd.s ?_ (by simp[go_sem,e0,e5,r3,q2,q0];rfl)))
   refine Xd.t (Sc b57 (hsw _)) ?_
   refine Xd.pan (by simp[go_sem]) (Sc b60 (hjo _)) rfl ?_
   exact⟨.pan (bf 5) H,by rw[hF];rfl,Ends.DL (P:=Try.prog) (fn:=Try.f36) (a:=[]) rfl⟩
  ·rw[hj,if_pos rfl]at hF
   rw[hj]at hjo
   refine X.seq (X.drawnBy (fun i=>i==9||i==10) follows (by decide+kernel) (Xd.s ?_ (by simp[go_sem,e0,e5,r3,q2,q0];rfl)))
   refine Xd.t (Sc b57 (hsw _)) ?_
   refine Xd.t (Sc b60 (hjo _)) (Xd.nil ?_)
   have hC:C=18446744073709551621:=by
    rcases hC with hC|hC
    ·omega
    ·rw[hC,mK]
   subst hC
   refine X.ofW (k:=⟨Try.prog,75,H⟩) ?_ fun K hP hn=>wk (code:=vx) (tp:=5) (H0:=H++G) (r:=H.length+1) (q:=H.length+3) (o:=H.length+i) (L:=3) (cp:=18446744073709551621) (aC:=2) hP hn (by decide) (by simp[ae,aB,e4]) (by simp[ae,aB,e5])
    (by rw[aq];exact hp.a1) (by rw[aq];exact hp.a3) (by have:=hp.n1;omega) (by omega) (by have:=hp.n3;omega) (by have:=hp.li;simp;omega) (by kernel_rfl) CJ C6 rfl rfl
   have hpi:=zd (H0:=H++G) (r:=H.length+1) (q:=H.length+3) (o:=H.length+i) (L:=3) (cp:=18446744073709551621) (aC:=2) (i:=29) (m:=5) (l1:=6) (c1:=18446744073709551624) (l2:=2) (c2:=18446744073709551623) (out:=[⟨at',⟨a0,a1,a2,a3⟩⟩,b,⟨ct,⟨c0,c1,c2,c3⟩⟩]) (outers:=fO) (inners:=jQ)
    (by have:=hp.n1;omega) (by have:=hp.n3;omega) (by have:=hp.li;simp;omega) rfl (by rw[aF];exact hp.rout) rfl rfl rfl rfl
   have hr4:ak (fo (H++G) (H.length+1) (H.length+3) (H.length+i) 3 18446744073709551621 2 29 5 6 18446744073709551624 2 18446744073709551623 (dm fO) (dC jQ)) (H.length+1) 0 4=some [.slice (some ⟨H.length+i,0,none⟩) 3 18446744073709551621,O U 2,.slice (some ⟨(H++G).length+29,0,none⟩) 6 18446744073709551624,.slice (some ⟨(H++G).length+35,0,none⟩) 2 18446744073709551623]:=by
    refine ao (e:=101) ?_ rfl
    unfold fo
    rw[ag (by have:=hp.l3;simp;omega),af (by omega),au (by have:=hp.l3;simp;omega)]
   obtain⟨X,hX⟩: ∃X,fo (H++G) (H.length+1) (H.length+3) (H.length+i) 3 18446744073709551621 2 29 5 6 18446744073709551624 2 18446744073709551623 (dm fO) (dC jQ)=H++X:=by
    unfold fo
    rw[bV,bV,EH]
    exact⟨_,rfl⟩
   refine⟨_,by rw[hF];exact⟨_,X,rfl,by rw[<-hX];exact hpi⟩,_,fun t=> .inr rfl,_,?_,by rw[hX]⟩
   rw[hX]at hr4⊢
   simp[go_sem,hr4]<;>repeat constructor
end Go.Proofs.Ytjcomcgpjjianaa
