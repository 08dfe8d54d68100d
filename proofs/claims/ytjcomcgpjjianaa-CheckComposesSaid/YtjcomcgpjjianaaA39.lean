import Derived.Test.YtjcomcgpjjianaaA19
import Derived.Test.YtjcomcgpjjianaaA38
set_option linter.all false
set_option maxHeartbeats 16000000
set_option maxRecDepth 8000
open Go.Value renaming int→O
open Go.IntKind renaming i64→U
namespace Go.Proofs.Ytjcomcgpjjianaa
open Go.Ev
structure PlG(g:List Row)(out:List Fc)(aC:Nat)(os:List Ou)(ns:List Nn):Prop where
 p0:Pl0 out.length aC os ns
 inn: ∀y∈out,fi g y
 dif: ∀(i j:Nat) (y z:Fc),out[i]? =some y->out[j]? =some z->y.t=z.t->i=j
 closed: ∀(i:Nat) (y:Fc),out[i]? =some y-> ∀l:Int,In4 l->(∀o∈os,¬(o.od=i/\o.lb=l))-> ∃(i':Nat) (z:Fc) (l':Int),out[i']? =some z/\In4 l'/\(∀o∈os,¬(o.od=i'/\o.lb=l'))/\(az g y.t.toNat (y.p.at l).toNat).t=z.t/\(az g y.t.toNat (y.p.at l).toNat).p.at (y.p.at l)=z.p.at l'
theorem oP{out:List Fc}{t:Int}{i:Nat}(h:cm out t=some i): ∃z,out[i]? =some z/\z.t=t:=by
 unfold cm at h
 rw[Gu]at h
 obtain⟨h1,h2,_⟩:=h
 exact⟨out[i],Ex h1,by simpa using h2⟩
theorem jl{out:List Fc}{t:Int}(h:cm out t=none): ∀y∈out,y.t≠t:=by
 unfold cm at h
 rw[Gt]at h
 intro y hy e
 have:=h y hy
 simp[e]at this
section
variable {g:List Row}{out:List Fc}{aC:Nat}{os:List Ou}{ns:List Nn}
theorem PlG.gone(h:PlG g out aC os ns){i:Nat}{z:Fc}(hz:out[i]? =some z):cm out z.t=some i:=by
 cases e:cm out z.t with
 |none=>exact absurd rfl (jl e z (EE hz))
 |some j=>
  obtain⟨y,hy,ht⟩:=oP e
  rw[h.dif j i y z hy hz ht]
theorem PlG.target(hg:VG g)(h:PlG g out aC os ns){t:Nat}{f:Int}{x z:Fc}{i:Nat}(hf:In4 f)(hx:FOk g t f x)(hz:out[i]? =some z)(hxz:x.t=z.t)(hno: ∀(i':Nat) (z':Fc) (l':Int),out[i']? =some z'->In4 l'->(t:Int)=z'.t->f=z'.p.at l'-> ∃o∈os,o.od=i'/\o.lb=l'): ∃u∈os,u.od=i/\u.lb=z.p.undo.at (x.p.at f):=by
 have hzi:=h.inn z (EE hz)
 have hxf:=Pm.at4 hx.ok hf
 have hl:=Pm.at4 (Pm.DN hzi.ok) hxf
 apply Fs
 intro hc
 obtain⟨i',z',l',h1,h2,h3,h4,h5⟩:=h.closed i z hz _ hl fun o ho hh=>hc ⟨o,ho,hh⟩
 rw[Pm.DU hzi.ok hxf,<-hxz,hx.back]at h4 h5
 simp only at h4 h5
 rw[Pm.DR hx.ok hf]at h5
 obtain⟨o,ho,ho'⟩:=hno i' z' l' h1 h2 h4 h5
 exact h3 o ho ho'
theorem idxO_of{i l:Int}{u:Ou}(hu:u∈os)(h1:u.od=i)(h2:u.lb=l)(huni: ∀o∈os,∀p∈os,o.od=p.od->o.lb=p.lb->o=p):0<=oX os i l/\oX os i l<os.length/\os[(oX os i l).toNat]? =some u:=by
 unfold oX
 cases e:os.findIdx? (isO i l)with
 |none=>
  rw[Gt]at e
  have:=e u hu
  simp[isO,h1,h2]at this
 |some k=>
  rw[Gu]at e
  obtain⟨k1,k2,_⟩:=e
  have hk:os[k]=u:=by
   have hm:os[k]∈os:=FE k1
   simp only[isO,EC,beq_iff_eq]at k2
   exact huni _ hm _ hu (k2.1.trans h1.symm) (k2.2.trans h2.symm)
  refine⟨by simp only;omega,by simp only;omega,?_⟩
  simp only[Int.toNat_natCast]
  rw[Ex k1,hk]
inductive OutC(g:List Row)(out:List Fc)(os:List Ou)(first:Nat)(o:Ou)(y:Fc):Prop
 |fin (h:bw g y o=kD) (w:mL g out os first o=[(first+o.nw.toNat,o.fc.toNat,kD)])
 |kept (h:FOk g y.t.toNat (y.p.at o.lb) (bw g y o)) (k:cm out (bw g y o).t=none)
  (w:mL g out os first o=[(first+o.nw.toNat,o.fc.toNat,⟨mu out (bw g y o).t.toNat,oBy g y o⟩),((mu out (bw g y o).t.toNat).toNat,((oBy g y o).at o.fc).toNat,⟨first+o.nw,(oBy g y o).undo⟩)])
 |gone (h:FOk g y.t.toNat (y.p.at o.lb) (bw g y o)) (i:Nat) (z:Fc) (u:Ou) (k:cm out (bw g y o).t=some i) (hz:out[i]? =some z) (ht:z.t=(bw g y o).t) (hu:u∈os) (h1:u.od=i) (h2:u.lb=z.p.undo.at ((oBy g y o).at o.fc))
  (k0:0<=oX os i (z.p.undo.at ((oBy g y o).at o.fc))/\oX os i (z.p.undo.at ((oBy g y o).at o.fc))<os.length) (ku:os[(oX os i (z.p.undo.at ((oBy g y o).at o.fc))).toNat]? =some u)
  (w:mL g out os first o=[(first+o.nw.toNat,o.fc.toNat,⟨first+u.nw,u.by'.undo.times (z.p.undo.times (oBy g y o))⟩)])
theorem PlG.oBy_at(h:PlG g out aC os ns){o:Ou}(ho:o∈os)(y:Fc):(oBy g y o).at o.fc=(bw g y o).p.at (y.p.at o.lb):=by
 obtain⟨_,h2,_,h4,_,_⟩:=h.p0.o o ho
 have h4':In4 o.fc:=⟨h4.1,by omega⟩
 unfold oBy
 rw[Pm.DK _ _ h4',Pm.DK _ _ h4',h2]
theorem PlG.outC(hg:VG g)(h:PlG g out aC os ns)(first:Nat){o:Ou}(ho:o∈os): ∃y,out[o.od.toNat]? =some y/\fi g y/\OutC g out os first o y:=by
 obtain⟨h1,h2,h3,h4,h5,h6⟩:=h.p0.o o ho
 have hy:out[o.od.toNat]? =some (out[o.od.toNat]'(by omega)):=Ex (by omega)
 generalize out[o.od.toNat]'(by omega)=y at hy
 have hyi:=h.inn y (EE hy)
 have hlb:In4 o.lb:=⟨h6.1,by omega⟩
 refine⟨y,hy,hyi,?_⟩
 have hf:=hyi.face hg hlb
 have hfa:az g y.t.toNat (y.p.at o.lb).toNat=bw g y o:=rfl
 rw[hfa]at hf
 rcases hf with hf|hf
 ·refine .fin hf ?_
  unfold mL
  rw[hy]
  simp only
  rw[hf,if_pos (by decide)]
 ·have hlo:=hf.lo
  have hn: ¬(bw g y o).t<0:=by omega
  cases hgo:cm out (bw g y o).t with
  |none=>
   refine .kept hf hgo ?_
   unfold mL
   rw[hy]
   simp only
   rw[if_neg hn,hgo]
  |some i=>
   obtain⟨z,hz,hzt⟩:=oP hgo
   have hyt:((y.t.toNat:Nat):Int)=y.t:=by have:=hyi.lo;omega
   obtain⟨u,hu,e1,e2⟩:=h.target hg (Pm.at4 hyi.ok hlb) hf hz hzt.symm fun i' z' l' a b c d=>by
    rw[hyt]at c
    have:=h.dif _ _ y z' hy a c
    subst this
    rw[hy]at a
    cases a
    have:=Pm.inj hyi.ok hlb b d
    exact⟨o,ho,by omega,this⟩
   rw[<-h.oBy_at ho y]at e2
   obtain⟨q1,q2,q3⟩:=idxO_of hu e1 e2 h.p0.u2
   refine .gone hf i z u hgo hz hzt hu e1 e2 ⟨q1,q2⟩ q3 ?_
   unfold mL
   rw[hy]
   simp only
   rw[if_neg hn,hgo]
   simp only
   rw[hz]
   simp only
   rw[q3]
theorem PlG.oBy_ok(h:PlG g out aC os ns){o:Ou}(ho:o∈os){y:Fc}(hy:fi g y){t:Nat}{f:Int}(hx:FOk g t f (bw g y o)):(oBy g y o).ok=true:=Pm.DM hx.ok (Pm.DM hy.ok (h.p0.o o ho).1)
theorem PlG.range(hg:VG g)(h:PlG g out aC os ns): ∀w∈allW g out os ns,w.1<(kZ g out aC).length/\w.2.1<4:=by
 intro w hw
 rw[uB]
 unfold allW at hw
 rw[EY]at hw
 rcases hw with hw|hw
 ·obtain⟨x,hx,rfl⟩:=E9.1 hw
  obtain⟨_,h2,h3,_⟩:=h.p0.i x hx
  exact⟨by simp only[tD];omega,by simp only[tD];omega⟩
 ·obtain⟨o,ho,hw⟩:=Fi.1 hw
  obtain⟨_,_,h3,h4,_,_⟩:=h.p0.o o ho
  obtain⟨y,hy,hyi,hc⟩:=h.outC hg (aG out g.length) ho
  cases hc with
  |fin _ w'=>
   rw[w']at hw;simp at hw;subst hw
   exact⟨by simp only;omega,by simp only;omega⟩
  |kept hf k w'=>
   rw[w']at hw;simp at hw
   rcases hw with rfl|rfl
   ·exact⟨by simp only;omega,by simp only;omega⟩
   ·have h6:=Pm.at4 (h.oBy_ok ho hyi hf) (i:=o.fc) ⟨h4.1,by omega⟩
    have hhi:=hf.hi
    have hlo:=hf.lo
    have e:(((bw g y o).t.toNat:Nat):Int)=(bw g y o).t:=by omega
    have hk:cm out (((bw g y o).t.toNat:Nat):Int)=none:=by rw[e];exact k
    have:=eL (u:=g.length) (by omega) hk
    refine⟨?_,by simp only;have:=h6.2;have:=h6.1;omega⟩
    simp only[mu,hk,Option.isSome_none,EO,if_false,Int.toNat_natCast]
    omega
  |gone _ i z u _ _ _ _ _ _ _ _ w'=>
   rw[w']at hw;simp at hw;subst hw
   exact⟨by simp only;omega,by simp only;omega⟩
theorem PlG.keptW(hg:VG g)(h:PlG g out aC os ns){w:Wr}(hw:w∈allW g out os ns){t f:Nat}(ht:t<g.length)(hk:cm out t=none)(hf:f<4)(e1:w.1=aG out t)(e2:w.2.1=f):
 ∃o∈os,∃y,out[o.od.toNat]? =some y/\fi g y/\FOk g y.t.toNat (y.p.at o.lb) (bw g y o)/\(bw g y o).t=t/\(oBy g y o).at o.fc=f/\w.2.2=⟨aG out g.length+o.nw,(oBy g y o).undo⟩:=by
 have hlt:=eL ht hk
 unfold allW at hw
 rw[EY]at hw
 rcases hw with hw|hw
 ·obtain⟨x,hx,rfl⟩:=E9.1 hw
  simp only[tD]at e1;omega
 ·obtain⟨o,ho,hw⟩:=Fi.1 hw
  obtain⟨y,hy,hyi,hc⟩:=h.outC hg (aG out g.length) ho
  cases hc with
  |fin _ w'=>
   rw[w']at hw;simp at hw;subst hw
   simp only at e1;omega
  |gone _ i z u _ _ _ _ _ _ _ _ w'=>
   rw[w']at hw;simp at hw;subst hw
   simp only at e1;omega
  |kept hfo k w'=>
   rw[w']at hw;simp at hw
   rcases hw with rfl|rfl
   ·simp only at e1;omega
   ·obtain⟨_,_,_,h4,_,_⟩:=h.p0.o o ho
    have h6:=Pm.at4 (h.oBy_ok ho hyi hfo) (i:=o.fc) ⟨h4.1,by omega⟩
    have hlo:=hfo.lo
    have e:(((bw g y o).t.toNat:Nat):Int)=(bw g y o).t:=by omega
    have hk':cm out (((bw g y o).t.toNat:Nat):Int)=none:=by rw[e];exact k
    simp only[mu,hk',Option.isSome_none,EO,if_false,Int.toNat_natCast]at e1 e2
    have:=vN hk' hk e1
    exact⟨o,ho,y,hy,hyi,hfo,by omega,by have:=h6.1;omega,rfl⟩
theorem PlG.newW(hg:VG g)(h:PlG g out aC os ns){w:Wr}(hw:w∈allW g out os ns){j f:Nat}(e1:w.1=aG out g.length+j)(e2:w.2.1=f):
 (∃x∈ns,x.a=j/\x.fc=f/\w.2.2=⟨aG out g.length+x.b,x.by'⟩)\/ ∃o∈os,o.nw=j/\o.fc=f/\ ∃y,out[o.od.toNat]? =some y/\fi g y/\ ∃v,w.2.2=v/\(mL g out os (aG out g.length) o).head?=some (aG out g.length+j,f,v):=by
 unfold allW at hw
 rw[EY]at hw
 rcases hw with hw|hw
 ·obtain⟨x,hx,rfl⟩:=E9.1 hw
  obtain⟨_,h2,h3,_⟩:=h.p0.i x hx
  simp only[tD]at e1 e2
  exact .inl ⟨x,hx,by omega,by omega,rfl⟩
 ·obtain⟨o,ho,hw⟩:=Fi.1 hw
  obtain⟨_,_,h3,h4,_,_⟩:=h.p0.o o ho
  obtain⟨y,hy,hyi,hc⟩:=h.outC hg (aG out g.length) ho
  right
  cases hc with
  |fin _ w'=>
   rw[w']at hw;simp at hw;subst hw
   simp only at e1 e2
   refine⟨o,ho,by omega,by omega,y,hy,hyi,_,rfl,?_⟩
   rw[w',<-e1,<-e2];rfl
  |gone _ i z u _ _ _ _ _ _ _ _ w'=>
   rw[w']at hw;simp at hw;subst hw
   simp only at e1 e2
   refine⟨o,ho,by omega,by omega,y,hy,hyi,_,rfl,?_⟩
   rw[w',<-e1,<-e2];rfl
  |kept hfo k w'=>
   rw[w']at hw;simp at hw
   rcases hw with rfl|rfl
   ·simp only at e1 e2
    refine⟨o,ho,by omega,by omega,y,hy,hyi,_,rfl,?_⟩
    rw[w',<-e1,<-e2];rfl
   ·have hhi:=hfo.hi
    have hlo:=hfo.lo
    have e:(((bw g y o).t.toNat:Nat):Int)=(bw g y o).t:=by omega
    have hk':cm out (((bw g y o).t.toNat:Nat):Int)=none:=by rw[e];exact k
    have:=eL (u:=g.length) (by omega) hk'
    simp only[mu,hk',Option.isSome_none,EO,if_false,Int.toNat_natCast]at e1
    omega
end
section
variable {g:List Row}{out:List Fc}{aC:Nat}{os:List Ou}{ns:List Nn}
theorem PlG.kept_back(h:PlG g out aC os ns){o:Ou}(ho:o∈os){y:Fc}{t f:Nat}(hfo:FOk g y.t.toNat (y.p.at o.lb) (bw g y o))(e1:(bw g y o).t=t)(e2:(oBy g y o).at o.fc=f):
 az g t f=⟨y.t.toNat,(bw g y o).p.undo⟩:=by
 have hb:=hfo.back
 rw[h.oBy_at ho]at e2
 rw[e1,e2]at hb
 simpa using hb
theorem move_end(hg:VG g)(h:PlG g out aC os ns){t f:Nat}(ht:t<g.length)(hk:cm out t=none)(hf:f<4)(hx:az g t f=kD):az (fN g out aC os ns) (aG out t) f=kD:=by
 unfold fN
 rw[sO _ _ (h.range hg) hf,vU ht hk,hx]
 ·rfl
 ·rintro w hw ⟨e1,e2⟩
  obtain⟨o,ho,y,hy,hyi,hfo,q1,q2,q3⟩:=h.keptW hg hw ht hk hf e1 e2
  have:=h.kept_back ho hfo q1 q2
  rw[hx]at this
  cases this
theorem Cd(hg:VG g)(h:PlG g out aC os ns){t f:Nat}(ht:t<g.length)(hk:cm out t=none)(hf:f<4)(hx:FOk g t f (az g t f))(hk':cm out (az g t f).t=none):
 az (fN g out aC os ns) (aG out t) f=⟨aG out (az g t f).t.toNat,(az g t f).p⟩:=by
 have hlo:=hx.lo
 have e:(((az g t f).t.toNat:Nat):Int)=(az g t f).t:=by omega
 unfold fN
 rw[sO _ _ (h.range hg) hf,vU ht hk]
 ·unfold renT
  rw[if_neg (by omega)]
  unfold mu
  rw[e,hk'];rfl
 ·rintro w hw ⟨e1,e2⟩
  obtain⟨o,ho,y,hy,hyi,hfo,q1,q2,q3⟩:=h.keptW hg hw ht hk hf e1 e2
  have:=h.kept_back ho hfo q1 q2
  rw[this]at hk'
  have hyl:=hyi.lo
  exact jl hk' y (EE hy) (by simp only;omega)
theorem DF(hg:VG g)(h:PlG g out aC os ns){t f:Nat}(ht:t<g.length)(hk:cm out t=none)(hf:f<4)(hx:FOk g t f (az g t f)){i:Nat}(hk':cm out (az g t f).t=some i):
 ∃z u,out[i]? =some z/\z.t=(az g t f).t/\u∈os/\u.od=i/\z.p.at u.lb=(az g t f).p.at f/\az (fN g out aC os ns) (aG out t) f=⟨aG out g.length+u.nw,(u.by'.undo.times (z.p.undo.times (az g t f).p))⟩:=by
 obtain⟨z,hz,hzt⟩:=oP hk'
 have hzi:=h.inn z (EE hz)
 have hf4:In4 (f:Int):=⟨by omega,by omega⟩
 generalize hxx:az g t f=x at hx hk' hzt
 have hxf:=Pm.at4 hx.ok hf4
 obtain⟨u,hu,e1,e2⟩:=h.target hg hf4 hx hz hzt.symm fun i' z' l' a b c d=>absurd (show z'.t=(t:Int)from c.symm) (jl hk z' (EE a))
 have hzl:z.p.at u.lb=x.p.at f:=by rw[e2,Pm.DU hzi.ok hxf]
 have hof:bw g z u=⟨t,x.p.undo⟩:=by
  unfold bw
  rw[hzl,hzt];exact hx.back
 have hub:(u.by').ok=true:=(h.p0.o u hu).1
 have hval:(oBy g z u).undo=u.by'.undo.times (z.p.undo.times x.p):=by
  unfold oBy
  rw[hof]
  rw[Pm.DQ (Pm.DN hx.ok) (Pm.DM hzi.ok hub),Pm.DQ hzi.ok hub,Pm.D8 hx.ok,Pm.DO (Pm.DN hzi.ok) hx.ok]
 refine⟨z,u,hz,hzt,hu,e1,hzl,?_⟩
 rw[<-hval]
 unfold fN
 refine pH _ _ (h.range hg) hf ?_ ?_
 ·obtain⟨y,hy,hyi,hc⟩:=h.outC hg (aG out g.length) hu
  have hyz:y=z:=by rw[show u.od.toNat=i by omega,hz]at hy;cases hy;rfl
  subst hyz
  cases hc with
  |fin q _=>rw[hof]at q;cases q
  |gone _ j _ _ k _ _ _ _ _ _ _ _=>rw[hof]at k;rw[hk]at k;cases k
  |kept q k w'=>
   refine⟨_,EY.2 (.inr (Fi.2 ⟨u,hu,by rw[w'];exact Gb _ (GY ..)⟩)),?_,?_⟩
   ·rw[hof]
    simp only[Int.toNat_natCast,mu,hk,Option.isSome_none,EO,if_false]
   ·show((oBy g y u).at u.fc).toNat=f
    rw[h.oBy_at hu,hof,hzl]
    show(x.p.undo.at (x.p.at f)).toNat=f
    rw[Pm.DR hx.ok hf4,Int.toNat_natCast]
 ·intro w hw q1 q2
  obtain⟨o,ho,y,hy,hyi,hfo,r1,r2,r3⟩:=h.keptW hg hw ht hk hf q1 q2
  have hb:=h.kept_back ho hfo r1 r2
  rw[hxx]at hb
  have hyl:=hyi.lo
  have hxt:x.t=y.t:=by rw[hb];simp only;omega
  have hoi:=h.dif _ _ y z hy hz (by rw[<-hxt,hzt])
  have hyz:y=z:=by rw[hoi,hz]at hy;cases hy;rfl
  subst hyz
  have hxp:x.p=(bw g y o).p.undo:=by rw[hb]
  obtain⟨_,_,_,h4,h5,h6⟩:=h.p0.o o ho
  have hlb:In4 o.lb:=⟨h6.1,by omega⟩
  have hll:y.p.at o.lb=x.p.at f:=by
   rw[h.oBy_at ho]at r2
   rw[hxp,<-r2,Pm.DR hfo.ok (Pm.at4 hyi.ok hlb)]
  have:o=u:=h.p0.u2 o ho u hu (by rw[e1];omega) (Pm.inj hyi.ok hlb (by rw[e2];exact Pm.at4 (Pm.DN hzi.ok) hxf) (by rw[hll,hzl]))
  subst this
  exact r3
theorem pw(hg:VG g)(h:PlG g out aC os ns){o:Ou}(ho:o∈os){v:Fc}{r:List Wr}(hv:mL g out os (aG out g.length) o=(aG out g.length+o.nw.toNat,o.fc.toNat,v)::r):
 az (fN g out aC os ns) (aG out g.length+o.nw.toNat) o.fc.toNat=v:=by
 obtain⟨_,_,h3,h4,h5,h6⟩:=h.p0.o o ho
 unfold fN
 refine pH _ _ (h.range hg) (by omega) ⟨_,EY.2 (.inr (Fi.2 ⟨o,ho,by rw[hv];exact GY ..⟩)),rfl,rfl⟩ ?_
 intro w hw q1 q2
 rcases h.newW hg hw q1 q2 with ⟨x,hx,r1,r2,_⟩|⟨p,hp,r1,r2,y,hy,_,u,r3,r4⟩
 ·exact absurd ⟨by omega,by omega⟩ (h.p0.u3 o ho x hx)
 ·obtain⟨_,_,h3',h4',_,_⟩:=h.p0.o p hp
  have:p=o:=h.p0.u1 p hp o ho (by omega) (by omega)
  subst this
  rw[hv]at r4
  simp only[List.head?_cons,ER,Fe]at r4
  rw[r3,<-r4.2.2]
theorem uW(hg:VG g)(h:PlG g out aC os ns){x:Nn}(hx:x∈ns):az (fN g out aC os ns) (aG out g.length+x.a.toNat) x.fc.toNat=⟨aG out g.length+x.b,x.by'⟩:=by
 obtain⟨_,h2,h3,_⟩:=h.p0.i x hx
 unfold fN
 refine pH _ _ (h.range hg) (by omega) ⟨tD (aG out g.length) x,EY.2 (.inl (E9.2 ⟨x,hx,rfl⟩)),rfl,rfl⟩ ?_
 intro w hw q1 q2
 rcases h.newW hg hw q1 q2 with ⟨y,hy,r1,r2,r3⟩|⟨p,hp,r1,r2,_⟩
 ·have:y=x:=h.p0.u4 y hy x hx (by omega) (by omega)
  subst this
  exact r3
 ·exact absurd ⟨by omega,by omega⟩ (h.p0.u3 p hp x hx)
theorem jp(g:List Row)(out:List Fc)(aC:Nat)(os:List Ou)(ns:List Nn):(fN g out aC os ns).length=aG out g.length+aC:=by
 unfold fN;rw[pV,uB]
open Classical in
noncomputable def orgM(g:List Row)(out:List Fc)(os:List Ou)(T f:Nat):Option (Nat×Pm):=if h:T<aG out g.length then some (Classical.choose (gH out g.length T h),.one)
 else match os.find? fun o=>o.nw.toNat+aG out g.length==T&&o.fc.toNat==f with
  |some o=>(out[o.od.toNat]?).map fun y=>(y.t.toNat,y.p.times o.by')
  |none=>none
theorem wS{t f:Nat}(ht:t<g.length)(hk:cm out t=none):orgM g out os (aG out t) f=some (t,.one):=by
 have hlt:=eL ht hk
 unfold orgM
 rw[dif_pos hlt]
 have hs:=Fm (gH out g.length _ hlt)
 rw[vN hs.2.1 hk hs.2.2]
theorem tx(h:PlG g out aC os ns){o:Ou}(ho:o∈os){y:Fc}(hy:out[o.od.toNat]? =some y):orgM g out os (aG out g.length+o.nw.toNat) o.fc.toNat=some (y.t.toNat,y.p.times o.by'):=by
 unfold orgM
 rw[dif_neg (by omega)]
 have hfind:os.find? (fun p=>p.nw.toNat+aG out g.length==aG out g.length+o.nw.toNat&&p.fc.toNat==o.fc.toNat)=some o:=by
  cases e:os.find? (fun p=>p.nw.toNat+aG out g.length==aG out g.length+o.nw.toNat&&p.fc.toNat==o.fc.toNat)with
  |none=>
   rw[List.find?_eq_none]at e
   have:=e o ho
   simp[Gw]at this
  |some p=>
   have h1:=List.mem_of_find?_eq_some e
   have h2:=List.find?_some e
   simp only[EC,beq_iff_eq]at h2
   obtain⟨_,_,h3,h4,_,_⟩:=h.p0.o o ho
   obtain⟨_,_,h3',h4',_,_⟩:=h.p0.o p h1
   rw[h.p0.u1 p h1 o ho (by omega) (by omega)]
 rw[hfind]
 simp only
 rw[hy];rfl
theorem kz(h:PlG g out aC os ns){T f:Nat}{t:Nat}{E:Pm}(ho:orgM g out os T f=some (t,E)):
 (t<g.length/\cm out t=none/\T=aG out t/\E= .one)\/ ∃o∈os,∃y,out[o.od.toNat]? =some y/\T=aG out g.length+o.nw.toNat/\f=o.fc.toNat/\t=y.t.toNat/\E=y.p.times o.by':=by
 unfold orgM at ho
 split at ho
 ·rename_i hlt
  have hs:=Fm (gH out g.length T hlt)
  simp only[ER,Fe]at ho
  rw[ho.1]at hs
  exact .inl ⟨hs.1,hs.2.1,hs.2.2.symm,ho.2.symm⟩
 ·split at ho
  ·rename_i o e
   have h1:=List.mem_of_find?_eq_some e
   have h2:=List.find?_some e
   simp only[EC,beq_iff_eq]at h2
   simp only[EB,Fe]at ho
   obtain⟨y,hy,q1,q2⟩:=ho
   exact .inr ⟨o,h1,y,hy,by omega,by omega,q1.symm,q2.symm⟩
  ·cases ho
theorem Cm(h:PlG g out aC os ns){T f:Nat}(hT:T<(fN g out aC os ns).length)(hf:f<4)(ho:orgM g out os T f=none): ∃x∈ns,T=aG out g.length+x.a.toNat/\f=x.fc.toNat:=by
 rw[jp]at hT
 have hge: ¬T<aG out g.length:=by
  intro hlt
  unfold orgM at ho
  rw[dif_pos hlt]at ho;cases ho
 rcases h.p0.all (T-aG out g.length) (by omega) f hf with ⟨o,hm,q1,q2⟩|⟨x,hm,q1,q2⟩
 ·obtain⟨_,_,h3,h4,h5,h6⟩:=h.p0.o o hm
  have:=tx h hm (Ex (show o.od.toNat<out.length by omega))
  rw[show aG out g.length+o.nw.toNat=T by omega,show o.fc.toNat=f by omega,ho]at this
  cases this
 ·exact⟨x,hm,by omega,by omega⟩
theorem move_vg(hg:VG g)(h:PlG g out aC os ns):VG (fN g out aC os ns):=by
 refine wJ hg (orgM g out os) ?_ ?_ ?_ ?_
 ·intro T hT f hf t E ho
  rcases kz h ho with ⟨h1,_,_,rfl⟩|⟨o,hm,y,hy,_,_,rfl,rfl⟩
  ·exact⟨h1,rfl⟩
  ·have hyi:=h.inn y (EE hy)
   exact⟨by have:=hyi.lo;have:=hyi.hi;omega,Pm.DM hyi.ok (h.p0.o o hm).1⟩
 ·intro T hT f hf T' hT' f' hf' t E E' ho ho' he
  rcases kz h ho with ⟨h1,h2,rfl,rfl⟩|⟨o,hm,y,hy,rfl,rfl,h3,rfl⟩
  ·rcases kz h ho' with ⟨k1,k2,rfl,rfl⟩|⟨p,hp,z,hz,rfl,rfl,k3,rfl⟩
   ·rw[Pm.DV ⟨by omega,by omega⟩,Pm.DV ⟨by omega,by omega⟩]at he
    exact⟨rfl,by omega⟩
   ·have hzi:=h.inn z (EE hz)
    exact absurd (show z.t=(t:Int)by have:=hzi.lo;omega) (jl h2 z (EE hz))
  ·have hyi:=h.inn y (EE hy)
   rcases kz h ho' with ⟨k1,k2,rfl,rfl⟩|⟨p,hp,z,hz,rfl,rfl,k3,rfl⟩
   ·exact absurd (show y.t=(t:Int)by have:=hyi.lo;omega) (jl k2 y (EE hy))
   ·have hzi:=h.inn z (EE hz)
    have hod:=h.dif _ _ y z hy hz (by have:=hyi.lo;have:=hzi.lo;omega)
    have:y=z:=by rw[hod,hz]at hy;cases hy;rfl
    subst this
    obtain⟨_,a2,a3,a4,a5,a6⟩:=h.p0.o o hm
    obtain⟨_,b2,b3,b4,b5,b6⟩:=h.p0.o p hp
    rw[show((o.fc.toNat:Nat):Int)=o.fc by omega,show((p.fc.toNat:Nat):Int)=p.fc by omega,Pm.DK _ _ ⟨a4.1,by omega⟩,Pm.DK _ _ ⟨b4.1,by omega⟩,a2,b2]at he
    have hlb:=Pm.inj hyi.ok ⟨a6.1,by omega⟩ ⟨b6.1,by omega⟩ he
    have:=h.p0.u2 o hm p hp (by omega) hlb
    subst this
    exact⟨rfl,rfl⟩
 ·intro T hT f hf t E ho
  have hf4:In4 (f:Int):=⟨by omega,by omega⟩
  rcases kz h ho with ⟨ht,hk,rfl,rfl⟩|⟨o,hm,y,hy,rfl,rfl,rfl,rfl⟩
  ·rw[Pm.DV hf4,Int.toNat_natCast]
   rcases hg t ht f hf with hx|hx
   ·exact .inl ⟨by rw[move_end hg h ht hk hf hx,hx],hx⟩
   ·right
    have hxf:=Pm.at4 hx.ok hf4
    have hlo:=hx.lo
    have hhi:=hx.hi
    have hne:az g t f≠kD:=by
     intro e
     rw[e]at hlo
     exact absurd (show(0:Int)<= -1 from hlo) (by decide)
    cases hk':cm out (az g t f).t with
    |none=>
     have e:(((az g t f).t.toNat:Nat):Int)=(az g t f).t:=by omega
     have hkn:cm out (((az g t f).t.toNat:Nat):Int)=none:=by rw[e];exact hk'
     have hfn:((((az g t f).p.at f).toNat:Nat):Int)=(az g t f).p.at f:=by have:=hxf.1;omega
     refine⟨aG out (az g t f).t.toNat,((az g t f).p.at f).toNat,.one,?_,by have:=hxf.1;have:=hxf.2;omega,wS (by omega) hkn,by rw[hfn];exact Pm.DV hxf,?_,hne⟩
     ·rw[jp];have:=eL (u:=g.length) (by omega) hkn;omega
     ·rw[Cd hg h ht hk hf hx hk',Pm.D1,show Pm.one.undo=Pm.one from rfl,Pm.D0 hx.ok]
    |some i=>
     obtain⟨z,u,hz,hzt,hu,e1,e2,hface⟩:=DF hg h ht hk hf hx hk'
     have hzi:=h.inn z (EE hz)
     obtain⟨b1,b2,b3,b4,b5,b6⟩:=h.p0.o u hu
     have hoz:out[u.od.toNat]? =some z:=by rw[show u.od.toNat=i by omega];exact hz
     refine⟨aG out g.length+u.nw.toNat,u.fc.toNat,z.p.times u.by',by rw[jp];omega,by omega,by rw[<-hzt];exact tx h hu hoz,?_,?_,hne⟩
     ·rw[show((u.fc.toNat:Nat):Int)=u.fc by omega,Pm.DK _ _ ⟨b4.1,by omega⟩,b2,e2]
     ·rw[hface,Pm.D1,Pm.DQ hzi.ok b1,Pm.DO (Pm.DN hzi.ok) hx.ok]
      congr 1
      omega
  ·obtain⟨a1,a2,a3,a4,a5,a6⟩:=h.p0.o o hm
   have hlb:In4 o.lb:=⟨a6.1,by omega⟩
   have hfc:In4 o.fc:=⟨a4.1,by omega⟩
   obtain⟨y',hy',hyi,hc⟩:=h.outC hg (aG out g.length) hm
   have:y'=y:=by rw[hy]at hy';cases hy';rfl
   subst this
   have hEf:(y'.p.times o.by').at ((o.fc.toNat:Nat):Int)=y'.p.at o.lb:=by rw[show((o.fc.toNat:Nat):Int)=o.fc by omega,Pm.DK _ _ hfc,a2]
   rw[hEf]
   have hof:az g y'.t.toNat (y'.p.at o.lb).toNat=bw g y' o:=rfl
   rw[hof]
   have hEok:(y'.p.times o.by').ok=true:=Pm.DM hyi.ok a1
   have hbf:=h.oBy_at hm y'
   cases hc with
   |fin q w=>exact .inl ⟨by rw[pw hg h hm w,q],q⟩
   |kept q k w=>
    right
    have hlo:=q.lo
    have hhi:=q.hi
    have hne:bw g y' o≠kD:=by
     intro e
     rw[e]at hlo
     exact absurd (show(0:Int)<= -1 from hlo) (by decide)
    have e:(((bw g y' o).t.toNat:Nat):Int)=(bw g y' o).t:=by omega
    have hkn:cm out (((bw g y' o).t.toNat:Nat):Int)=none:=by rw[e];exact k
    have hq4:=Pm.at4 q.ok (Pm.at4 hyi.ok hlb)
    refine⟨aG out (bw g y' o).t.toNat,((bw g y' o).p.at (y'.p.at o.lb)).toNat,.one,?_,by have:=hq4.1;have:=hq4.2;omega,wS (by omega) hkn,?_,?_,hne⟩
    ·rw[jp];have:=eL (u:=g.length) (by omega) hkn;omega
    ·rw[show((((bw g y' o).p.at (y'.p.at o.lb)).toNat:Nat):Int)=(bw g y' o).p.at (y'.p.at o.lb)by have:=hq4.1;omega]
     exact Pm.DV hq4
    ·rw[pw hg h hm w,show Pm.one.undo=Pm.one from rfl,Pm.D0 (Pm.DM q.ok hEok)]
     simp only[mu,hkn,Option.isSome_none,EO,if_false]
     rfl
   |gone q i z u k hz ht hu e1 e2 k0 ku w=>
    right
    have hlo:=q.lo
    have hne:bw g y' o≠kD:=by
     intro e
     rw[e]at hlo
     exact absurd (show(0:Int)<= -1 from hlo) (by decide)
    have hzi:=h.inn z (EE hz)
    obtain⟨b1,b2,b3,b4,b5,b6⟩:=h.p0.o u hu
    have hoz:out[u.od.toNat]? =some z:=by rw[show u.od.toNat=i by omega];exact hz
    refine⟨aG out g.length+u.nw.toNat,u.fc.toNat,z.p.times u.by',by rw[jp];omega,by omega,by rw[<-ht];exact tx h hu hoz,?_,?_,hne⟩
    ·rw[show((u.fc.toNat:Nat):Int)=u.fc by omega,Pm.DK _ _ ⟨b4.1,by omega⟩,b2,e2,hbf]
     exact Pm.DU hzi.ok (Pm.at4 q.ok (Pm.at4 hyi.ok hlb))
    ·rw[pw hg h hm w,Pm.DQ hzi.ok b1,Pm.DO (Pm.DN hzi.ok) (Pm.DM q.ok hEok)]
     show Fc.mk _ _=Fc.mk _ _
     rw[show((aG out g.length+u.nw.toNat:Nat):Int)=(aG out g.length:Int)+u.nw by omega]
     rfl
 ·intro T hT f hf ho
  obtain⟨x,hx,rfl,rfl⟩:=Cm h hT hf ho
  obtain⟨c1,c2,c3,c4,c5,y,hy,d1,d2,d3,d4⟩:=h.p0.i x hx
  have hxe:=uW hg h hx
  have hye:=uW hg h hy
  have hfc:((x.fc.toNat:Nat):Int)=x.fc:=by omega
  rw[hxe]
  refine⟨by simp only;omega,by rw[jp];simp only;omega,c1,?_,?_⟩
  ·rintro⟨q1,q2⟩
   rw[hfc]at q2
   simp only at q1
   exact c5 ⟨by omega,q2⟩
  ·simp only
   rw[hfc,<-d2,<-d1,show((aG out g.length:Int)+y.a).toNat=aG out g.length+y.a.toNat by obtain⟨_,h2,_⟩:=h.p0.i y hy;omega,hye,d3,d4]
   congr 1
   omega
end
theorem tw{out:List Fc}(h:pk out=true)(i j:Nat)(y z:Fc)(hy:out[i]? =some y)(hz:out[j]? =some z)(e:y.t=z.t):i=j:=by
 rw[uj]at h
 have hi:=(Ey.1 hy).1
 have hj:=(Ey.1 hz).1
 have ti:tAt out i=y.t:=by unfold tAt;rw[hy]
 have tj:tAt out j=z.t:=by unfold tAt;rw[hz]
 rcases Ge i j with h1|h1|h1
 ·exact absurd (by rw[ti,tj,e]) (h j hj i h1)
 ·exact h1
 ·exact absurd (by rw[ti,tj,e]) (h i hi j h1)
theorem kK{l:Int}(h:In4 l):l=0\/l=1\/l=2\/l=3:=by have:=h.1;have:=h.2;omega
def Gl(g:List Row)(y:Fc)(l:Int)(z:Fc)(l':Int):Prop:=(az g y.t.toNat (y.p.at l).toNat).t=z.t/\(az g y.t.toNat (y.p.at l).toNat).p.at (y.p.at l)=z.p.at l'
theorem Gl.symm{g:List Row}(hg:VG g){y z:Fc}{l l':Int}(hy:fi g y)(hl:In4 l)(hz:fi g z)(h:Gl g y l z l'):Gl g z l' y l:=by
 obtain⟨h1,h2⟩:=h
 have hylo:=hy.lo
 rcases hy.face hg hl with e|e
 ·rw[e]at h1
  have:=hz.lo
  have h1:(-1:Int)=z.t:=h1
  omega
 ·have hb:=e.back
  rw[h1,h2]at hb
  unfold Gl
  rw[hb,<-h2]
  refine⟨by simp only;omega,?_⟩
  exact Pm.DR e.ok (Pm.at4 hy.ok hl)
theorem Gl.Ee{g:List Row}{y z:Fc}{l l':Int}{b:Pm}(h:acr g y l b=some z)(hl':In4 l')(hb:b.at l'=l)(hb4:In4 l):Gl g y l z l':=by
 unfold acr at h
 split at h
 ·cases h
 ·cases h
  refine⟨rfl,?_⟩
  show _=Pm.at (Pm.times _ (Pm.times _ _)) _
  rw[Pm.DK _ _ hl',Pm.DK _ _ hl',hb]
theorem Gl.Ep{g:List Row}{y z:Fc}{l l':Int}{b:Pm}(hy:fi g y)(hl:In4 l)(h:jnd g y l z b=true)(hb:b.at l=l'):Gl g y l z l':=by
 unfold jnd at h
 rw[Fc.eq_iff]at h
 unfold Gl
 rw[h]
 have h4:=Pm.at4 hy.ok hl
 refine⟨rfl,?_⟩
 show Pm.at (Pm.times _ (Pm.times _ _)) _=_
 rw[Pm.DK _ _ h4,Pm.DK _ _ h4,Pm.DR hy.ok hl,hb]
theorem Dz{g:List Row}{x:Fc}{out:List Fc}(hx:fi g x)(h:qB x=some out):PlG g out 4 fV gT:=by
 unfold qB at h
 split at h
 ·cases h
  refine⟨Cs,?_,?_,?_⟩
  ·intro y hy;simp at hy;subst hy;exact hx
  ·intro i j y z hi hj _
   have:=(Ey.1 hi).1
   have:=(Ey.1 hj).1
   simp at*;omega
  ·intro i y hy l hl hno
   have:=(Ey.1 hy).1
   have hi:i=0:=by simp at this;omega
   subst hi
   have: ∃o∈fV,o.od=0/\o.lb=l:=by
    rcases kK hl with rfl|rfl|rfl|rfl<;>decide
   obtain⟨o,ho,h1⟩:=this
   exact absurd h1 (hno o ho)
 ·cases h
theorem swap_at2{a b:Int}(ha:In4 a)(hb:In4 b):(Pm.swap a b).at b=a:=by
 rcases kK ha with rfl|rfl|rfl|rfl<;>rcases kK hb with rfl|rfl|rfl|rfl<;>rfl
theorem CN{g:List Row}(hg:VG g){x:Fc}{out:List Fc}(hx:fi g x)(h:gJ g x=some out):PlG g out 1 fB []:=by
 unfold gJ at h
 simp only[EN]at h
 obtain⟨l,hl,h⟩:=h
 split at h
 ·rename_i hc
  cases h
  rw[EC]at hc
  obtain⟨hd,hj⟩:=hc
  have hlen:out.length=4:=nQ hl
  have hin:=uo hg hx (EJ _) hl
  refine⟨by rw[hlen];exact Cw,hin,tw hd,?_⟩
  intro i y hy l hl4 hno
  have hi:i<4:=by have:=(Ey.1 hy).1;omega
  obtain⟨q,hq⟩: ∃q:Nat,l=q:=⟨l.toNat,by have:=hl4.1;omega⟩
  subst hq
  have hq4:q<4:=by have:=hl4.2;omega
  have hne:q≠i:=by
   rintro rfl
   have: ∃o∈fB,o.od=(q:Int)/\o.lb=(q:Int):=by
    match q,hq4 with
    | 0,_=>decide
    | 1,_=>decide
    | 2,_=>decide
    | 3,_=>decide
   obtain⟨o,ho,h1⟩:=this
   exact hno o ho h1
  have hjq:=EI.1 (EI.1 hj i (ET.2 hi)) q (ET.2 hq4)
  have hz:out[q]? =some (out[q]'(by omega)):=Ex (by omega)
  generalize out[q]'(by omega)=z at hz
  unfold jOk at hjq
  rw[hy,hz]at hjq
  simp[hne]at hjq
  have hi4:In4 (i:Int):=⟨by omega,by omega⟩
  have hgl:=Gl.Ep (hin y (EE hy)) hl4 hjq (swap_at2 hi4 hl4)
  refine⟨q,z,i,hz,hi4,?_,hgl.1,hgl.2⟩
  intro o ho
  have: ∀o∈fB,o.od=o.lb:=by decide
  have:=this o ho
  omega
 ·cases h
theorem Ca{g:List Row}(hg:VG g){x:Fc}{out:List Fc}(hx:fi g x)(h:rc g x=some out):PlG g out 3 gR lU:=by
 unfold rc at h
 simp only[EN]at h
 obtain⟨u,hu,h⟩:=h
 split at h
 ·rename_i hd
  cases h
  have hui:=vd hg hx ⟨by omega,by omega⟩ rfl hu
  have hg1:Gl g x 0 u 0:=Gl.Ee hu ⟨by omega,by omega⟩ rfl ⟨by omega,by omega⟩
  have hg2:=hg1.symm hg hx ⟨by omega,by omega⟩ hui
  refine⟨Cy,?_,tw hd,?_⟩
  ·intro y hy
   simp at hy
   rcases hy with rfl|rfl
   ·exact hx
   ·exact hui
  ·intro i y hy l hl hno
   have hi:i<2:=(Ey.1 hy).1
   have hl0:l=0:=by
    apply Fs
    intro hne
    have: ∃o∈gR,o.od=(i:Int)/\o.lb=l:=by
     have hl':l=1\/l=2\/l=3:=by rcases kK hl with h|h<;>omega
     have hi':i=0\/i=1:=by omega
     rcases hi' with rfl|rfl<;>rcases hl' with rfl|rfl|rfl<;>decide
    obtain⟨o,ho,h1⟩:=this
    exact hno o ho h1
   subst hl0
   have hfree: ∀i':Nat,∀o∈gR,¬(o.od=(i':Int)/\o.lb=0):=by
    intro i' o ho h1
    have: ∀o∈gR,o.lb≠0:=by decide
    exact this o ho h1.2
   have hi':i=0\/i=1:=by omega
   rcases hi' with rfl|rfl
   ·cases hy
    exact⟨1,u,0,rfl,⟨by omega,by omega⟩,hfree 1,hg1.1,hg1.2⟩
   ·cases hy
    exact⟨0,x,0,rfl,⟨by omega,by omega⟩,hfree 0,hg2.1,hg2.2⟩
 ·cases h
theorem Dy{g:List Row}(hg:VG g){x:Fc}{out:List Fc}(hx:fi g x)(h:jn g x=some out):PlG g out 2 fO jQ:=by
 unfold jn at h
 simp only[EN]at h
 obtain⟨l,hl,h⟩:=h
 simp only[ma,EN,EB,ER]at hl
 obtain⟨l1,⟨l0,rfl,y0,hy0,u,hu,rfl⟩,y1,hy1,v,hv,rfl⟩:=hl
 cases hy0
 cases hy1
 have h:(if(pk [x,u,v]&&jnd g v 2 x (.swap 2 3))=true then some [x,u,v]else none)=some out:=h
 split at h
 ·rename_i hc
  cases h
  rw[EC]at hc
  obtain⟨hd,hj⟩:=hc
  have h2:In4 (2:Int):=⟨by omega,by omega⟩
  have h3:In4 (3:Int):=⟨by omega,by omega⟩
  have hui:=vd hg hx h2 rfl hu
  have hvi:=vd hg hui h2 rfl hv
  have g1:Gl g x 2 u 3:=Gl.Ee hu h3 rfl h2
  have g2:Gl g u 2 v 3:=Gl.Ee hv h3 rfl h2
  have g3:Gl g v 2 x 3:=Gl.Ep hvi h2 hj rfl
  have g1':=g1.symm hg hx h2 hui
  have g2':=g2.symm hg hui h2 hvi
  have g3':=g3.symm hg hvi h2 hx
  refine⟨DH,?_,tw hd,?_⟩
  ·intro y hy
   simp at hy
   rcases hy with rfl|rfl|rfl
   ·exact hx
   ·exact hui
   ·exact hvi
  ·intro i y hy l hl hno
   have hi:i<3:=(Ey.1 hy).1
   have hi':i=0\/i=1\/i=2:=by omega
   have hl0:l=2\/l=3:=by
    apply Fs
    intro hne
    have: ∃o∈fO,o.od=(i:Int)/\o.lb=l:=by
     have hl':l=0\/l=1:=by rcases kK hl with h|h|h<;>omega
     rcases hi' with rfl|rfl|rfl<;>rcases hl' with rfl|rfl<;>decide
    obtain⟨o,ho,h1⟩:=this
    exact hno o ho h1
   have hfree: ∀(i':Nat) (l':Int),l'=2\/l'=3-> ∀o∈fO,¬(o.od=(i':Int)/\o.lb=l'):=by
    intro i' l' hl' o ho h1
    have: ∀o∈fO,o.lb≠2/\o.lb≠3:=by decide
    have:=this o ho
    omega
   rcases hi' with rfl|rfl|rfl<;>rcases hl0 with rfl|rfl<;>cases hy
   ·exact⟨1,u,3,rfl,h3,hfree 1 3 (.inr rfl),g1.1,g1.2⟩
   ·exact⟨2,v,2,rfl,h2,hfree 2 2 (.inl rfl),g3'.1,g3'.2⟩
   ·exact⟨2,v,3,rfl,h3,hfree 2 3 (.inr rfl),g2.1,g2.2⟩
   ·exact⟨0,x,2,rfl,h2,hfree 0 2 (.inl rfl),g1'.1,g1'.2⟩
   ·exact⟨0,x,3,rfl,h3,hfree 0 3 (.inr rfl),g3.1,g3.2⟩
   ·exact⟨1,u,2,rfl,h2,hfree 1 2 (.inl rfl),g2'.1,g2'.2⟩
 ·cases h
theorem wn{g:List Row}(hg:VG g){k:Int}{x:Fc}{out:List Fc}(hx:fi g x)(h:rU g k x=some out):PlG g out (np k).toNat (vA k) (oD k):=by
 unfold rU at h
 unfold np vA oD
 split at h
 ·rename_i e;subst e;exact Dz hx h
 ·split at h
  ·rename_i e;subst e;exact CN hg hx h
  ·split at h
   ·rename_i e;subst e;exact Ca hg hx h
   ·split at h
    ·rename_i e;subst e;exact Dy hg hx h
    ·cases h
def jT(g:List Row)(k t:Int)(p:Pm):Option (List Row):=if(k=1\/k=2\/k=3\/k=4)/\0<=t/\t<g.length/\p.ok=true then
    (rU g k ⟨t,p⟩).bind fun out=>if aG out g.length+(np k).toNat<=1000 then some (fN g out (np k).toNat (vA k) (oD k))else none
 else none
theorem yk{g g':List Row}(hg:VG g){k t:Int}{p:Pm}(h:jT g k t p=some g'):VG g'/\g'.length<=1000:=by
 unfold jT at h
 split at h
 ·rename_i hc
  obtain⟨_,h1,h2,h3⟩:=hc
  simp only[EN]at h
  obtain⟨out,ho,h⟩:=h
  split at h
  ·rename_i hle
   cases h
   exact⟨move_vg hg (wn hg ⟨h1,h2,h3⟩ ho),by rw[jp];exact hle⟩
  ·cases h
 ·cases h
theorem uq: ∀(l:List Row) (t:Nat),(aV l).take (t*20)=aV (l.take t)
 | [],t=>by simp[aV]
 |r::l,0=>by simp[aV]
 |r::l,t+1=>by
  have:=uq l t
  rw[show(t+1)*20=r.cells.length+t*20 by rw[Row.DP];omega]
  show(r.cells++aV l).take _=r.cells++aV (l.take t)
  rw[List.take_append,Ev.GE (by omega),Fa,this]
theorem nh{l:List Row}{t:Nat}{r:Row}(h:l[t]? =some r):aV l=aV (l.take t)++(r.cells++aV (l.drop (t+1))):=by
 rw[<-uq,<-lO l t r h,Hd]
theorem vz{l:List Row}{t:Nat}(r':Row)(ht:t<l.length):aV (l.set t r')=aV (l.take t)++(r'.cells++aV (l.drop (t+1))):=by
 have h:(l.set t r')[t]? =some r':=by rw[Ff,if_pos rfl,if_pos ht]
 rw[nh h,List.take_set_of_le (EJ t),List.drop_set_of_lt (by omega)]
theorem AN(a c:List Value)(i:Nat): ∀l:List Value,setAll (a++c) (a.length+i) l=a++setAll c i l
 | []=>rfl
 |v::l=>by
  show setAll ((a++c).set (a.length+i) v) (a.length+i+1) l=a++setAll (c.set i v) (i+1) l
  rw[F5 _ _ (by omega),Fa,FJ]
  induction l generalizing c v i with
  |nil=>rfl
  |cons u l ih=>
   show setAll ((a++c.set i v).set (a.length+(i+1)) u) (a.length+(i+1)+1) l=a++setAll ((c.set i v).set (i+1) u) (i+1+1) l
   rw[F5 _ _ (by omega),Fa,FJ]
   exact ih (c.set i v) (i+1) u
theorem Row.setAll(r:Row){f:Nat}(hf:f<4)(x:Fc)(c:List Value):Ev.setAll (r.cells++c) (f*5) x.cells=(r.put f x).cells++c:=by
 match f,hf with
 | 0,_=>rfl
 | 1,_=>rfl
 | 2,_=>rfl
 | 3,_=>rfl
theorem jO{l:List Row}{t f:Nat}(ht:t<l.length)(hf:f<4)(x:Fc):setAll (aV l) (t*20+f*5) x.cells=aV (gC l t f x):=by
 have h:=Ex ht
 unfold gC
 rw[h]
 simp only
 rw[vz _ ht,nh h]
 have hl:(aV (l.take t)).length=t*20:=by rw[dp,GN];congr 1;omega
 rw[<-hl,AN,Row.setAll _ hf]
theorem Row.setT(r:Row){f:Nat}(hf:f<4)(v:Int)(c:List Value):(r.cells++c).set (f*5) (O U v)=(r.put f ⟨v,(r.at f).p⟩).cells++c:=by
 match f,hf with
 | 0,_=>rfl
 | 1,_=>rfl
 | 2,_=>rfl
 | 3,_=>rfl
theorem setT_row{l:List Row}{t f:Nat}(ht:t<l.length)(hf:f<4)(v:Int):(aV l).set (t*20+f*5) (O U v)=aV (gC l t f ⟨v,(az l t f).p⟩):=by
 have h:=Ex ht
 unfold gC az
 rw[h]
 simp only
 rw[vz _ ht,nh h]
 have hl:(aV (l.take t)).length=t*20:=by rw[dp,GN];congr 1;omega
 rw[<-hl,F5 _ _ (by omega),Fa,Row.setT _ hf]
theorem AD(H:AH)(r:Row):aQ Try.prog H 22 1 [(0,.agg r.cells.toArray)]=some (.slice (some ⟨H.length,0,none⟩) 1 1,H++[.cells r.cells 52]):=by kernel_rfl
theorem app22{H G:AH}{v:Value}{len:Nat}{cont:List Value}(r:Row)(hl:len<1000000)(hg:bA G H.length 52 20 v len cont):
 ∃G',bD Try.prog (H++(G++[.cells r.cells 52])) #[22,22] v (.slice (some ⟨H.length+G.length,0,none⟩) 1 1)=some (.slice (some ⟨H.length+(G.length+1),0,none⟩) (len+1) (unk+20),H++G')/\bA G' H.length 52 20 (.slice (some ⟨H.length+(G.length+1),0,none⟩) (len+1) (unk+20)) (len+1) (cont++r.cells)/\G'.length=G.length+2/\(∀j,j<G.length->bA.DJ H.length v j->at_ G' j=at_ G j):=by
 obtain⟨v',G',h1,h2,h3,h4,_,_,rfl,_⟩:=bA.append (P:=Try.prog) (H:=H) (G:=G) (v:=v) (cont:=cont) (e:=52) (ts:= #[22,22]) (t:=22) (el:=r.cells) (it:=Try.t52) (z:=dA.val) (by simp[tB]) qW rfl rfl (by decide) rfl tB (fun _ h=>nomatch h) rfl r.one (by rw[mw];omega) (by omega) hg
 exact⟨G',h1,h2,h3,h4⟩
theorem app22z{H G:AH}{v:Value}{l:List Row}{m:Nat}(hm:m≠0)(hm4:m<=4)(hl:l.length<1000000)(hg:bA G H.length 52 20 v l.length (aV l)):
 ∃G',bD Try.prog (H++G) #[22,3] v (O U m)=some (.slice (some ⟨H.length+G.length,0,none⟩) (l.length+m) (unk+20),H++G')/\G'.length=G.length+1/\at_ G' G.length= .cells (aV (l++List.replicate m dA)) 52/\(∀j,j<G.length->bA.DJ H.length v j->at_ G' j=at_ G j):=by
 have hn:aC Try.prog (H++G) Try.t52 (some 3) (O U m)=some (m,aV (List.replicate m dA)):=by
  have n1:aC Try.prog (H++G) Try.t52 (some 3) (O U ((1:Nat):Int))=some (1,aV (List.replicate 1 dA)):=by kernel_rfl
  have n2:aC Try.prog (H++G) Try.t52 (some 3) (O U ((2:Nat):Int))=some (2,aV (List.replicate 2 dA)):=by kernel_rfl
  have n3:aC Try.prog (H++G) Try.t52 (some 3) (O U ((3:Nat):Int))=some (3,aV (List.replicate 3 dA)):=by kernel_rfl
  have n4:aC Try.prog (H++G) Try.t52 (some 3) (O U ((4:Nat):Int))=some (4,aV (List.replicate 4 dA)):=by kernel_rfl
  match m,hm,hm4 with
  | 1,_,_=>exact n1
  | 2,_,_=>exact n2
  | 3,_,_=>exact n3
  | 4,_,_=>exact n4
 have hfl:(H++G).length=H.length+G.length:=Ez
 have h0:(#[22,3]:Array TypeId)[0]?.bind Try.prog.underlying=some (.slice 52):=by simp[tB]
 rcases hg with ⟨rfl,h,_⟩|⟨i,C,rfl,h2,h3,h4,h5⟩
 ·have hl0:l=[]:=Fr.1 h
  subst hl0
  have:=lA (P:=Try.prog) (H:=H++G) (ts:= #[22,3]) (z:=dA.val) h0 qW rfl rfl (by decide) hn (nT _) hm (by rw[mw];omega) (by omega)
  refine⟨G++[.cells (aV (List.replicate m dA)) 52],this.trans ?_,by simp,aL _ _,fun j hj _=>ag hj⟩
  rw[hfl,EH,List.length_nil,EU];rfl
 ·rcases h5 with ⟨rfl,h5⟩|rfl
  ·have hold:ak (H++G) (H.length+i) 0 (l.length*20)=some (aV l):=by
    rw[aF];exact ao h3 h4.symm
   have:=fk (P:=Try.prog) (H:=H++G) (ts:= #[22,3]) (z:=dA.val) h0 qW rfl rfl (by decide) hn (nT _) (by rw[mw];omega) (by omega) h5 (EJ _) (by omega) hold
   refine⟨G++[.cells (aV l++aV (List.replicate m dA)) 52],this.trans ?_,by simp,by rw[nP];exact aL _ _,fun j hj _=>ag hj⟩
   rw[hfl,EH];rfl
  ·have hat:at_ (H++G) (H.length+i)= .cells (aV l) 52:=by rw[aq];exact h3
   have:=lT (P:=Try.prog) (H:=H++G) (ts:= #[22,3]) (z:=dA.val) h0 qW rfl rfl (by decide) hn (nT _) (by rw[mw];omega) (by omega) hat h4
   refine⟨G.set i .dead++[.cells (aV l++aV (List.replicate m dA)) 52],this.trans ?_,by simp,?_,fun j hj ho=> ?_⟩
   ·rw[hfl,bV,EH];rfl
   ·have:=aL (G.set i .dead) (AO.cells (aV l++aV (List.replicate m dA)) 52)
    rw[EA]at this
    rw[nP];exact this
   ·rw[ag (by rw[EA];exact hj)]
    exact af (fun e=>ho l.length _ (by rw[e])) _
def ints(l:List Int):List Value:=l.map (O U ·)
def dN(out:List Fc)(n t:Nat):List Int:=(List.range n).map fun u=>if u<t then mu out u else 0
theorem jj(out:List Fc)(n t:Nat):(dN out n t).length=n:=by simp[dN]
theorem pZ{l:List Int}{k:Nat}{v:Int}(h:l[k]? =some v):(ints l)[k]? =some (O U v):=by simp[ints,h]
theorem nW{out:List Fc}{n t k:Nat}(h:k<n):(dN out n t)[k]? =some (if k<t then mu out k else 0):=by
 unfold dN;rw[EM,EW h];rfl
theorem Bf{out:List Fc}{n t:Nat}(h:(cm out t).isSome=true):dN out n (t+1)=dN out n t:=by
 unfold dN
 refine Hg fun u _=> ?_
 by_cases e:u=t
 ·subst e
  rw[if_pos (by omega),if_neg (by omega)]
  unfold mu;rw[if_pos h]
 ·by_cases e':u<t
  ·rw[if_pos (by omega),if_pos e']
  ·rw[if_neg (by omega),if_neg e']
theorem Ce{out:List Fc}{n t:Nat}(h:(cm out t).isSome=false):(dN out n t).set t (aG out t)=dN out n (t+1):=by
 apply FM
 intro k
 rw[Ff,jj]
 by_cases hk:k<n
 ·rw[nW hk,nW hk]
  by_cases e:t=k
  ·subst e
   rw[if_pos rfl,if_pos hk,if_pos (by omega)]
   unfold mu;rw[h];rfl
  ·rw[if_neg e]
   by_cases e':k<t
   ·rw[if_pos e',if_pos (by omega)]
   ·rw[if_neg e',if_neg (by omega)]
 ·rw[Ev.Fd (by rw[jj];omega),Ev.Fd (by rw[jj];omega)]
  simp;omega
theorem ints_set(l:List Int)(k:Nat)(v:Int):(ints l).set k (O U v)=ints (l.set k v):=by simp[ints,Gz]
def gM:List Fc->Nat->List (Int×Int)
 | [],_=>[]
 |y::r,i=>(y.t,(i:Int))::gM r (i+1)
theorem xq(a:Int): ∀(l:List Fc) (i k:Nat),cE a (gM l i) k=(cm l a).map fun j=>(k+j,((i+j:Nat):Int))
 | [],_,_=>rfl
 |y::l,i,k=>by
  simp only[gM,cE,cm,List.findIdx?_cons]
  by_cases e:y.t=a
  ·simp[e]
  ·have h1:(a==y.t)=false:=by simpa using fun h=>e h.symm
   have h2:(y.t==a)=false:=by simpa using e
   simp only[h1,h2,EO,if_false]
   have:=xq a l (i+1) (k+1)
   rw[this]
   unfold cm
   rw[Option.map_map]
   congr 1
   funext j
   simp only[Function.comp]
   rw[show k+1+j=k+(j+1)by omega,show i+1+j=i+(j+1)by omega]
theorem B7(out:List Fc)(a:Int):look (gM out 0) a=(cm out a).map fun(j:Nat)=>(j:Int):=by
 unfold look
 rw[xq]
 cases cm out a with
 |none=>rfl
 |some j=>simp
theorem gM_app: ∀(l:List Fc) (y:Fc) (i:Nat),gM (l++[y]) i=gM l i++[(y.t,((i+l.length:Nat):Int))]
 | [],_,_=>rfl
 |z::l,y,i=>by
  have:=gM_app l y (i+1)
  simp only[List.cons_append,gM,this,List.length_cons]
  rw[show i+1+l.length=i+(l.length+1)by omega]
theorem gM_put{out:List Fc}(hd: ∀(i j:Nat) (y z:Fc),out[i]? =some y->out[j]? =some z->y.t=z.t->i=j){j:Nat}{y:Fc}(hy:out[j]? =some y):kj (gM (out.take j) 0) y.t j=gM (out.take (j+1)) 0:=by
 have hj:=(Ey.1 hy).1
 have hn:cm (out.take j) y.t=none:=by
  unfold cm
  rw[Gt]
  intro z hz
  obtain⟨k,hk,rfl⟩:=FF hz
  simp at hk
  simp only[List.getElem_take,beq_eq_false_iff_ne]
  intro e
  have:=hd k j out[k] y (Ex (by omega)) hy e
  omega
 unfold kj
 rw[xq,hn]
 simp only[Option.map_none]
 rw[FP,hy]
 show _=gM (out.take j++[y]) 0
 rw[gM_app,GN]
 simp only[List.append_cancel_left_eq,Gc,Fe,and_true,true_and]
 omega
end Go.Proofs.Ytjcomcgpjjianaa
