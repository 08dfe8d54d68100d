import Derived.Test.YtjcomcgpjjianaaA19
import Derived.Test.YtjcomcgpjjianaaA33
import Derived.Test.YtjcomcgpjjianaaA35
import Derived.Test.YtjcomcgpjjianaaA41
set_option linter.all false
set_option maxHeartbeats 16000000
set_option maxRecDepth 8000
open Go.Value renaming int→O
open Go.IntKind renaming i64→U
namespace Go.Proofs.Ytjcomcgpjjianaa
open Go.Ev
def bM(order:List Int)(i:Nat):Nat:=(order.getD i 0).toNat
def bY(perms:List Pm)(i:Nat):Pm:=perms.getD i .one
def eK(order:List Int)(n:Nat):Nat->List Int
 | 0=>List.replicate n 0
 |j+1=>(eK order n j).set (bM order j) j
def ej(order:List Int)(n t:Nat):Nat:=((eK order n n).getD t 0).toNat
def eS(g:List Row)(order:List Int)(perms:List Pm)(i:Nat):Row:=⟨kE g (bM order) (bY perms) (ej order g.length) i 0,kE g (bM order) (bY perms) (ej order g.length) i 1,kE g (bM order) (bY perms) (ej order g.length) i 2,kE g (bM order) (bY perms) (ej order g.length) i 3⟩
def de(g:List Row)(order:List Int)(perms:List Pm):List Row:=(List.range g.length).map (eS g order perms)
def ik(order:List Int)(perms:List Pm)(n:Nat):Bool:=order.length==n&&perms.length==n&&cM order&&perms.all Pm.ok
def kA(g:List Row)(order:List Int)(perms:List Pm):Option (List Row):=if ik order perms g.length=true then some (de g order perms)else none
theorem qZ(g:List Row)(order:List Int)(perms:List Pm)(i:Nat){f:Nat}(hf:f<4):(eS g order perms i).at f=kE g (bM order) (bY perms) (ej order g.length) i f:=by
 match f,hf with
 | 0,_=>rfl
 | 1,_=>rfl
 | 2,_=>rfl
 | 3,_=>rfl
theorem cI(g:List Row)(order:List Int)(perms:List Pm):(de g order perms).length=g.length:=by simp[de]
theorem zN(g:List Row)(order:List Int)(perms:List Pm){i:Nat}(hi:i<g.length):(de g order perms)[i]? =some (eS g order perms i):=by
 unfold de;rw[EM,EW hi];rfl
theorem fT(g:List Row)(order:List Int)(perms:List Pm){i f:Nat}(hi:i<g.length)(hf:f<4):az (de g order perms) i f=kE g (bM order) (bY perms) (ej order g.length) i f:=by
 unfold az;rw[zN g order perms hi];exact qZ g order perms i hf
structure IsO(order:List Int)(perms:List Pm)(n:Nat):Prop where
 lo:order.length=n
 lp:perms.length=n
 lt: ∀i,i<n->bM order i<n
 inj: ∀i j,i<n->j<n->bM order i=bM order j->i=j
 val: ∀i,i<n->order[i]? =some ((bM order i:Nat):Int)
 ok: ∀i,i<n->(bY perms i).ok=true
theorem dF(order:List Int)(perms:List Pm)(n:Nat):ik order perms n=true↔IsO order perms n:=by
 unfold ik
 simp only[EC,beq_iff_eq,er,EI]
 constructor
 ·rintro⟨⟨⟨h1,h2⟩,h3,h4⟩,h5⟩
  have hget: ∀i,i<n-> ∃x,order[i]? =some x/\0<=x/\x<n/\bM order i=x.toNat:=by
   intro i hi
   have hx:order[i]? =some (order[i]'(by omega)):=Ex (by omega)
   have:=h3 _ (EE hx)
   exact⟨_,hx,this.1,by omega,by unfold bM;rw[EF,hx];rfl⟩
  refine⟨h1,h2,fun i hi=> ?_,fun i j hi hj e=> ?_,fun i hi=> ?_,fun i hi=> ?_⟩
  ·obtain⟨x,_,h6,h7,h8⟩:=hget i hi;omega
  ·obtain⟨x,hx,h6,h7,h8⟩:=hget i hi
   obtain⟨y,hy,k6,k7,k8⟩:=hget j hj
   have:x=y:=by omega
   subst this
   exact(Hq (by omega) h4).1 (by rw[hx,hy])
  ·obtain⟨x,hx,h6,h7,h8⟩:=hget i hi
   rw[hx,h8];congr 1;omega
  ·have hx:perms[i]? =some (perms[i]'(by omega)):=Ex (by omega)
   unfold bY
   rw[EF,hx]
   exact h5 _ (EE hx)
 ·intro h
  refine⟨⟨⟨h.lo,h.lp⟩,fun x hx=> ?_,?_⟩,fun p hp=> ?_⟩
  ·obtain⟨i,hi,rfl⟩:=FF hx
   have h1:=h.val i (by rw[<-h.lo];exact hi)
   rw[Ex hi]at h1
   have h1:=Fj h1
   have:=h.lt i (by rw[<-h.lo];exact hi)
   rw[h1,h.lo];omega
  ·refine Ev.GT.2 fun i j hi hj hij e=> ?_
   have h1:=h.val i (by rw[<-h.lo];omega)
   have h2:=h.val j (by rw[<-h.lo];omega)
   rw[Ex hi]at h1
   rw[Ex hj]at h2
   have h1:=Fj h1
   have h2:=Fj h2
   have:=h.inj i j (by rw[<-h.lo];omega) (by rw[<-h.lo];omega) (by omega)
   omega
  ·obtain⟨i,hi,rfl⟩:=FF hp
   have:=h.ok i (by rw[<-h.lp];exact hi)
   unfold bY at this
   rw[EF,Ex hi]at this
   exact this
theorem nG(order:List Int)(n:Nat): ∀j,(eK order n j).length=n
 | 0=>by simp[eK]
 |j+1=>by simp[eK,nG order n j]
theorem IsO.back{order:List Int}{perms:List Pm}{n:Nat}(h:IsO order perms n): ∀{j:Nat},j<=n-> ∀{i:Nat},i<j->(eK order n j)[bM order i]? =some (i:Int)
 | 0,_,i,hi=>by omega
 |j+1,hj,i,hi=>by
  simp only[eK]
  rw[Ff]
  by_cases e:bM order j=bM order i
  ·have:=h.inj j i (by omega) (by omega) e
   subst this
   rw[if_pos rfl,if_pos (by rw[nG];exact h.lt j (by omega))]
  ·rw[if_neg e]
   have:i≠j:=fun e'=>e (by rw[e'])
   exact h.back (by omega) (by omega)
theorem IsO.back_ord{order:List Int}{perms:List Pm}{n:Nat}(h:IsO order perms n){i:Nat}(hi:i<n):ej order n (bM order i)=i:=by
 unfold ej
 rw[EF,h.back (EJ n) hi];rfl
theorem IsO.surj{order:List Int}{perms:List Pm}{n:Nat}(h:IsO order perms n){t:Nat}(ht:t<n): ∃i,i<n/\bM order i=t:=by
 have hn:((List.range n).map (bM order)).Nodup:=jh Gg fun x hx y hy e=>h.inj x y (ET.1 hx) (ET.1 hy) e
 have:=rh (l:=(List.range n).map (bM order)) (m:=List.range n) hn (fun x hx=>by
  obtain⟨i,hi,rfl⟩:=E9.1 hx
  exact ET.2 (h.lt i (ET.1 hi))) (by simp) t (ET.2 ht)
 obtain⟨i,hi,he⟩:=E9.1 this
 exact⟨i,ET.1 hi,he⟩
theorem IsO.ord_back{order:List Int}{perms:List Pm}{n:Nat}(h:IsO order perms n){t:Nat}(ht:t<n):ej order n t<n/\bM order (ej order n t)=t:=by
 obtain⟨i,hi,rfl⟩:=h.surj ht
 rw[h.back_ord hi]
 exact⟨hi,rfl⟩
theorem IsO.vg{g:List Row}(hg:VG g){order:List Int}{perms:List Pm}(h:IsO order perms g.length):VG (de g order perms):=vg_ren hg (cI _ _ _) (fun i hi=>⟨h.lt i hi,h.back_ord hi⟩) (fun t ht=>h.ord_back ht) h.ok fun i hi f hf=>fT g order perms hi hf
theorem wO{l m:List Row}(hl:l.length=m.length)(h: ∀t,t<l.length-> ∀f,f<4->az l t f=az m t f):l=m:=by
 apply Gx hl
 intro t h1 h2
 have h0:=h t h1
 unfold az at h0
 rw[Ex h1,Ex h2]at h0
 have a0:=h0 0 (by omega)
 have a1:=h0 1 (by omega)
 have a2:=h0 2 (by omega)
 have a3:=h0 3 (by omega)
 generalize l[t]=r at*
 generalize m[t]=s at*
 obtain⟨a,b,c,d⟩:=r
 obtain⟨a',b',c',d'⟩:=s
 simp only[Row.at]at a0 a1 a2 a3
 rw[a0,a1,a2,a3]
def gb(n:Nat):List Int:=(List.range n).map fun(i:Nat)=>(i:Int)
theorem id_isO(n:Nat):IsO (gb n) (List.replicate n .one) n:=by
 have ho: ∀i,i<n->bM (gb n) i=i:=by
  intro i hi
  unfold bM gb
  rw[EF,EM,EW hi];simp
 refine⟨by simp[gb],by simp,fun i hi=>by rw[ho i hi];exact hi,fun i j hi hj e=>by rwa [ho i hi,ho j hj]at e,fun i hi=> ?_,fun i hi=> ?_⟩
 ·rw[ho i hi]
  unfold gb
  rw[EM,EW hi];rfl
 ·unfold bY
  rw[EF,FD,if_pos hi];rfl
theorem ren_id{g:List Row}(hg:VG g):kA g (gb g.length) (List.replicate g.length .one)=some g:=by
 unfold kA
 have h:=id_isO g.length
 rw[if_pos ((dF _ _ _).2 h)]
 congr 1
 have ho: ∀i,i<g.length->bM (gb g.length) i=i:=by
  intro i hi
  unfold bM gb
  rw[EF,EM,EW hi];simp
 have hp: ∀i,i<g.length->bY (List.replicate g.length .one) i= .one:=by
  intro i hi
  unfold bY
  rw[EF,FD,if_pos hi];rfl
 have hb: ∀i,i<g.length->ej (gb g.length) g.length i=i:=by
  intro i hi
  have:=h.back_ord hi
  rwa [ho i hi]at this
 refine wO (cI _ _ _) fun t ht f hf=> ?_
 rw[cI]at ht
 rw[fT _ _ _ ht hf]
 unfold kE
 rw[ho t ht,hp t ht,Pm.DV ⟨by omega,by omega⟩,Int.toNat_natCast]
 rcases hg t ht f hf with hx|hx
 ·rw[hx];rfl
 ·have hlo:=hx.lo
  have hhi:=hx.hi
  have hok:=hx.ok
  generalize az g t f=x at hlo hhi hok
  rw[if_neg (by omega),hb _ (by omega),hp _ (by omega),Pm.D1,show Pm.one.undo=Pm.one from rfl,Pm.D0 hok]
  obtain⟨xt,xp⟩:=x
  simp only at hlo⊢
  congr 1
  omega
theorem ren_both{g:List Row}(hg:VG g){o1 o2:List Int}{p1 p2:List Pm}(h1:IsO o1 p1 g.length)(h2:IsO o2 p2 g.length){o3:List Int}{p3:List Pm}(hlo:o3.length=g.length)(hlp:p3.length=g.length)(ho: ∀i,i<g.length->o3[i]? =some ((bM o1 (bM o2 i):Nat):Int))(hp: ∀i,i<g.length->bY p3 i=(bY p1 (bM o2 i)).times (bY p2 i)):
 kA g o3 p3=some (de (de g o1 p1) o2 p2):=by
 have ho': ∀i,i<g.length->bM o3 i=bM o1 (bM o2 i):=by
  intro i hi
  show(o3.getD i 0).toNat=bM o1 (bM o2 i)
  rw[EF,ho i hi]
  exact Int.toNat_natCast _
 have h3:IsO o3 p3 g.length:=by
  refine⟨hlo,hlp,fun i hi=>by rw[ho' i hi];exact h1.lt _ (h2.lt i hi),fun i j hi hj e=> ?_,fun i hi=>by rw[ho i hi,ho' i hi],fun i hi=>by rw[hp i hi];exact Pm.DM (h1.ok _ (h2.lt i hi)) (h2.ok i hi)⟩
  rw[ho' i hi,ho' j hj]at e
  exact h2.inj i j hi hj (h1.inj _ _ (h2.lt i hi) (h2.lt j hj) e)
 have hb: ∀t,t<g.length->ej o3 g.length t=ej o2 g.length (ej o1 g.length t):=by
  intro t ht
  obtain⟨a1,a2⟩:=h1.ord_back ht
  obtain⟨b1,b2⟩:=h2.ord_back a1
  have:=h3.back_ord b1
  rwa [ho' _ b1,b2,a2]at this
 unfold kA
 rw[if_pos ((dF _ _ _).2 h3)]
 congr 1
 refine wO (by rw[cI,cI,cI]) fun t ht f hf=> ?_
 rw[cI]at ht
 have hl:=cI g o1 p1
 rw[fT _ _ _ ht hf,fT (de g o1 p1) o2 p2 (by rw[hl];exact ht) hf,hl]
 rw[ren_comp hg h1.lt (fun t ht=>(h1.ord_back ht).1) h2.lt (fun t ht=>h2.ord_back ht) h1.ok h2.ok (fun i hi f hf=>fT g o1 p1 hi hf) t ht f hf]
 unfold kE
 dsimp only
 rw[ho' t ht,hp t ht]
 have h24:In4 (f:Int):=⟨by omega,by omega⟩
 have hq:=Pm.at4 (h3.ok t ht) h24
 rw[hp t ht]at hq
 rcases hg (bM o1 (bM o2 t)) (h1.lt _ (h2.lt t ht)) (((bY p1 (bM o2 t)).times (bY p2 t)).at f).toNat (by have:=hq.1;have:=hq.2;omega)with hx|hx
 ·rw[hx];rfl
 ·have hlo:=hx.lo
  have hhi:=hx.hi
  rw[if_neg (by omega),if_neg (by omega),hb _ (by omega),hp _ (h2.ord_back (h1.ord_back (by omega)).1).1]
def Pm.cells(p:Pm):List Value:=[O U p.p0,O U p.p1,O U p.p2,O U p.p3]
def jY(l:List Pm):List Value:=l.flatMap Pm.cells
theorem ux: ∀(g:List Pm) (j:Nat) (r:Pm),g[j]? =some r->(jY g).drop (j*4)=r.cells++jY (g.drop (j+1))
 | [],_,_,h=>by simp at h
 |e::g,0,r,h=>by simp at h;subst h;simp[jY]
 |e::g,j+1,r,h=>by
  have:=ux g j r (by simpa using h)
  rw[show(j+1)*4=e.cells.length+j*4 by show(j+1)*4=4+j*4;omega]
  show(e.cells++jY g).drop _=_
  rw[Gi,FL (by omega),Fa,List.nil_append]
  exact this
def mv(H:AH)(v:Value)(l:List Pm):Prop:=(l=[]/\(v= .slice none 0 0\/ ∃i c,v= .slice (some ⟨0,i,some 0⟩) 0 c))\/(∃n i c,v= .slice (some ⟨n,i,none⟩) l.length c/\ak H n i (l.length*4)=some (jY l))
theorem mv.len{H:AH}{v:Value}{l:List Pm}(h:mv H v l): ∃b c,v= .slice b l.length c:=by
 rcases h with ⟨rfl,h|⟨i,c,h⟩⟩|⟨n,i,c,h,_⟩<;>exact⟨_,_,h⟩
theorem mv.app{H G:AH}{v:Value}{l:List Pm}(h:mv H v l):mv (H++G) v l:=by
 rcases h with h|⟨n,i,c,h,hr⟩
 ·exact .inl h
 ·exact .inr ⟨n,i,c,h,aD hr⟩
theorem mv.read{H:AH}{v:Value}{l:List Pm}(h:mv H v l){j:Nat}{x:Pm}(hx:l[j]? =some x):
 ∃n i c,v= .slice (some ⟨n,i,none⟩) l.length c/\ak H n (i+j*4) 4=some x.cells:=by
 rcases h with ⟨rfl,_⟩|⟨n,i,c,h,hr⟩
 ·simp at hx
 ·refine⟨n,i,c,h,?_⟩
  have hj:j<l.length:=(Ey.1 hx).1
  rw[bL hr (j:=j*4) (m:=4) (by omega),ux l j x hx]
  rfl
theorem MN.moreK{B G G':AH}{j12:Nat}{sl:Value}{l:List Row}{r:Row}(h:MN B G j12 sl l)(hg:bA G' B.length 52 20 (.slice (some ⟨B.length+(G.length+1),0,none⟩) (l.length+1) (unk+20)) (l.length+1) (aV l++r.cells))(hl:G'.length=G.length+2)(hk: ∀j,j<G.length->bA.DJ B.length sl j->at_ G' j=at_ G j):
 at_ G' j12= .cells [sl] 24/\MN B (G'.set j12 (.cells [.slice (some ⟨B.length+(G.length+1),0,none⟩) (l.length+1) (unk+20)] 24)) j12 (.slice (some ⟨B.length+(G.length+1),0,none⟩) (l.length+1) (unk+20)) (l++[r])/\(∀k,k<=2->at_ (G'.set j12 (.cells [.slice (some ⟨B.length+(G.length+1),0,none⟩) (l.length+1) (unk+20)] 24)) k=at_ G k)/\G.length<=G'.length:=by
 have h1:=h.lt
 have h2:=h.gt
 have hne: ∀k,k<=2\/k=j12->bA.DJ B.length (.slice (some ⟨B.length+(G.length+1),0,none⟩) (l.length+1) (unk+20)) k:=fun k hk=>dv (by omega)
 refine⟨by rw[hk j12 h1 (h.ot _ (.inr rfl))];exact h.ac,⟨au (by omega) _,by rw[EA];omega,h2,?_,hne⟩,fun k hk'=> ?_,by omega⟩
 ·refine bA.set ?_ (hne _ (.inr rfl)) _
  rw[nP,Ez]
  simpa[aV]using hg
 ·rw[af (by omega),hk k (by omega) (h.ot _ (.inl hk'))]
structure RB(G:AH)(s:Value)(back:List Int):Prop where
 a0:at_ G 0= .cells [s] 24
 a1:at_ G 1= .cells [.slice none 0 0] 24
 a2:at_ G 2= .cells (ints back) 3
 l:2<G.length
theorem RB.keep{G G':AH}{s:Value}{back:List Int}(h:RB G s back)(hk: ∀k,k<=2->at_ G' k=at_ G k)(hl:G.length<=G'.length):RB G' s back:=⟨by rw[hk 0 (by omega)];exact h.a0,by rw[hk 1 (by omega)];exact h.a1,by rw[hk 2 (by omega)];exact h.a2,by have:=h.l;omega⟩
theorem RB.app{G:AH}{s:Value}{back:List Int}(h:RB G s back)(G':AH):RB (G++G') s back:=h.keep (fun k hk=>ag (by have:=h.l;omega)) (by rw[Ez];omega)
theorem Row.put_t(r:Row){q:Nat}(hq:q<4)(x:Fc):(r.put q x).cells[q*5]? =some (O U x.t):=by
 match q,hq with
 | 0,_=>rfl
 | 1,_=>rfl
 | 2,_=>rfl
 | 3,_=>rfl
theorem Row.put_p(r:Row){q:Nat}(hq:q<4)(x:Fc):((r.put q x).cells.drop (q*5+1)).take 4=[O U x.p.p0,O U x.p.p1,O U x.p.p2,O U x.p.p3]:=by
 match q,hq with
 | 0,_=>rfl
 | 1,_=>rfl
 | 2,_=>rfl
 | 3,_=>rfl
theorem Row.Et(r:Row){q:Nat}(hq:q<4)(x y:Fc):(r.put q x).put q y=r.put q y:=by
 match q,hq with
 | 0,_=>rfl
 | 1,_=>rfl
 | 2,_=>rfl
 | 3,_=>rfl
theorem Row.D6(r:Row){f:Nat}(hf:f<4)(x:Fc):Ev.setAll r.cells (f*5) x.cells=(r.put f x).cells:=by
 have:=Row.setAll r hf x []
 rwa [Ft,Ft]at this
def RenR(H:AH)(o:Option (List Row))(r:OpR):Prop:=match o with
 |none=>r= .pan (bf 5) H
 |some g'=> ∃s' X,r= .val (glV s') (H++X)/\SlG (H++X) s' g'
theorem km(n i len c:Nat)(k:IntKind)(j:Int):cJ Try.prog 27 (.slice (some ⟨n,i,none⟩) len c) (.int k j)=if 0<=j/\j<len then some (.pointer (some ⟨n,i+j.toNat*4,none⟩))else none:=by kernel_rfl
theorem IsO.back_get{order:List Int}{perms:List Pm}{n:Nat}(h:IsO order perms n){t:Nat}(ht:t<n):(eK order n n)[t]? =some ((ej order n t:Nat):Int):=by
 obtain⟨i,hi,rfl⟩:=h.surj ht
 rw[h.back_ord hi,h.back (EJ n) hi]
def fe(g:List Row)(order:List Int)(perms:List Pm)(i:Nat):List Row:=(List.range i).map (eS g order perms)
theorem uN(g:List Row)(order:List Int)(perms:List Pm)(i:Nat):fe g order perms (i+1)=fe g order perms i++[eS g order perms i]:=by
 unfold fe;rw[Fq,Gd];rfl
theorem vf(H:AH)(s ov pv:Value)(g:List Row)(order:List Int)(perms:List Pm)(hs:SlG H s g)(hov:cy H ov order)(hpv:mv H pv perms)(hg:VG g)(hgl:g.length<=1000):
 ACE Try.prog 21 [glV s,ov,pv] H (RenR H (kA g order perms)):=by
 refine ACE.ofY (N:=120) f21 rfl rfl (EL rfl) ?_
 obtain⟨b0,k0,rfl⟩:=hs.len
 obtain⟨b1,k1,rfl⟩:=hov.len
 obtain⟨b2,k2,rfl⟩:=hpv.len
 have hno: ∀G,kA g order perms=none->EndsY Try.prog Try.f21 H (RenR H (kA g order perms)) (.panic (bf 5)) [] (H++G):=fun G h=>⟨.pan (bf 5) H,by rw[h];rfl,Ends.DL (P:=Try.prog) (fn:=Try.f21) (a:=[]) rfl⟩
 have hnoR:ik order perms g.length=false->kA g order perms=none:=fun h=>by unfold kA;rw[h];rfl
 refine X.seq (X.g ?_ (by simp[go_sem,glV];rfl))
 by_cases hlo:order.length=g.length
 case neg=>
  have hlo':((order.length:Int)==(g.length:Int))=false:=by simp;omega
  refine X.seq (X.region (Xl.s ?_ (by simp[go_sem,hlo'];rfl)))
  refine Xl.p (Sc b16 (aM _ _)) (hno _ (hnoR ?_))
  unfold ik;simp[hlo]
 have hlo':((order.length:Int)==(g.length:Int))=true:=by simp[hlo]
 by_cases hlp:perms.length=g.length
 case neg=>
  have hlp':((perms.length:Int)==(g.length:Int))=false:=by simp;omega
  refine X.seq (X.region (Xl.s ?_ (by simp[go_sem,hlo',hlp'];rfl)))
  refine Xl.p (Sc b16 (aM _ _)) (hno _ (hnoR ?_))
  unfold ik;simp[hlp]
 have hlp':((perms.length:Int)==(g.length:Int))=true:=by simp[hlp]
 have hperm:=fun X=>ja (H++X) (.slice b1 order.length k1) order hov.app (by omega)
 cases hpo:cM order
 case false=>
  rw[hpo]at hperm
  refine X.seq (X.region (Xl.s ?_ (by simp[go_sem,hlo',hlp'];rfl)))
  refine Xl.o (Sc b26 (hperm _)) ?_
  refine Xl.s ?_
  refine Xl.p (Sc b16 (aM _ _)) (hno _ (hnoR ?_))
  unfold ik;rw[hpo];simp
 rw[hpo]at hperm
 refine X.seq (X.region (Xl.s ?_ (by simp[go_sem,hlo',hlp'];rfl)))
 refine Xl.o (Sc b26 (hperm _)) ?_
 refine Xl.s ?_
 refine Xl.o (Sc b16 (aZ _ _)) (Xl.nil ?_)
 have hmk:=fun H=>mk26 H g.length (by omega)
 rw[hlo]at hov⊢
 refine X.seq (X.g ?_ (by simp[go_sem,hmk];rfl))
 refine X.seq (X.seq (X.g ?_))
 refine X.block ?_
 clear hperm hlo' hlp' hmk
 have hpi:=(er order).1 hpo
 have hord: ∀j,j<g.length-> ∃t:Nat,order[j]? =some (t:Int)/\t<g.length/\bM order j=t:=by
  intro j hj
  have hx:order[j]? =some (order[j]'(by omega)):=Ex (by omega)
  have:=hpi.1 _ (EE hx)
  refine⟨(order[j]'(by omega)).toNat,by rw[hx];congr 1;omega,by omega,by unfold bM;rw[EF,hx];rfl⟩
 have hz0:List.replicate g.length (0:Int)=eK order g.length 0:=rfl
 rw[hz0]
 refine X.loop (fun m E h=> ∃j:Nat,m=g.length-j/\j<=g.length/\ae E 1= .slice b1 g.length k1/\ae E 2= .slice b2 perms.length k2/\ae E 3= .pointer (some ⟨H.length,0,none⟩)/\ae E 6= .pointer (some ⟨H.length+1,0,none⟩)/\ae E 7= .slice (some ⟨H.length+2,0,none⟩) g.length g.length/\ae E 38= .slice b1 g.length k1/\ae E 39=O U g.length/\ae E 40=O U j/\h=H++[.cells [.slice b0 g.length k0] 24,.cells [.slice none 0 0] 24,.cells (ints (eK order g.length j)) 3]/\ ∀i,i<j->(bY perms i).ok=true) g.length
  ⟨0,by omega,by omega,by simp[ae],by simp[ae],by simp[ae],by simp[ae],by simp[ae],by simp[ae],by simp[ae],by simp[ae],rfl,fun i hi=>by omega⟩ ?_
 rintro m E h ⟨j,rfl,hj,e1,e2,e3,e6,e7,e38,e39,e40,rfl,hok⟩
 by_cases hlt:j<g.length
 ·have hlt':(j:Int)<(g.length:Int):=by omega
  have hjj:IntKind.i64.wrap ((j:Int)+1)=((j+1:Nat):Int):=aA (by omega)
  obtain⟨t,ht,htl,hot⟩:=hord j hlt
  have htl':(t:Int)<(g.length:Int):=by omega
  obtain⟨n1,i1,c1,hb1,hr1⟩:=hov.read ht
  rw[hlo]at hb1
  cases hb1
  have hp:perms[j]? =some (perms[j]'(by omega)):=Ex (by omega)
  generalize perms[j]'(by omega)=p at hp
  obtain⟨n9,i9,c9,hb9,hr9⟩:=hpv.read hp
  cases hb9
  have hpj:bY perms j=p:=by unfold bY;rw[EF,hp];rfl
  have hjp:(j:Int)<(perms.length:Int):=by omega
  have hr1': ∀X,aj (H++X) n1 (i1+j)=some (O U t):=fun X=>aw hr1
  have hip:=fun X=>ja (H++X) (.slice (some ⟨n9,i9+j*4,none⟩) 4 4) [p.p0,p.p1,p.p2,p.p3] (.inr ⟨_,_,_,rfl,aD hr9⟩) (by simp)
  have hpk:cM [p.p0,p.p1,p.p2,p.p3]=p.ok:=rfl
  rw[hpk]at hip
  refine X.seq (X.g ?_ (by simp[go_sem,e39,e40,hlt'];rfl))
  refine X.seq (X.ct (X.skip ?_))
  refine X.seq (X.block ?_)
  refine X.seq (X.g ?_ (by simp[go_sem,e38,e40,hlt',hr1'];rfl))
  cases hk:p.ok
  ·rw[hk]at hip
   refine X.seq (X.region (Xl.s ?_ (by simp[go_sem,e2,km,hjp,sl39];rfl)))
   refine Xl.o (Sc b26 (hip _)) ?_
   refine Xl.s ?_
   refine Xl.p (Sc b16 (aM _ _)) (hno _ (hnoR ?_))
   rw[FN]
   intro hh
   have:=((dF _ _ _).1 hh).ok j hlt
   rw[hpj,hk]at this;cases this
  ·rw[hk]at hip
   have hbl:=nG order g.length j
   have hset:(ints (eK order g.length j)).set t (O U j)=ints (eK order g.length (j+1)):=by rw[ints_set];simp only[eK,hot]
   have hbd:t+1<=(ints (eK order g.length j)).length:=by simp[ints,hbl];omega
   refine X.seq (X.region (Xl.s ?_ (by simp[go_sem,e2,km,hjp,sl39];rfl)))
   refine Xl.o (Sc b26 (hip _)) ?_
   refine Xl.s ?_
   refine Xl.o (Sc b16 (aZ _ _)) (Xl.nil ?_)
   refine X.g ?_ (by simp[go_sem,e7,htl',hset,hbd];rfl)
   refine X.g ?_ (by simp[go_sem,e40];rfl)
   refine⟨g.length-(j+1),by omega,j+1,rfl,by omega,by simp[ae,e1],by simp[ae,e2],by simp[ae,e3],by simp[ae,e6],by simp[ae,e7],by simp[ae,e38],by simp[ae,e39],by simp[ae,hjj],rfl,fun i hi=> ?_⟩
   by_cases e:i=j
   ·subst e;rw[hpj];exact hk
   ·exact hok i (by omega)
 ·have hjl:j=g.length:=by omega
  subst hjl
  have hO:IsO order perms g.length:=by
   rw[<-dF]
   unfold ik
   simp only[EC,beq_iff_eq]
   refine⟨⟨⟨hlo,hlp⟩,hpo⟩,?_⟩
   rw[EI]
   intro p hp
   obtain⟨i,hi,rfl⟩:=FF hp
   have:=hok i (by omega)
   unfold bY at this
   rwa [EF,Ex hi]at this
  have hR:kA g order perms=some (de g order perms):=by unfold kA;rw[if_pos ((dF _ _ _).2 hO)]
  rw[hR]
  clear hno hnoR hR hok hord hpi hpo
  refine X.seq (X.g ?_ (by simp[go_sem,e39,e40];rfl))
  refine X.seq (X.cf (X.exit ?_))
  simp only[AX.then,AX.inBlock,if_true]
  refine X.seq (X.g ?_)
  refine X.seq (X.seq (X.g ?_ (by simp[go_sem,e1];rfl)))
  refine X.block ?_
  refine X.loop (fun m E h=> ∃(i:Nat) (G:AH) (sl:Value),m=g.length-i/\i<=g.length/\ae E 2= .slice b2 perms.length k2/\ae E 3= .pointer (some ⟨H.length,0,none⟩)/\ae E 6= .pointer (some ⟨H.length+1,0,none⟩)/\ae E 7= .slice (some ⟨H.length+2,0,none⟩) g.length g.length/\ae E 10= .pointer (some ⟨H.length+3,0,none⟩)/\ae E 56= .slice b1 g.length k1/\ae E 57=O U g.length/\ae E 58=O U i/\h=H++G/\RB G (.slice b0 g.length k0) (eK order g.length g.length)/\MN H G 3 sl (fe g order perms i)) g.length
   ⟨0,_,.slice none 0 0,by omega,by omega,by simp[ae,e2],by simp[ae,e3],by simp[ae,e6],by simp[ae,e7],by simp[ae],by simp[ae],by simp[ae],by simp[ae],rfl,⟨rfl,rfl,rfl,by simp⟩,⟨rfl,by simp,by omega,.inl ⟨rfl,rfl,rfl⟩,fun _ _ _ _ h=>(by cases h)⟩⟩ ?_
  clear e1 e2 e3 e6 e7 e38 e39 e40 E hz0
  rintro m E h ⟨i,G,sl,rfl,hi,e2,e3,e6,e7,e10,e56,e57,e58,rfl,hB,hN⟩
  have hii:IntKind.i64.wrap ((i:Int)+1)=((i+1:Nat):Int):=aA (by omega)
  have hril:(fe g order perms i).length=i:=by simp[fe]
  by_cases hlt:i<g.length
  ·have hlt':(i:Int)<(g.length:Int):=by omega
   have hval:=hO.val i hlt
   have htl:=hO.lt i hlt
   have hpiok:=hO.ok i hlt
   obtain⟨n1,i1,c1,hb1,hr1⟩:=hov.read hval
   rw[hlo]at hb1
   cases hb1
   have hp:perms[i]? =some (bY perms i):=by unfold bY;rw[EF,Ex (by omega)];rfl
   obtain⟨n9,i9,c9,hb9,hr9⟩:=hpv.read hp
   cases hb9
   have hip:(i:Int)<(perms.length:Int):=by omega
   have hr1': ∀X,aj (H++X) n1 (i1+i)=some (O U (bM order i:Nat)):=fun X=>aw hr1
   have hpall: ∀j,j<g.length->ak H n9 (i9+j*4) 4=some (bY perms j).cells:=by
    intro j hj
    have hp:perms[j]? =some (bY perms j):=by unfold bY;rw[EF,Ex (by omega)];rfl
    obtain⟨n9',i9',c9',hb9,hr9'⟩:=hpv.read hp
    cases hb9
    exact hr9'
   have hrenF: ∀f,kE g (bM order) (bY perms) (ej order g.length) i f=if(az g (bM order i) ((bY perms i).at f).toNat).t<0 then az g (bM order i) ((bY perms i).at f).toNat
    else⟨(ej order g.length (az g (bM order i) ((bY perms i).at f).toNat).t.toNat:Nat),(bY perms (ej order g.length (az g (bM order i) ((bY perms i).at f).toNat).t.toNat)).undo.times ((az g (bM order i) ((bY perms i).at f).toNat).p.times (bY perms i))⟩:=fun f=>rfl
   generalize hti:bM order i=t at hr1' htl hrenF
   generalize hpri:bY perms i=pi at hr9 hpiok hrenF
   have htl':(t:Int)<(g.length:Int):=by omega
   refine X.seq (X.g ?_ (by simp[go_sem,e57,e58,hlt'];rfl))
   refine X.seq (X.ct (X.skip ?_))
   refine X.seq (X.block ?_)
   refine X.seq (X.g ?_ (by simp[go_sem,e56,e58,hlt',hr1'];rfl))
   refine X.seq (X.g ?_)
   refine X.seq (X.seq (X.g ?_))
   refine X.block ?_
   refine X.loop (fun m E h=> ∃(q:Nat) (rq:Row),m=4-q/\q<=4/\ae E 2= .slice (some ⟨n9,i9,none⟩) perms.length k2/\ae E 3= .pointer (some ⟨H.length,0,none⟩)/\ae E 6= .pointer (some ⟨H.length+1,0,none⟩)/\ae E 7= .slice (some ⟨H.length+2,0,none⟩) g.length g.length/\ae E 10= .pointer (some ⟨H.length+3,0,none⟩)/\ae E 56= .slice (some ⟨n1,i1,none⟩) g.length k1/\ae E 57=O U g.length/\ae E 58=O U i/\ae E 11=O U i/\ae E 12=O U t/\ae E 13= .pointer (some ⟨H.length+G.length,0,none⟩)/\ae E 63=O U q/\h=H++(G++[.cells rq.cells 52])/\ ∀f,f<q->rq.at f=kE g (bM order) (bY perms) (ej order g.length) i f) 4
    ⟨0,dA,by omega,by omega,by simp[ae,e2],by simp[ae,e3],by simp[ae,e6],by simp[ae,e7],by simp[ae,e10],by simp[ae,e56],by simp[ae,e57],by simp[ae,e58],by simp[ae],by simp[ae],by simp[ae],by simp[ae],rfl,fun f hf=>by omega⟩ ?_
   clear e2 e3 e6 e7 e10 e56 e57 e58 E
   rintro m E h ⟨q,rq,rfl,hq,e2,e3,e6,e7,e10,e56,e57,e58,e11,e12,e13,e63,rfl,hrq⟩
   have hqq:IntKind.i64.wrap ((q:Int)+1)=((q+1:Nat):Int):=aA (by omega)
   have rb0: ∀Y,aj (G++Y) 0 0=some (.slice b0 g.length k0):=fun Y=>by rw[ah,(hB.app Y).a0];rfl
   by_cases hq4:q<4
   ·have hq4':(q:Int)<4:=by omega
    have hpl:=Pm.at4 hpiok (i:=(q:Int)) ⟨by omega,by omega⟩
    obtain⟨pl,hpl'⟩: ∃k:Nat,pi.at q=k:=⟨(pi.at q).toNat,by have:=hpl.1;omega⟩
    have hpl4:pl<4:=by have:=hpl.2;omega
    have hpl4':(pl:Int)<4:=by omega
    have hq9: ∀X,aj (H++X) n9 (i9+i*4+q)=some (O U pl):=by
     intro X
     have:=cG hr9 (j:=q) hq4
     unfold Pm.cells at this
     rw[Pm.cells_get pi hq4,hpl']at this
     exact aw this
    obtain⟨n5,i5,c5,hb5,hrx⟩:=hs.face htl hpl4
    cases hb5
    have hxv:=hg t htl pl hpl4
    have hrf:=hrenF q
    rw[hpl',Int.toNat_natCast]at hrf
    generalize az g t pl=x at hrx hxv hrf
    have hset:=Row.D6 rq hq4 x
    unfold Fc.cells at hset hrx
    simp only[setAll]at hset
    have hbd:q*5+5<=rq.cells.length:=by rw[Row.DP];omega
    have hrx': ∀X,ak (H++X) n5 (i5+t*20+pl*5) 5=some [O U x.t,O U x.p.p0,O U x.p.p1,O U x.p.p2,O U x.p.p3]:=fun X=>aD hrx
    have hxt:=Row.put_t rq hq4 x
    refine X.seq (X.g ?_ (by simp[go_sem,e63,hq4'];rfl))
    refine X.seq (X.ct (X.skip ?_))
    refine X.seq (X.block ?_)
    refine X.seq (X.g ?_ (by simp[go_sem,e63];rfl))
    refine X.seq (X.drawnBy (fun _=>false) follows (by decide+kernel) (Xd.s (Xd.nil ?_) (by simp[go_sem,e2,e3,e11,e12,e13,rb0,hip,hq4',hq9,htl',hpl4',hrx',hset,hbd];rfl)))
    by_cases hneg:x.t<0
    ·have hge: ¬0<=x.t:=by omega
     rw[if_pos hneg]at hrf
     refine X.seq (X.g ?_ (by simp[go_sem,e13,hq4',hxt,hge];rfl))
     refine X.cf (X.skip ?_)
     refine X.g ?_ (by simp[go_sem,e63];rfl)
     refine⟨4-(q+1),by omega,q+1,rq.put q x,rfl,by omega,by simp[ae,e2],by simp[ae,e3],by simp[ae,e6],by simp[ae,e7],by simp[ae,e10],by simp[ae,e56],by simp[ae,e57],by simp[ae,e58],by simp[ae,e11],by simp[ae,e12],by simp[ae,e13],by simp[ae,hqq],rfl,fun f hf=> ?_⟩
     rw[Row.D2 rq x hq4 (by omega)]
     by_cases e:q=f
     ·subst e;rw[if_pos rfl,hrf]
     ·rw[if_neg e];exact hrq f (by omega)
    ·have hge:0<=x.t:=by omega
     rw[if_neg hneg]at hrf
     have hxo:FOk g t pl x:=by
      rcases hxv with h|h
      ·rw[h]at hneg;exact absurd (show(kD.t:Int)<0 by decide) hneg
      ·exact h
     have hxhi:=hxo.hi
     have hxok:=hxo.ok
     have hxtn:x.t.toNat<g.length:=by omega
     have hbk:=hO.back_get hxtn
     have hbkl:=(hO.ord_back hxtn).1
     generalize hbke:ej order g.length x.t.toNat=bk at hbk hbkl hrf
     have hpbok:=hO.ok bk hbkl
     have hpb: ∀X,ak (H++X) n9 (i9+bk*4) 4=some (bY perms bk).cells:=fun X=>aD (hpall bk hbkl)
     have hpi': ∀X,ak (H++X) n9 (i9+i*4) 4=some pi.cells:=fun X=>aD hr9
     unfold Pm.cells at hpb hpi'
     have hbl:(bk:Int)<(perms.length:Int):=by omega
     have hxn:x.t<(g.length:Int):=hxhi
     have rb2: ∀Y,aj (G++Y) 2 x.t.toNat=some (O U bk):=fun Y=>by rw[ah,(hB.app Y).a2];exact pZ hbk
     have hxp:=Row.put_p rq hq4 x
     have hbp:q*5+1+4<=(rq.put q x).cells.length:=by rw[Row.DP];omega
     have hbd2:q*5+5<=(rq.put q x).cells.length:=by rw[Row.DP];omega
     have hu:=fun H=>gp H (bY perms bk) (Pm.DI hpbok)
     have hta:=fun H=>eA H x.p pi (Pm.DI hpiok)
     have htb:=fun H=>eA H (bY perms bk).undo (x.p.times pi) (Pm.DT (Pm.DI hxok) (Pm.DI hpiok))
     generalize bY perms bk=pb at hpb hu htb hrf
     generalize x.p.times pi=q1 at hta htb hrf
     generalize pb.undo=pu at hu htb hrf
     have hset2:=Row.D6 (rq.put q x) hq4 ⟨bk,pu.times q1⟩
     rw[Row.Et rq hq4]at hset2
     generalize pu.times q1=q2 at htb hrf hset2
     obtain⟨q20,q21,q22,q23⟩:=q2
     obtain⟨q10,q11,q12,q13⟩:=q1
     obtain⟨pu0,pu1,pu2,pu3⟩:=pu
     unfold Pm.val at hu hta htb
     unfold Fc.cells at hset2
     simp only[setAll]at hset2
     refine X.seq (X.g ?_ (by simp[go_sem,e13,hq4',hxt,hge];rfl))
     refine X.ct ?_
     refine X.seq (X.g ?_ (by simp[go_sem,e7,e13,hq4',hxt,hge,hxn,rb2];rfl))
     refine X.drawnBy (fun i=>i==6||i==15||i==16) follows (by decide+kernel) (Xd.s ?_ (by simp[go_sem,e2,km,hbl,hpb];rfl))
     refine Xd.t (Sc b32 (hu _)) ?_
     refine Xd.s ?_ (by simp[go_sem,e2,e11,e13,km,hip,hq4',hxp,hbp,hpi'];rfl)
     refine Xd.t (Sc b37 (hta _)) ?_
     refine Xd.t (Sc b37 (htb _)) ?_
     refine Xd.s (Xd.nil ?_) (by simp[go_sem,e13,hq4',hset2,hbd2];rfl)
     refine X.g ?_ (by simp[go_sem,e63];rfl)
     refine⟨4-(q+1),by omega,q+1,rq.put q ⟨bk,⟨q20,q21,q22,q23⟩⟩,rfl,by omega,by simp[ae,e2],by simp[ae,e3],by simp[ae,e6],by simp[ae,e7],by simp[ae,e10],by simp[ae,e56],by simp[ae,e57],by simp[ae,e58],by simp[ae,e11],by simp[ae,e12],by simp[ae,e13],by simp[ae,hqq],rfl,fun f hf=> ?_⟩
     rw[Row.D2 rq _ hq4 (by omega)]
     by_cases e:q=f
     ·subst e;rw[if_pos rfl,hrf]
     ·rw[if_neg e];exact hrq f (by omega)
   ·have hq4:q=4:=by omega
    subst hq4
    have hrow:rq=eS g order perms i:=Row.ext fun f hf=>by rw[hrq f hf,qZ _ _ _ _ hf]
    subst hrow
    have hB1:=hB.app [.cells (eS g order perms i).cells 52]
    have hN1:=hN.app [.cells (eS g order perms i).cells 52]
    have hsucc:=uN g order perms i
    have hat:=aL G (AO.cells (eS g order perms i).cells 52)
    have hbs:=fun H=>AD H (eS g order perms i)
    generalize eS g order perms i=R at hB1 hN1 hsucc hat hbs
    refine X.seq (X.g ?_ (by simp[go_sem,e63];rfl))
    refine X.seq (X.cf (X.exit ?_))
    simp only[AX.then,AX.inBlock,if_true]
    generalize G++[AO.cells R.cells 52]=G1 at hB1 hN1 hat
    have r12:aj G1 3 0=some sl:=by rw[ah,hN1.ac];rfl
    have r14:ak G1 G.length 0 20=some R.cells:=ao hat rfl
    obtain⟨G',ha,hgr,hl',hkk⟩:=app22 R (by omega) hN1.gr
    obtain⟨h3,hN2,hk2,_⟩:=hN1.moreK hgr hl' hkk
    have hle:G1.length+1<=G'.length:=by omega
    rw[hril]at ha hN2 hk2
    have hB2:=hB1.keep hk2 (by rw[EA];omega)
    unfold Row.cells at r14 ha hbs
    refine X.g ?_ (by simp[go_sem,e10,e13,r12,r14,hbs,ha,h3,hle];rfl)
    refine X.g ?_ (by simp[go_sem,e58];rfl)
    refine⟨g.length-(i+1),by omega,i+1,_,.slice (some ⟨H.length+(G1.length+1),0,none⟩) (i+1) (unk+20),rfl,by omega,by simp[ae,e2],by simp[ae,e3],by simp[ae,e6],by simp[ae,e7],by simp[ae,e10],by simp[ae,e56],by simp[ae,e57],by simp[ae,hii],rfl,hB2,?_⟩
    rw[hsucc];exact hN2
  ·have hil:i=g.length:=by omega
   subst hil
   refine X.seq (X.g ?_ (by simp[go_sem,e57,e58];rfl))
   refine X.seq (X.cf (X.exit ?_))
   simp only[AX.then,AX.inBlock,if_true]
   obtain⟨bs,cs,hsl⟩:=hN.len
   subst hsl
   have r24:=ao (k:=1) hN.ac rfl
   have h1:=hB.a1
   refine X.seq (X.g ?_ (by simp[go_sem,e6,e10,r24,h1];rfl))
   have hl2:=hB.l
   have hS:SlG (H++G.set 1 (.cells [.slice bs (fe g order perms g.length).length cs] 24)) (.slice bs (fe g order perms g.length).length cs) (de g order perms):=by
    have hrr:de g order perms=fe g order perms g.length:=rfl
    rcases hN.gr with ⟨h1,h2,_⟩|⟨jr,C,h1,h2,h3,h4,_⟩
    ·left
     refine⟨?_,.inl h1⟩
     rw[hrr];exact Fr.1 h2
    ·refine .inr ⟨H.length+jr,0,C,h1,?_⟩
     have hne:jr≠1:=fun e=>hN.ot 1 (.inl (by omega)) (fe g order perms g.length).length C (by rw[h1,e])
     rw[aF,eO hne,hrr]
     exact ao h3 h4.symm
   have r6:ak (G.set 1 (.cells [.slice bs (fe g order perms g.length).length cs] 24)) 1 0 1=some [.slice bs (fe g order perms g.length).length cs]:=ao (au (by omega) _) rfl
   refine X.ret ⟨_,⟨_,_,rfl,hS⟩,_,fun t=> .inr rfl,glV (.slice bs (fe g order perms g.length).length cs),?_,rfl⟩
   simp[go_sem,e6,r6,glV]<;>repeat constructor
end Go.Proofs.Ytjcomcgpjjianaa
