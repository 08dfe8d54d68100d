import Derived.Test.YtjcomcgpjjianaaA19
import Derived.Test.YtjcomcgpjjianaaA40
set_option linter.all false
set_option maxHeartbeats 16000000
set_option maxRecDepth 8000
open Go.Value renaming int→O
open Go.IntKind renaming i64→U
namespace Go.Proofs.Ytjcomcgpjjianaa
open Go.Ev
theorem ld109x(H:AH)(n i:Nat):dQ Try.prog H 109 (.pointer (some ⟨n,i,none⟩))=(ak H n i 8).map fun l=> .agg l.toArray:=by kernel_rfl
structure MO(E:Env)(n b len j12 first:Nat)(n2 c2 los:Nat)(q:Nat):Prop where
 me:ME E n b len
 e12:ae E 12= .pointer (some ⟨b+j12,0,none⟩)
 e17:ae E 17=O U (first:Nat)
 e200:ae E 200= .slice (some ⟨n2,0,none⟩) los c2
 e201:ae E 201=O U (los:Nat)
 e202:ae E 202=O U (q:Nat)
theorem MO.next{E:Env}{n b len j12 first n2 c2 los q:Nat}(h:MO E n b len j12 first n2 c2 los q){E':Env}(h0: ∀t∈[0,7,8,9,12,17,200,201],ae E' t=ae E t)(hq:ae E' 202=O U ((q+1:Nat):Int)):MO E' n b len j12 first n2 c2 los (q+1):=⟨⟨(h0 0 (by simp)).trans h.me.e0,(h0 7 (by simp)).trans h.me.e7,(h0 8 (by simp)).trans h.me.e8,(h0 9 (by simp)).trans h.me.e9⟩,(h0 12 (by simp)).trans h.e12,(h0 17 (by simp)).trans h.e17,(h0 200 (by simp)).trans h.e200,(h0 201 (by simp)).trans h.e201,hq⟩
theorem jq{H:AH}{n m i:Nat}{o:AO}(h:n≠m):aj (H.set m o) n i=aj H n i:=by
 unfold aj aP;rw[af (Fg h)]
theorem mvL10_ok{Hk B G:AH}{E:Env}{Q:AX->Env->AH->Prop}{n n1 c1 n2 c2:Nat}{p1 p3 s:Value}{ms:List (Int×Int)}{j12 jr C aC:Nat}{l0:List Row}{g:List Row}{out:List Fc}{os:List Ou}{ns:List Nn}(hg:VG g)(hp:PlG g out aC os ns)(hc:aj B n 0=some s)(hs:SlG B s g)(hms: ∀a,look ms a=(cm out a).map fun(j:Nat)=>(j:Int))(ho:ak B n1 0 (out.length*5)=some (eI out))(hos:ak B n2 0 (os.length*8)=some (dm os))(hl0:l0.length=aG out g.length+aC)(hl1:l0.length<=1000)(hgl:g.length<=1000)(hnl:os.length<=1000)(hol:out.length<=1000)(he:ME E n B.length g.length)(e12:ae E 12= .pointer (some ⟨B.length+j12,0,none⟩))(e17:ae E 17=O U (aG out g.length:Nat))(hG:MB G [.slice (some ⟨n1,0,none⟩) out.length c1,p1,.slice (some ⟨n2,0,none⟩) os.length c2,p3] (dN out g.length g.length) ms)(hN:MN B G j12 (.slice (some ⟨B.length+jr,0,none⟩) l0.length C) l0)(hQ: ∀E' G' l,ME E' n B.length g.length->ae E' 12= .pointer (some ⟨B.length+j12,0,none⟩)->l=ld l0 (os.flatMap (mL g out os (aG out g.length)))->MN B G' j12 (.slice (some ⟨B.length+jr,0,none⟩) l.length C) l->Q .normal E' (B++G')):X ⟨Try.prog,332,Hk⟩ mvL10 Q E (B++G):=by
 have e7:=he.e7
 obtain⟨b0,k0,rfl⟩:=hs.len
 have r2:aj G 0 2=some (.slice (some ⟨n2,0,none⟩) os.length c2):=by rw[ah,hG.a0];rfl
 refine X.seq (X.g ?_ (by simp[go_sem,e7,r2];rfl))
 refine X.block ?_
 refine X.loop (fun m E h=> ∃(q:Nat) (G:AH) (l:List Row),m=os.length-q/\q<=os.length/\MO E n B.length g.length j12 (aG out g.length) n2 c2 os.length q/\h=B++G/\MB G [.slice (some ⟨n1,0,none⟩) out.length c1,p1,.slice (some ⟨n2,0,none⟩) os.length c2,p3] (dN out g.length g.length) ms/\MN B G j12 (.slice (some ⟨B.length+jr,0,none⟩) l.length C) l/\l.length=l0.length/\l=ld l0 ((os.take q).flatMap (mL g out os (aG out g.length)))) os.length
  ⟨0,G,l0,by omega,by omega,⟨⟨by simp[ae,he.e0],by simp[ae,he.e7],by simp[ae,he.e8],by simp[ae,he.e9]⟩,by simp[ae,e12],by simp[ae,e17],by simp[ae],by simp[ae],by simp[ae]⟩,rfl,hG,hN,rfl,rfl⟩ ?_
 clear he e12 e17 e7 r2 hG hN E G
 rintro m E h ⟨q,G,l,rfl,hq,hmo,rfl,hG,hN,hll,hlw⟩
 by_cases hlt:q<os.length
 ·have hlt':(q:Int)<(os.length:Int):=by omega
  have hqq:IntKind.i64.wrap ((q:Int)+1)=((q+1:Nat):Int):=aA (by omega)
  have hx:=Ex hlt
  generalize os[q]'hlt=o at hx
  have hmem:=EE hx
  obtain⟨a1,a2,a3,a4,a5,a6⟩:=hp.p0.o o hmem
  obtain⟨y,hy,hyi,hoc⟩:=hp.outC hg (aG out g.length) hmem
  have hbf:=hp.oBy_at hmem y
  have hnext:ld l0 ((os.take (q+1)).flatMap (mL g out os (aG out g.length)))=ld l (mL g out os (aG out g.length) o):=by
   rw[FP,hx,Option.toList_some,FV,ua,<-hlw];simp
  have hro:ak B n2 (q*8) 8=some o.cells:=by
   have:=bL hos (j:=q*8) (m:=8) (by omega)
   rw[EU,ll os q o hx]at this
   rw[this];rfl
  have hylo:=hyi.lo
  have hyhi:=hyi.hi
  obtain⟨odn,hod⟩: ∃k:Nat,o.od=k:=⟨o.od.toNat,by omega⟩
  obtain⟨lbn,hlb⟩: ∃k:Nat,o.lb=k:=⟨o.lb.toNat,by omega⟩
  obtain⟨fcn,hfc⟩: ∃k:Nat,o.fc=k:=⟨o.fc.toNat,by omega⟩
  obtain⟨nwn,hnw⟩: ∃k:Nat,o.nw=k:=⟨o.nw.toNat,by omega⟩
  obtain⟨ytn,hyt⟩: ∃k:Nat,y.t=k:=⟨y.t.toNat,by omega⟩
  have hpl:=Pm.at4 hyi.ok (i:=o.lb) ⟨by omega,by omega⟩
  obtain⟨pl,hpl'⟩: ∃k:Nat,y.p.at o.lb=k:=⟨(y.p.at o.lb).toNat,by have:=hpl.1;omega⟩
  have hpl4:pl<4:=by have:=hpl.2;omega
  have hytl:ytn<g.length:=by omega
  rw[hod]at a5 hy
  rw[hlb]at a6
  rw[hfc]at a4
  rw[hnw]at a3
  have hodl:(odn:Int)<(out.length:Int):=by omega
  have hlb4:(lbn:Int)<4:=by omega
  have hfc4:(fcn:Int)<4:=by omega
  have hpl4':(pl:Int)<4:=by omega
  have hytl':(ytn:Int)<(g.length:Int):=by omega
  rw[Int.toNat_natCast]at hy
  obtain⟨y',hy',hry,_⟩:=jH ho (show odn<out.length by omega)
  rw[hy]at hy';cases hy'
  rw[EU]at hry
  obtain⟨n5,i5,c5,hb5,hrx⟩:=hs.face hytl hpl4
  cases hb5
  have hox:az g ytn pl=bw g y o:=by unfold bw;rw[hyt,hpl',Int.toNat_natCast,Int.toNat_natCast]
  rw[hox]at hrx
  have hG3:=hG.app [.cells o.cells 109,.cells y.cells 103,.cells (bw g y o).cells 51]
  have hN3:=hN.app [.cells o.cells 109,.cells y.cells 103,.cells (bw g y o).cells 51]
  have hpq:=Pm.cells_get y.p (q:=lbn) (by omega)
  rw[<-hlb,hpl']at hpq
  have hwa:IntKind.i64.wrap ((aG out g.length:Int)+nwn)=((aG out g.length+nwn:Nat):Int):=by rw[EP];omega
  have hil:((aG out g.length+nwn:Nat):Int)<(l.length:Int):=by omega
  have hil':aG out g.length+nwn<l.length:=by omega
  have r12: ∀Y,aj (G++Y) j12 0=some (.slice (some ⟨B.length+jr,0,none⟩) l.length C):=fun Y=>aw (by rw[ah,hN.ac];rfl)
  have r00: ∀Y,aj (G++Y) 0 0=some (.slice (some ⟨n1,0,none⟩) out.length c1):=fun Y=>aw (by rw[ah,hG.a0];rfl)
  have hcc: ∀Y,aj (B++Y) n 0=some (.slice (some ⟨n5,i5,none⟩) g.length k0):=fun Y=>aw hc
  generalize hia:aG out g.length+nwn=ia at hwa hil hil'
  unfold Ou.cells at hro hG3 hN3
  unfold Fc.cells at hry hrx hG3 hN3
  have hro': ∀Y,ak (B++Y) n2 (q*8) 8=_:=fun Y=>aD hro
  have hry': ∀Y,ak (B++Y) n1 (odn*5) 5=_:=fun Y=>aD hry
  have hrx': ∀Y,ak (B++Y) n5 (i5+ytn*20+pl*5) 5=_:=fun Y=>aD hrx
  rw[hod,hlb,hfc,hnw]at hro'
  rw[hyt]at hry'
  have e200:=hmo.e200
  have e201:=hmo.e201
  have e202:=hmo.e202
  have e7:=hmo.me.e7
  have e0:=hmo.me.e0
  have e12:=hmo.e12
  have e17:=hmo.e17
  refine X.seq (X.g ?_ (by simp[go_sem,e201,e202,hlt'];rfl))
  refine X.seq (X.ct (X.skip ?_))
  refine X.seq (X.block ?_)
  refine X.seq (X.g ?_ (by simp[go_sem,e200,e202,hlt',hro',ld109x];rfl))
  refine X.seq (X.g ?_ (by simp[go_sem,e7,r00,hodl,hry'];rfl))
  refine X.seq (X.drawnBy (fun _=>false) follows (by decide+kernel) (Xd.s (Xd.nil ?_) (by simp[go_sem,e0,hcc,hlb4,hpq,Gw 1 lbn,hytl',hpl4',hrx'];rfl)))
  refine X.seq (X.drawnBy (fun _=>false) follows (by decide+kernel) (Xd.s (Xd.nil ?_) (by simp[go_sem,e12,e17,r12,hwa,hil,hfc4];rfl)))
  rw[hnw,hfc,hod,hlb,hyt]at hG3 hN3
  have hl2:=hG.l
  have hjr:=hN.row.1
  obtain⟨K3,hK3⟩: ∃K3:AH,K3=[.cells [O U (nwn:Int),O U (fcn:Int),O U (odn:Int),O U (lbn:Int),O U o.by'.p0,O U o.by'.p1,O U o.by'.p2,O U o.by'.p3] 109,.cells [O U (ytn:Int),O U y.p.p0,O U y.p.p1,O U y.p.p2,O U y.p.p3] 103,
   .cells [O U (bw g y o).t,O U (bw g y o).p.p0,O U (bw g y o).p.p1,O U (bw g y o).p.p2,O U (bw g y o).p.p3] 51]:=⟨_,rfl⟩
  have fnw:aj (G++K3) G.length 0=some (O U (nwn:Int)):=by rw[hK3,dH];rfl
  have ffc:aj (G++K3) G.length 1=some (O U (fcn:Int)):=by rw[hK3,dH];rfl
  have fby:ak (G++K3) G.length 4 4=some [O U o.by'.p0,O U o.by'.p1,O U o.by'.p2,O U o.by'.p3]:=by rw[hK3,ed];rfl
  have fyp:ak (G++K3) (G.length+1) 1 4=some [O U y.p.p0,O U y.p.p1,O U y.p.p2,O U y.p.p3]:=by rw[hK3,aF];rfl
  have fxt:aj (G++K3) (G.length+2) 0=some (O U (bw g y o).t):=by rw[hK3,bU];rfl
  have fxp:ak (G++K3) (G.length+2) 1 4=some [O U (bw g y o).p.p0,O U (bw g y o).p.p1,O U (bw g y o).p.p2,O U (bw g y o).p.p3]:=by rw[hK3,aF];rfl
  have fx:ak (G++K3) (G.length+2) 0 5=some [O U (bw g y o).t,O U (bw g y o).p.p0,O U (bw g y o).p.p1,O U (bw g y o).p.p2,O U (bw g y o).p.p3]:=by rw[hK3,aF];rfl
  have hl3:(G++K3).length=G.length+3:=by rw[hK3];simp
  have r12: ∀Y,aj (G++K3++Y) j12 0=some (.slice (some ⟨B.length+jr,0,none⟩) l.length C):=fun Y=>by rw[EH];exact r12 _
  have r00: ∀Y,aj (G++K3++Y) 0 0=some (.slice (some ⟨n1,0,none⟩) out.length c1):=fun Y=>by rw[EH];exact r00 _
  rw[<-hK3]at hG3 hN3⊢
  clear hK3 hro' hry' hrx' hro hry hrx hcc
  generalize G++K3=G3 at*
  obtain⟨w1,w2,w3,w4⟩:=hN3.row
  have hT: ∀(l':List Row) (G':AH) (E':Env),(∀t∈[0,7,8,9,12,17,200,201],ae E' t=ae E t)->ae E' 202=O U ((q+1:Nat):Int)->MB G' [.slice (some ⟨n1,0,none⟩) out.length c1,p1,.slice (some ⟨n2,0,none⟩) os.length c2,p3] (dN out g.length g.length) ms->MN B G' j12 (.slice (some ⟨B.length+jr,0,none⟩) l'.length C) l'->l'.length=l.length->l'=ld l (mL g out os (aG out g.length) o)-> ∃m,m<os.length-q/\ ∃(q:Nat) (G:AH) (l:List Row),m=os.length-q/\q<=os.length/\MO E' n B.length g.length j12 (aG out g.length) n2 c2 os.length q/\B++G'=B++G/\MB G [.slice (some ⟨n1,0,none⟩) out.length c1,p1,.slice (some ⟨n2,0,none⟩) os.length c2,p3] (dN out g.length g.length) ms/\MN B G j12 (.slice (some ⟨B.length+jr,0,none⟩) l.length C) l/\l.length=l0.length/\l=ld l0 ((os.take q).flatMap (mL g out os (aG out g.length))):=fun l' G' E' h0 h1 h2 h3 h4 h5=>
   ⟨os.length-(q+1),by omega,q+1,G',l',rfl,by omega,hmo.next h0 h1,rfl,h2,h3,by omega,by rw[hnext];exact h5⟩
  have hmo8:=hmo.me.e8
  have hmo9:=hmo.me.e9
  clear hmo hlw hN hG
  cases hoc with
  |fin hof w=>
   have hneg:(kD.t:Int)<0:=by decide
   rw[hof]at fxt fx
   have hset:=jO (l:=l) (t:=ia) (f:=fcn) hil' (by omega) kD
   unfold Fc.cells at hset
   simp only[setAll]at hset
   have hbd:ia*20+fcn*5+5<=(aV l).length:=by rw[dp];omega
   refine X.seq (X.seq (X.g ?_ (by simp[go_sem,fxt,hneg];rfl)))
   refine X.ct ?_
   refine X.seq (X.g ?_ (by simp[go_sem,fx,hset,hbd,w2];rfl))
   refine X.exit ?_
   simp only[AX.then,AX.inBlock,if_true]
   refine X.g ?_ (by simp[go_sem,e202];rfl)
   refine hT (gC l ia fcn kD) _ _ (fun t ht=>by simp only[EG,EK,or_false]at ht;rcases ht with rfl|rfl|rfl|rfl|rfl|rfl|rfl|rfl<;>simp[ae]) (by simp[ae,hqq]) (hG3.setBig w4 _) (hN3.put (ei _ _ _ _)) (ei _ _ _ _) ?_
   rw[w,hnw,hfc,Int.toNat_natCast,Int.toNat_natCast,hia];rfl
  |kept hfo k w=>
   have hlo:=hfo.lo
   have hhi:=hfo.hi
   obtain⟨xtn,hxt⟩: ∃k:Nat,(bw g y o).t=k:=⟨(bw g y o).t.toNat,by omega⟩
   have hxtl:xtn<g.length:=by omega
   have hxtl':(xtn:Int)<(g.length:Int):=by omega
   have hbok:(oBy g y o).ok=true:=hp.oBy_ok hmem hyi hfo
   have hb4:=Pm.at4 hbok (i:=o.fc) ⟨by omega,by omega⟩
   obtain⟨bc,hbc⟩: ∃k:Nat,(oBy g y o).at o.fc=k:=⟨((oBy g y o).at o.fc).toNat,by have:=hb4.1;omega⟩
   have hbc4:bc<4:=by have:=hb4.2;omega
   have hbc4':(bc:Int)<4:=by omega
   have ht1:=fun H=>eA H y.p o.by' (Pm.DI a1)
   have ht2:=fun H=>eA H (bw g y o).p (y.p.times o.by') (Pm.DT (Pm.DI hyi.ok) (Pm.DI a1))
   rw[show(bw g y o).p.times (y.p.times o.by')=oBy g y o from rfl]at ht2
   have hu1:=fun H=>gp H (oBy g y o) (Pm.DI hbok)
   have hbg:=Pm.cells_get (oBy g y o) (q:=fcn) (by omega)
   rw[<-hfc,hbc]at hbg
   rw[hxt]at fxt k w
   rw[Int.toNat_natCast]at w
   have hge: ¬(xtn:Int)<0:=by omega
   have e9:=hmo9
   have e8:=hmo8
   generalize y.p.times o.by'=q1 at ht1 ht2
   generalize oBy g y o=bp at ht2 hu1 hbg hbc hbok w
   obtain⟨z0,z1,z2,z3⟩:=bp
   obtain⟨q10,q11,q12,q13⟩:=q1
   unfold Pm.val at ht1 ht2 hu1
   refine X.seq (X.seq (X.g ?_ (by simp[go_sem,fxt,hge];rfl)))
   refine X.cf (X.skip ?_)
   refine X.seq (X.drawnBy (fun i=>i==6||i==7) follows (by decide+kernel) (Xd.s ?_ (by simp[go_sem,fxp,fyp,fby];rfl)))
   refine Xd.t (Sc b37 (ht1 _)) ?_
   refine Xd.t (Sc b37 (ht2 _)) ?_
   refine Xd.s (Xd.nil ?_)
   have hlk:=lk104 (H:=B++(G3++[.cells [O U z0,O U z1,O U z2,O U z3] 39])) (n:=B.length+2) (by rw[aq];exact(hG3.app _).a2) xtn
   rw[hms,k]at hlk
   simp only[Option.map_none,Option.map_some,Option.getD_none,Option.getD_some,Option.isSome_none,Option.isSome_some]at hlk
   have fxt': ∀Y,aj (G3++Y) (G.length+2) 0=some (O U xtn):=fun Y=>aw fxt
   refine X.seq (X.g ?_ (by simp[go_sem,fxt',e9,hlk];rfl))
   obtain⟨K5,hK5⟩: ∃K5:AH,K5=[.cells [O U z0,O U z1,O U z2,O U z3] 39,.cells [O U 0] 3]:=⟨_,rfl⟩
   have fbp:ak (G3++K5) G3.length 0 4=some [O U z0,O U z1,O U z2,O U z3]:=by rw[hK5,ed];rfl
   have fbc:aj (G3++K5) G3.length fcn=some (O U bc):=by rw[hK5,dH];exact hbg
   have fix:aj (G3++K5) (G3.length+1) 0=some (O U 0):=by rw[hK5,bU];rfl
   have hl5:(G3++K5).length=G3.length+2:=by rw[hK5];simp
   have r12':=r12 K5
   have r00':=r00 K5
   have ffc5:=aw (G:=K5) ffc
   have fnw5:=aw (G:=K5) fnw
   have fxt5:=aw (G:=K5) fxt
   have hG5:=hG3.app K5
   have hN5:=hN3.app K5
   rw[<-hK5]
   clear hK5 hlk fxt' fxp fyp fby fxt fx fnw ffc hG3 hN3 r12 r00 w1 w2
   generalize G3++K5=G5 at*
   obtain⟨w1,w2,w3',_⟩:=hN5.row
   have hknum:mu out xtn=(aG out xtn:Nat):=by unfold mu;rw[k];rfl
   have hkn:=eL hxtl k
   rw[hknum,Int.toNat_natCast]at w
   have rn:aj G5 1 xtn=some (O U ((aG out xtn:Nat):Int)):=by
    rw[ah,hG5.a1]
    have:=nW (out:=out) (n:=g.length) (t:=g.length) hxtl
    rw[if_pos hxtl,hknum]at this
    exact pZ this
   generalize hkk:aG out xtn=kn at w hknum hkn rn
   have hset:=jO (l:=l) (t:=ia) (f:=fcn) hil' (by omega) ⟨kn,⟨z0,z1,z2,z3⟩⟩
   unfold Fc.cells at hset
   simp only[setAll]at hset
   have hbd:ia*20+fcn*5+5<=(aV l).length:=by rw[dp];omega
   have hll1:=ei l ia fcn ⟨kn,⟨z0,z1,z2,z3⟩⟩
   have hG6:=hG5.setBig w4 (.cells (aV (gC l ia fcn ⟨kn,⟨z0,z1,z2,z3⟩⟩)) 52)
   have hN6:=hN5.put hll1
   have hl3':=hl3
   refine X.seq (X.seq (X.g ?_))
   refine X.ct ?_
   refine X.seq (X.drawnBy (fun _=>false) follows (by decide+kernel) (Xd.s (Xd.nil ?_) (by simp[go_sem,e8,fxt5,hxtl',rn,fbp,hset,hbd,w2];rfl)))
   generalize hl1e:gC l ia fcn ⟨kn,⟨z0,z1,z2,z3⟩⟩=l1 at hG6 hN6 hll1 hset
   have fxt6:=(jq (H:=G5) (m:=jr) (o:= .cells (aV l1) 52) (i:=0) (n:=G.length+2) (by omega)).trans fxt5
   have ffc6:=(jq (H:=G5) (m:=jr) (o:= .cells (aV l1) 52) (i:=1) (n:=G.length) (by omega)).trans ffc5
   have fnw6:=(jq (H:=G5) (m:=jr) (o:= .cells (aV l1) 52) (i:=0) (n:=G.length) (by omega)).trans fnw5
   have rn6:=(jq (H:=G5) (m:=jr) (o:= .cells (aV l1) 52) (i:=xtn) (n:=1) (by omega)).trans rn
   have fbc6:=(jq (H:=G5) (m:=jr) (o:= .cells (aV l1) 52) (i:=fcn) (n:=G3.length) (by omega)).trans fbc
   have fbp6:=(eO (H:=G5) (m:=jr) (o:= .cells (aV l1) 52) (i:=0) (k:=4) (n:=G3.length) (by omega)).trans fbp
   generalize G5.set jr (.cells (aV l1) 52)=G6 at*
   have r126:aj G6 j12 0=some (.slice (some ⟨B.length+jr,0,none⟩) l1.length C):=by rw[ah,hN6.ac];rfl
   obtain⟨v1,v2,v3,_⟩:=hN6.row
   have hset2:=jO (l:=l1) (t:=kn) (f:=bc) (by omega) hbc4 ⟨ia,Pm.undo ⟨z0,z1,z2,z3⟩⟩
   have hbd2:kn*20+bc*5+5<=(aV l1).length:=by rw[dp];omega
   have hknl:(kn:Int)<(l1.length:Int):=by omega
   have hfin:gC l1 kn bc ⟨ia,Pm.undo ⟨z0,z1,z2,z3⟩⟩=ld l (mL g out os (aG out g.length) o):=by
    rw[hbc,hnw,hfc]at w
    simp only[Int.toNat_natCast]at w
    rw[w,hia,show((aG out g.length:Nat):Int)+(nwn:Int)=(ia:Int)by omega]
    show _=gC (gC l ia fcn ⟨kn,⟨z0,z1,z2,z3⟩⟩) kn bc _
    rw[hl1e]
   have hN7:=hN6.put (ei l1 kn bc ⟨ia,Pm.undo ⟨z0,z1,z2,z3⟩⟩)
   have hG7:=hG6.setBig w4 (.cells (aV (gC l1 kn bc ⟨ia,Pm.undo ⟨z0,z1,z2,z3⟩⟩)) 52)
   have hll2:=ei l1 kn bc ⟨ia,Pm.undo ⟨z0,z1,z2,z3⟩⟩
   generalize Pm.undo ⟨z0,z1,z2,z3⟩=up at hu1 hset2 hfin hN7 hG7 hll2
   obtain⟨u0,u1,u2,u3⟩:=up
   unfold Fc.cells at hset2
   simp only[setAll]at hset2
   refine X.seq (X.drawnBy (fun i=>i==16) follows (by decide+kernel) (Xd.s ?_ (by simp[go_sem,e8,e12,e17,r126,fxt6,hxtl',rn6,ffc6,hfc4,fbc6,fnw6,hwa,fbp6];rfl)))
   refine Xd.t (Sc b32 (hu1 _)) ?_
   refine Xd.s (Xd.nil ?_) (by simp[go_sem,hknl,hbc4',hset2,hbd2,v2];rfl)
   refine X.exit ?_
   simp only[AX.then,AX.inBlock,if_true]
   refine X.g ?_ (by simp[go_sem,e202];rfl)
   exact hT _ _ _ (fun t ht=>by simp only[EG,EK,or_false]at ht;rcases ht with rfl|rfl|rfl|rfl|rfl|rfl|rfl|rfl<;>simp[ae]) (by simp[ae,hqq]) hG7 hN7 (hll2.trans hll1) hfin
  |gone hfo i z u k hz ht hu h1 h2 k0 ku w=>
   have hlo:=hfo.lo
   have hhi:=hfo.hi
   obtain⟨xtn,hxt⟩: ∃k:Nat,(bw g y o).t=k:=⟨(bw g y o).t.toNat,by omega⟩
   have hxtl:xtn<g.length:=by omega
   have hxtl':(xtn:Int)<(g.length:Int):=by omega
   have hbok:(oBy g y o).ok=true:=hp.oBy_ok hmem hyi hfo
   have hb4:=Pm.at4 hbok (i:=o.fc) ⟨by omega,by omega⟩
   obtain⟨bc,hbc⟩: ∃k:Nat,(oBy g y o).at o.fc=k:=⟨((oBy g y o).at o.fc).toNat,by have:=hb4.1;omega⟩
   have hbc4:bc<4:=by have:=hb4.2;omega
   have hbc4':(bc:Int)<4:=by omega
   have ht1:=fun H=>eA H y.p o.by' (Pm.DI a1)
   have ht2:=fun H=>eA H (bw g y o).p (y.p.times o.by') (Pm.DT (Pm.DI hyi.ok) (Pm.DI a1))
   rw[show(bw g y o).p.times (y.p.times o.by')=oBy g y o from rfl]at ht2
   have hu1:=fun H=>gp H (oBy g y o) (Pm.DI hbok)
   have hbg:=Pm.cells_get (oBy g y o) (q:=fcn) (by omega)
   rw[<-hfc,hbc]at hbg
   rw[hxt]at fxt k
   have hge: ¬(xtn:Int)<0:=by omega
   have e9:=hmo9
   have e8:=hmo8
   generalize y.p.times o.by'=q1 at ht1 ht2
   generalize oBy g y o=bp at ht2 hu1 hbg hbc hbok w h2 k0 ku
   obtain⟨z0,z1,z2,z3⟩:=bp
   obtain⟨q10,q11,q12,q13⟩:=q1
   unfold Pm.val at ht1 ht2 hu1
   refine X.seq (X.seq (X.g ?_ (by simp[go_sem,fxt,hge];rfl)))
   refine X.cf (X.skip ?_)
   refine X.seq (X.drawnBy (fun i=>i==6||i==7) follows (by decide+kernel) (Xd.s ?_ (by simp[go_sem,fxp,fyp,fby];rfl)))
   refine Xd.t (Sc b37 (ht1 _)) ?_
   refine Xd.t (Sc b37 (ht2 _)) ?_
   refine Xd.s (Xd.nil ?_)
   have hlk:=lk104 (H:=B++(G3++[.cells [O U z0,O U z1,O U z2,O U z3] 39])) (n:=B.length+2) (by rw[aq];exact(hG3.app _).a2) xtn
   rw[hms,k]at hlk
   simp only[Option.map_none,Option.map_some,Option.getD_none,Option.getD_some,Option.isSome_none,Option.isSome_some]at hlk
   have fxt': ∀Y,aj (G3++Y) (G.length+2) 0=some (O U xtn):=fun Y=>aw fxt
   refine X.seq (X.g ?_ (by simp[go_sem,fxt',e9,hlk];rfl))
   obtain⟨K5,hK5⟩: ∃K5:AH,K5=[.cells [O U z0,O U z1,O U z2,O U z3] 39,.cells [O U i] 3]:=⟨_,rfl⟩
   have fbp:ak (G3++K5) G3.length 0 4=some [O U z0,O U z1,O U z2,O U z3]:=by rw[hK5,ed];rfl
   have fbc:aj (G3++K5) G3.length fcn=some (O U bc):=by rw[hK5,dH];exact hbg
   have fix:aj (G3++K5) (G3.length+1) 0=some (O U i):=by rw[hK5,bU];rfl
   have hl5:(G3++K5).length=G3.length+2:=by rw[hK5];simp
   have r12':=r12 K5
   have r00':=r00 K5
   have ffc5:=aw (G:=K5) ffc
   have fnw5:=aw (G:=K5) fnw
   have fxt5:=aw (G:=K5) fxt
   have hG5:=hG3.app K5
   have hN5:=hN3.app K5
   rw[<-hK5]
   clear hK5 hlk fxt' fxp fyp fby fxt fx fnw ffc hG3 hN3 r12 r00 w1 w2
   generalize G3++K5=G5 at*
   obtain⟨w1,w2,w3',_⟩:=hN5.row
   rw[hbc]at h2 k0 ku
   have hzi:=hp.inn z (EE hz)
   have hil5:(i:Int)<(out.length:Int):=by have:=(Ey.1 hz).1;omega
   obtain⟨z',hz',hrz,_⟩:=jH ho (show i<out.length by omega)
   rw[hz]at hz';cases hz'
   rw[EU]at hrz
   have hu2:=fun H=>gp H z.p (Pm.DI hzi.ok)
   obtain⟨g1,g2,g3,g4,g5,g6⟩:=hp.p0.o u hu
   have hrest: ∀lab,z.p.undo.at (bc:Int)=lab->True:=fun _ _=>trivial
   clear hrest
   have hlg:=Pm.cells_get z.p.undo (q:=bc) hbc4
   have huo:=Pm.DN hzi.ok
   have ht3:=fun H=>eA H z.p.undo ⟨z0,z1,z2,z3⟩ (Pm.DI hbok)
   have hu3:=fun H=>gp H u.by' (Pm.DI g1)
   have ht4:=fun H=>eA H u.by'.undo (z.p.undo.times ⟨z0,z1,z2,z3⟩) (Pm.DT (Pm.DI huo) (Pm.DI hbok))
   obtain⟨lab,hlab⟩: ∃lab,z.p.undo.at (bc:Int)=lab:=⟨_,rfl⟩
   rw[hlab]at h2 k0 ku hlg
   obtain⟨kk,hkk⟩: ∃kk:Nat,oX os i lab=kk:=⟨(oX os i lab).toNat,by have:=k0.1;omega⟩
   have hidx:=fun(H:AH) hl' n1' n2' a b=>Dj H n2 0 c2 os hl' hnl n1' n2' i lab a b
   rw[hkk]at k0 ku
   rw[Int.toNat_natCast]at ku
   have hkl:(kk:Int)<(os.length:Int):=by omega
   have hru:ak B n2 (kk*8) 8=some u.cells:=by
    have:=bL hos (j:=kk*8) (m:=8) (by have:=(Ey.1 ku).1;omega)
    rw[EU,ll os kk u ku]at this
    rw[this];rfl
   have hqv: ∃qv:Pm,u.by'.undo.times (z.p.undo.times ⟨z0,z1,z2,z3⟩)=qv:=⟨_,rfl⟩
   obtain⟨qv,hqv⟩:=hqv
   rw[hqv]at ht4 w
   generalize z.p.undo.times ⟨z0,z1,z2,z3⟩=q2 at ht3 ht4
   generalize z.p.undo=zu at hu2 hlg ht3
   generalize u.by'.undo=uu at hu3 ht4
   obtain⟨un,hun⟩: ∃k:Nat,u.nw=k:=⟨u.nw.toNat,by omega⟩
   obtain⟨zt,⟨y0,y1,y2,y3⟩⟩:=z
   obtain⟨q20,q21,q22,q23⟩:=q2
   obtain⟨zu0,zu1,zu2,zu3⟩:=zu
   obtain⟨uu0,uu1,uu2,uu3⟩:=uu
   obtain⟨qv0,qv1,qv2,qv3⟩:=qv
   unfold Pm.val at hu2 ht3 hu3 ht4
   unfold Fc.cells at hrz
   unfold Ou.cells at hru
   rw[hun]at hru
   simp only at hlg
   have hrz': ∀Y,ak (B++Y) n1 (i*5) 5=_:=fun Y=>aD hrz
   have hru': ∀Y,ak (B++Y) n2 (kk*8) 8=_:=fun Y=>aD hru
   have r02: ∀Y,aj (G5++Y) 0 2=some (.slice (some ⟨n2,0,none⟩) os.length c2):=fun Y=>by rw[ah,(hG5.app Y).a0];rfl
   have ffc': ∀Y,aj (G5++Y) G.length 1=some (O U fcn):=fun Y=>aw ffc5
   have fbc': ∀Y,aj (G5++Y) G3.length fcn=some (O U bc):=fun Y=>aw fbc
   have fbp': ∀Y,ak (G5++Y) G3.length 0 4=some [O U z0,O U z1,O U z2,O U z3]:=fun Y=>aD fbp
   refine X.seq (X.seq (X.g ?_))
   refine X.cf (X.skip ?_)
   refine X.seq (X.g ?_ (by simp[go_sem,e7,r00',fix,hil5,hrz'];rfl))
   refine X.seq (X.drawnBy (fun i=>i==2) follows (by decide+kernel) (Xd.s ?_))
   refine Xd.t (Sc b32 (hu2 _)) ?_
   refine Xd.s (Xd.nil ?_) (by simp[go_sem,ffc',hfc4,fbc',hbc4',hlg];rfl)
   have hid:=hidx (B++(G5++[.cells [O U zt,O U y0,O U y1,O U y2,O U y3] 103,.cells [O U lab] 3])) (aD hos) (B.length+(G3.length+1)) (B.length+(G5.length+1)) (by rw[bU];exact aw fix) (by rw[bU,bU];rfl)
   rw[hkk]at hid
   refine X.seq (X.region (Xl.s ?_ (by simp[go_sem,e7,r02];rfl)))
   refine Xl.o (Sc b38 hid) ?_
   refine Xl.s (Xl.nil ?_)
   refine X.seq (X.g ?_ (by simp[go_sem,e7,r02,hkl,hru',ld109x];rfl))
   have hwu:IntKind.i64.wrap ((aG out g.length:Int)+un)=(aG out g.length:Int)+un:=by rw[EP];omega
   have hset:=jO (l:=l) (t:=ia) (f:=fcn) hil' (by omega) ⟨(aG out g.length:Int)+un,⟨qv0,qv1,qv2,qv3⟩⟩
   unfold Fc.cells at hset
   simp only[setAll]at hset
   have hbd:ia*20+fcn*5+5<=(aV l).length:=by rw[dp];omega
   have w2': ∀Y,at_ (G5++Y) jr= .cells (aV l) 52:=fun Y=>by rw[ag w1];exact w2
   have hfin:gC l ia fcn ⟨(aG out g.length:Int)+un,⟨qv0,qv1,qv2,qv3⟩⟩=ld l (mL g out os (aG out g.length) o):=by
    rw[hnw,hfc,hun]at w
    simp only[Int.toNat_natCast]at w
    rw[w,hia];rfl
   have hll1:=ei l ia fcn ⟨(aG out g.length:Int)+un,⟨qv0,qv1,qv2,qv3⟩⟩
   refine X.drawnBy (fun i=>i==7||i==10||i==12||i==13) follows (by decide+kernel) (Xd.s ?_ (by simp[go_sem,e17,hwu];rfl))
   refine Xd.t (Sc b32 (hu3 _)) ?_
   refine Xd.s ?_
   refine Xd.t (Sc b32 (hu2 _)) ?_
   refine Xd.s ?_ (by simp[go_sem,fbp'];rfl)
   refine Xd.t (Sc b37 (ht3 _)) ?_
   refine Xd.t (Sc b37 (ht4 _)) ?_
   refine Xd.s (Xd.nil ?_) (by simp[go_sem,hset,hbd,w2'];rfl)
   refine X.g ?_ (by simp[go_sem,e202];rfl)
   exact hT _ _ _ (fun t ht=>by simp only[EG,EK,or_false]at ht;rcases ht with rfl|rfl|rfl|rfl|rfl|rfl|rfl|rfl<;>simp[ae]) (by simp[ae,hqq]) ((hG5.app _).setBig w4 _) ((hN5.app _).put hll1) hll1 hfin
 ·have hql:q=os.length:=by omega
  subst hql
  have e201:=hmo.e201
  have e202:=hmo.e202
  refine X.seq (X.g ?_ (by simp[go_sem,e201,e202];rfl))
  refine X.seq (X.cf (X.exit ?_))
  simp only[AX.then,AX.inBlock,if_true]
  rw[Fp]at hlw
  exact hQ _ _ l ⟨by simp[ae,hmo.me.e0],by simp[ae,hmo.me.e7],by simp[ae,hmo.me.e8],by simp[ae,hmo.me.e9]⟩ (by simp[ae,hmo.e12]) hlw hN
noncomputable def mv5:Code:=ek (ek (ek (ek (ek (Try.f19.body.getD .skip)))))
def zZ(H:AH)(n:Nat)(o:Option (List Row))(r:OpR):Prop:=match o with
 |none=>r= .pan (bf 5) H
 |some g'=> ∃H' s',r= .val (.tuple #[]) H'/\H.length<=H'.length/\at_ H' n= .cells [s'] 62/\SlG H' s' g'/\ ∀k,k<H.length->k≠n->at_ H' k=at_ H k
theorem mk26(H:AH)(n:Nat)(h:(n:Int)<=1000000):cF Try.prog H 26 (O U n) (O U n)=some (.slice (some ⟨H.length,0,none⟩) n n,H++[.cells (ints (List.replicate n 0)) 3]):=by
 have key: ∀m:Int,cF Try.prog H 26 (O U m) (O U m)=if plain (O U 0)=true/\0<=m/\m<=m/\((8:Nat):Int)*m<=281474976710656/\m<=9223372036854775807 then
  some (.slice (some ⟨H.length,0,none⟩) m.toNat m.toNat,H++[.cells (madeCells #[O U 0] (m.toNat*1)).toList 3])else none:=fun m=>by kernel_rfl
 rw[key,if_pos ⟨rfl,by omega,by omega,by omega,by omega⟩,Int.toNat_natCast,Hl,yy]
 simp[ints]
theorem CG(out:List Fc)(n:Nat):dN out n 0=List.replicate n 0:=by
 unfold dN
 apply FM
 intro k
 rw[EM,FD]
 by_cases h:k<n
 ·rw[EW h,if_pos h];simp
 ·rw[Ev.Fd (by simpa using h),if_neg h];rfl
theorem mv5_ok{H G0:AH}{E:Env}{n n1 c1 n2 c2:Nat}{s:Value}{g:List Row}{out:List Fc}{aC:Nat}{os:List Ou}{ns:List Nn}{b3:Option Addr}{c3:Nat}(hc:at_ H n= .cells [s] 62)(hs:SlG H s g)(hg:VG g)(hgl:g.length<=1000)(hp:PlG g out aC os ns)(hnews:aC≠0/\aC<=4)(hol:out.length<=1000)(hosl:os.length<=1000)(hnsl:ns.length<=1000)(ho:ak (H++G0) n1 0 (out.length*5)=some (eI out))(hos:ak (H++G0) n2 0 (os.length*8)=some (dm os))(h3:ns=[]\/ ∃n3,b3=some ⟨n3,0,none⟩/\ak (H++G0) n3 0 (ns.length*7)=some (dC ns))(e0:ae E 0= .pointer (some ⟨n,0,none⟩))(e7:ae E 7= .pointer (some ⟨(H++G0).length,0,none⟩)):
 X ⟨Try.prog,332,H⟩ mv5 (EndsY Try.prog Try.f19 H (zZ H n (if aG out g.length+aC<=1000 then some (fN g out aC os ns)else none))) E
   ((H++G0)++[.cells [.slice (some ⟨n1,0,none⟩) out.length c1,O U aC,.slice (some ⟨n2,0,none⟩) os.length c2,.slice b3 ns.length c3] 101]):=by
 have hnl:n<H.length:=by
  rcases FZ n H.length with h|h
  ·exact h
  ·rw[dJ h]at hc;cases hc
 have hsB:SlG (H++G0) s g:=hs.app
 have hcB:aj (H++G0) n 0=some s:=aw (by rw[ah,hc];rfl)
 have hatB:at_ (H++G0) n= .cells [s] 62:=by rw[ag hnl];exact hc
 have hBn:n<(H++G0).length:=by rw[Ez];omega
 have hBl:H.length<=(H++G0).length:=by rw[Ez];omega
 have hBk: ∀k,k<H.length->at_ (H++G0) k=at_ H k:=fun k hk=>ag hk
 generalize hBB:H++G0=B at*
 obtain⟨b0,k0,hsv⟩:=hsB.len
 have r0: ∀X,aj (B++X) n 0=some s:=fun X=>aw hcB
 rw[hsv]at r0
 have hmk:=fun H=>mk26 H g.length (by omega)
 rw[<-CG out]at hmk
 refine X.seq (X.g ?_ (by simp[go_sem,e0,r0,hmk];rfl))
 refine X.seq (X.g ?_ (by simp[go_sem,cK];rfl))
 refine X.seq ?_
 refine mvL0_ok (B:=B) (n:=n) (len:=g.length) (n1:=n1) (c1:=c1) (nums:=dN out g.length 0) (out:=out) (p1:=O U aC) (p2:= .slice (some ⟨n2,0,none⟩) os.length c2) (p3:= .slice b3 ns.length c3)
  ⟨by simp[ae,e0],by simp[ae,e7],by simp[ae],by simp[ae]⟩ ⟨rfl,rfl,rfl,by simp⟩ ho hol hp.dif ?_
 intro E1 G1 he1 hG1
 show X _ _ _ _ _
 refine X.seq (X.g ?_)
 refine X.seq ?_
 have hl1:=hG1.l
 refine mvL2_ok (B:=B) (n:=n) (out:=out) (s:=s) (g:=g) (j12:=G1.length) (ms:=gM out 0) (B7 out) hcB hsB hgl ⟨by simp[ae,he1.e0],by simp[ae,he1.e7],by simp[ae,he1.e8],by simp[ae,he1.e9]⟩ (by simp[ae]) (hG1.app _)
  ⟨aL _ _,by simp,by omega,.inl ⟨rfl,rfl,rfl⟩,fun _ _ _ _ h=>(by cases h)⟩ ?_
 intro E2 G2 sl he2 e12 hG2 hN2
 generalize G1.length=j12 at*
 show X _ _ _ _ _
 have hkl:=jg g out (EJ g.length)
 have hkle:=uy out g.length
 obtain⟨bs,cs,hsl⟩:=hN2.len
 have r12:aj G2 j12 0=some sl:=by rw[ah,hN2.ac];rfl
 have r01:aj G2 0 1=some (O U aC):=by rw[ah,hG2.a0];rfl
 have e7':=he2.e7
 have hwr:IntKind.i64.wrap ((aG out g.length:Int)+(aC:Int))=(aG out g.length:Int)+(aC:Int):=by rw[EP];omega
 rw[hkl]at hsl
 refine X.seq (X.g ?_ (by simp[go_sem,e12,r12,hsl];rfl))
 by_cases hmax:aG out g.length+aC<=1000
 ·rw[if_pos hmax]
  have hmax':(aG out g.length:Int)+(aC:Int)<=1000:=by omega
  refine X.seq (X.region (Xl.s ?_ (by simp[go_sem,e7',r01,hwr,hmax'];rfl)))
  refine Xl.o (Sc b16 (aZ _ _)) (Xl.nil ?_)
  refine X.seq ?_
  refine mvL4_ok (B:=B) (n:=n) (len:=g.length) (nums:=dN out g.length g.length) (sl:=sl) (j12:=j12) (l0:=eH g out g.length) (F:=renT out) (v17:=O U (aG out g.length:Nat)) (jj _ _ _) (by omega) ?_
   ⟨by simp[ae,aB,he2.e0],by simp[ae,aB,he2.e7],by simp[ae,aB,he2.e8],by simp[ae,aB,he2.e9]⟩ (by simp[ae,aB,e12]) (by simp[ae,aB]) hG2 hN2 ?_
  ·intro T hT f hf
   rw[hkl]at hT
   obtain⟨t,ht,hk,rfl⟩:=gH out g.length T hT
   have hface:az (eH g out g.length) (aG out t) f=az g t f:=by
    unfold az;rw[qX g out (EJ _) ht hk]
   rw[hface]
   rcases hg t ht f hf with h|h
   ·left
    rw[h]
    exact⟨by decide,rfl⟩
   ·right
    have hlo:=h.lo
    have hhi:=h.hi
    refine⟨hlo,mu out (az g t f).t.toNat,?_,?_⟩
    ·have hx:(az g t f).t.toNat<g.length:=by omega
     rw[nW hx,if_pos hx]
    ·unfold renT;rw[if_neg (by omega)]
  intro E3 G3 he3 e12' e17 hG3 hN3
  clear e12 e7' r12 r01
  show X _ _ _ _ _
  have hml:((eH g out g.length).map (Row.map (renT out))).length=aG out g.length:=by rw[Fl,hkl]
  obtain⟨G',ha,hl',hat',hkk⟩:=app22z (m:=aC) hnews.1 hnews.2 (by omega) hN3.gr
  have r12:aj G3 j12 0=some sl:=by rw[ah,hN3.ac];rfl
  have r01:aj G3 0 1=some (O U aC):=by rw[ah,hG3.a0];rfl
  have hlt:=hN3.lt
  have hgt:=hN3.gt
  have hac:at_ G' j12= .cells [sl] 24:=by rw[hkk j12 hlt (hN3.ot _ (.inr rfl))];exact hN3.ac
  have hle:G3.length<=G'.length:=by omega
  have e7':=he3.e7
  refine X.seq (X.g ?_ (by simp[go_sem,e12',e7',r12,r01,ha,hac,hle];rfl))
  have hG4:MB (G'.set j12 (.cells [.slice (some ⟨B.length+G3.length,0,none⟩) ((eH g out g.length).length+aC) (unk+20)] 24)) [.slice (some ⟨n1,0,none⟩) out.length c1,O U aC,.slice (some ⟨n2,0,none⟩) os.length c2,.slice b3 ns.length c3] (dN out g.length g.length) (gM out 0):=by
   refine MB.setBig ⟨?_,?_,?_,by have:=hG3.l;omega⟩ hgt _
   ·rw[hkk 0 (by omega) (hN3.ot _ (.inl (by omega)))];exact hG3.a0
   ·rw[hkk 1 (by omega) (hN3.ot _ (.inl (by omega)))];exact hG3.a1
   ·rw[hkk 2 (by omega) (hN3.ot _ (.inl (by omega)))];exact hG3.a2
  have hbl:(kZ g out aC).length=(eH g out g.length).length+aC:=by unfold kZ;rw[Ez,Fy,Fl]
  have hN4:MN B (G'.set j12 (.cells [.slice (some ⟨B.length+G3.length,0,none⟩) ((eH g out g.length).length+aC) (unk+20)] 24)) j12 (.slice (some ⟨B.length+G3.length,0,none⟩) (kZ g out aC).length (unk+20)) (kZ g out aC):=by
   refine⟨by rw[au (by omega),hbl],by rw[EA];omega,hgt,.inr ⟨G3.length,unk+20,rfl,by rw[EA];omega,?_,dp _,.inr rfl⟩,fun k hk=>dv (by omega)⟩
   rw[af (by omega)];exact hat'
  generalize G'.set j12 (.cells [.slice (some ⟨B.length+G3.length,0,none⟩) ((eH g out g.length).length+aC) (unk+20)] 24)=G4 at*
  have hb2:=uB g out aC
  refine X.seq ?_
  refine mvL8_ok (B:=B) (n:=n) (len:=g.length) (j12:=j12) (jr:=G3.length) (C:=unk+20) (first:=aG out g.length) (aC:=aC) (l0:=kZ g out aC) (ns:=ns) (b3:=b3) (c3:=c3) hb2 (by omega)
   (fun x hx=>by obtain⟨_,h1,h2,h3,_⟩:=hp.p0.i x hx;exact⟨h1,h2,h3⟩) hnsl h3 ⟨by simp[ae,he3.e0],by simp[ae,he3.e7],by simp[ae,he3.e8],by simp[ae,he3.e9]⟩ (by simp[ae,e12']) (by simp[ae,e17]) hG4 hN4 ?_
  intro E5 G5 he5 e125 e175 hG5 hN5
  show X _ _ _ _ _
  refine X.seq ?_
  refine mvL10_ok (B:=B) (n:=n) (j12:=j12) (jr:=G3.length) (C:=unk+20) (aC:=aC) (l0:=ld (kZ g out aC) (ns.map (tD (aG out g.length)))) (g:=g) (out:=out) (os:=os) (ns:=ns) hg hp hcB hsB (B7 out) ho hos (by rw[pV];exact hb2) (by rw[pV];omega) hgl hosl hol he5 e125 e175 hG5 hN5 ?_
  intro E6 G6 l he6 e126 hl hN6
  show X _ _ _ _ _
  have hlm:l=fN g out aC os ns:=by rw[hl];unfold fN allW;rw[ua]
  have e06:=he6.e0
  have r24:ak G6 j12 0 1=some [.slice (some ⟨B.length+G3.length,0,none⟩) l.length (unk+20)]:=ao hN6.ac rfl
  have hatn:at_ (B++G6) n= .cells [s] 62:=by rw[ag hBn];exact hatB
  refine X.g ?_ (by simp[go_sem,e06,e126,r24,hatn];rfl)
  obtain⟨v1,v2,v3,v4⟩:=hN6.row
  refine⟨_,⟨_,.slice (some ⟨B.length+G3.length,0,none⟩) l.length (unk+20),rfl,?_,?_,?_,?_⟩,_,fun t=> .inr rfl,.tuple #[],?_,rfl⟩
  ·rw[EA,Ez];omega
  ·exact au (by rw[Ez];omega) _
  ·refine .inr ⟨B.length+G3.length,0,unk+20,by rw[hlm],?_⟩
   rw[eO (by omega),aF]
   rw[<-hlm]
   exact ao v2 (dp _).symm
  ·intro k hk hne
   rw[af (Fg hne),ag (by omega),hBk k hk]
  ·simp[go_sem]<;>repeat constructor
 ·rw[if_neg hmax]
  have hmax': ¬(aG out g.length:Int)+(aC:Int)<=1000:=by omega
  refine X.seq (X.region (Xl.s ?_ (by simp[go_sem,e7',r01,hwr,hmax'];rfl)))
  refine Xl.p (Sc b16 (aM _ _)) ?_
  rw[<-hBB,EH]
  exact⟨.pan (bf 5) H,rfl,Ends.DL (P:=Try.prog) (fn:=Try.f19) (a:=[]) rfl⟩
theorem mu95(H:AH)(n:Nat)(a:Int)(v:Value):cR Try.prog H 95 (.map (some n)) (O U a) v=(match at_ H n with
 | .map es=>match bP Try.prog 3 (O U a) es 0 with
   |some (some (i,_))=>if Instr.sameBits 10000 ((es[i]?.map (·.1)).getD (O U a)) (O U a)=true then some (H.set n (.map (es.set i (O U a,v))))else none
   |some none=>some (H.set n (.map (es++[(O U a,v)])))
   |none=>none
 |_=>none):=by kernel_rfl
theorem lk95(H:AH)(n:Nat)(a:Int):cU Try.prog H 95 (.map (some n)) (O U a) true=(match at_ H n with
 | .map es=>match bP Try.prog 3 (O U a) es 0 with
   |some (some (_,v))=>some (.tuple #[v,.bool true])
   |some none=>some (.tuple #[.nilFunc,.bool false])
   |none=>none
 |_=>none):=by kernel_rfl
theorem Dq{g:List Row}{k:Int}{x:Fc}{out:List Fc}(h:rU g k x=some out):out.length<=4:=by
 unfold rU at h
 split at h
 ·unfold qB at h
  split at h
  ·cases h;simp
  ·cases h
 ·split at h
  ·unfold gJ at h
   simp only[EN]at h
   obtain⟨l,hl,h⟩:=h
   split at h
   ·cases h;rw[nQ hl];omega
   ·cases h
  ·split at h
   ·unfold rc at h
    simp only[EN]at h
    obtain⟨l,hl,h⟩:=h
    split at h
    ·cases h;simp
    ·cases h
   ·split at h
    ·unfold jn at h
     simp only[EN]at h
     obtain⟨l,hl,h⟩:=h
     have hb: ∀b:Bool,(if b=true then some l else none)=some out->l=out:=by
      intro b hb
      cases b
      ·cases hb
      ·exact Fj hb
     have:=hb _ h
     rw[<-this,rC hl];omega
    ·cases h
theorem moveG_ok(H:AH)(n:Nat)(s:Value)(g:List Row)(hc:at_ H n= .cells [s] 62)(hs:SlG H s g)(hg:VG g)(hgl:g.length<=1000)(k t:Int)(p:Pm):
 ACE Try.prog 19 [.pointer (some ⟨n,0,none⟩),.agg #[O U k,O U t,O U p.p0,O U p.p1,O U p.p2,O U p.p3]] H (zZ H n (jT g k t p)):=by
 refine ACE.ofY (N:=332) f19 rfl rfl (EL rfl) ?_
 have hcr:aj H n 0=some s:=by rw[ah,hc];rfl
 obtain⟨b0,k0,hsv⟩:=hs.len
 have r0: ∀X,aj (H++X) n 0=some s:=fun X=>aw hcr
 rw[hsv]at r0
 refine X.seq (X.g ?_)
 refine X.seq (X.g ?_ (by simp[go_sem,cK,mu95,bP,px];rfl))
 by_cases hk:k=1\/k=2\/k=3\/k=4
 ·have hlk: ∀X,cU Try.prog (H++(.cells [O U k,O U t,O U p.p0,O U p.p1,O U p.p2,O U p.p3] 64:: .map [(O U 1,.func (.func 33) #[] #[]),(O U 2,.func (.func 34) #[] #[]),(O U 3,.func (.func 35) #[] #[]),(O U 4,.func (.func 36) #[] #[])]::X)) 95 (.map (some (H.length+1))) (O U k) true=some (.tuple #[.func (.func (wZ k)) #[] #[],.bool true]):=by
   intro X
   rw[lk95,aq]
   rcases hk with rfl|rfl|rfl|rfl<;>simp[at_,bP,px,wZ,plain,iz]
  refine X.seq (X.g ?_ (by simp[go_sem,hlk];rfl))
  have hno:jT g k t p=none->EndsY Try.prog Try.f19 H (zZ H n (jT g k t p)) (.panic (bf 5)) [] (H++[.cells [O U k,O U t,O U p.p0,O U p.p1,O U p.p2,O U p.p3] 64,.map [(O U 1,.func (.func 33) #[] #[]),(O U 2,.func (.func 34) #[] #[]),(O U 3,.func (.func 35) #[] #[]),(O U 4,.func (.func 36) #[] #[])]]):=fun h=>⟨.pan (bf 5) H,by rw[h];rfl,Ends.DL (P:=Try.prog) (fn:=Try.f19) (a:=[]) rfl⟩
  by_cases ht0:0<=t
  case neg=>
   refine X.seq (X.drawnBy (fun i=>i==20||i==22) follows (by decide+kernel) (Xd.s ?_ (by simp[go_sem,ht0];rfl)))
   exact Xd.pan (by simp[go_sem]) (Sc b16 (aM _ _)) rfl (hno (by unfold jT;rw[if_neg (fun h=>ht0 h.2.1)]))
  by_cases htl:t<(g.length:Int)
  case neg=>
   refine X.seq (X.drawnBy (fun i=>i==20||i==22) follows (by decide+kernel) (Xd.s ?_ (by simp[go_sem,ht0,htl,r0];rfl)))
   exact Xd.pan (by simp[go_sem]) (Sc b16 (aM _ _)) rfl (hno (by unfold jT;rw[if_neg (fun h=>htl h.2.2.1)]))
  have hperm:=ja (H++[.cells [O U k,O U t,O U p.p0,O U p.p1,O U p.p2,O U p.p3] 64,.map [(O U 1,.func (.func 33) #[] #[]),(O U 2,.func (.func 34) #[] #[]),(O U 3,.func (.func 35) #[] #[]),(O U 4,.func (.func 36) #[] #[])]]) (.slice (some ⟨H.length,2,none⟩) 4 4) [p.p0,p.p1,p.p2,p.p3]
   (.inr ⟨_,_,_,rfl,by rw[ed];rfl⟩) (by simp)
  have hpo:cM [p.p0,p.p1,p.p2,p.p3]=p.ok:=rfl
  rw[hpo]at hperm
  cases hpk:p.ok
  case false=>
   rw[hpk]at hperm
   refine X.seq (X.drawnBy (fun i=>i==20||i==22) follows (by decide+kernel) (Xd.s ?_ (by simp[go_sem,ht0,htl,r0,sl39];rfl)))
   refine Xd.t (Sc b26 hperm) ?_
   refine Xd.s ?_
   exact Xd.pan (by simp[go_sem]) (Sc b16 (aM _ _)) rfl (hno (by unfold jT;rw[if_neg (fun h=>by rw[hpk]at h;exact absurd h.2.2.2 (by simp))]))
  rw[hpk]at hperm
  refine X.seq (X.drawnBy (fun i=>i==20||i==22) follows (by decide+kernel) (Xd.s ?_ (by simp[go_sem,ht0,htl,r0,sl39];rfl)))
  refine Xd.t (Sc b26 hperm) ?_
  refine Xd.s ?_
  refine Xd.t (Sc b16 (aZ _ _)) (Xd.nil ?_)
  have hx:fi g ⟨t,p⟩:=⟨ht0,htl,hpk⟩
  have hM:jT g k t p=(rU g k ⟨t,p⟩).bind fun out=>if aG out g.length+(np k).toNat<=1000 then some (fN g out (np k).toNat (vA k) (oD k))else none:=by
   unfold jT;rw[if_pos ⟨hk,ht0,htl,hpk⟩]
  have hbody:aO Try.prog (wZ k):=by
   rcases hk with rfl|rfl|rfl|rfl
   ·exact⟨_,f33,rfl,rfl⟩
   ·exact⟨_,f34,rfl,rfl⟩
   ·exact⟨_,f35,rfl,rfl⟩
   ·exact⟨_,f36,rfl,rfl⟩
  obtain⟨K,hK⟩: ∃K:AH,K=[.cells [O U k,O U t,O U p.p0,O U p.p1,O U p.p2,O U p.p3] 64,.map [(O U 1,.func (.func 33) #[] #[]),(O U 2,.func (.func 34) #[] #[]),(O U 3,.func (.func 35) #[] #[]),(O U 4,.func (.func 36) #[] #[])]]:=⟨_,rfl⟩
  have rm: ∀X,aj (K++X) 0 1=some (O U t):=fun X=>by rw[hK];rfl
  have rp: ∀X,ak (K++X) 0 2 4=some [O U p.p0,O U p.p1,O U p.p2,O U p.p3]:=fun X=>by rw[hK];rfl
  have rm0:=rm []
  have rp0:=rp []
  rw[Ft]at rm0 rp0
  rw[<-hK]at hno⊢
  obtain⟨r,hr,hac⟩:=plan_ok (H++K) n s g (aw hcr) hs.app hg ⟨t,p⟩ hx k hk
  unfold Fc.val at hac
  refine X.seq (X.region (Xl.s ?_ (by simp[go_sem,rm0,rp0];rfl)))
  cases hpf:rU g k ⟨t,p⟩with
  |none=>
   rw[hpf]at hr hM
   have hr:r= .pan (bf 5) (H++K):=hr
   subst hr
   refine Xl.p (bO.call (first:= #[]) (cap:= #[]) rfl (by simp[go_sem]) hbody hac) ?_
   exact⟨.pan (bf 5) H,by rw[hM];rfl,Ends.DL (P:=Try.prog) (fn:=Try.f19) (a:=[]) rfl⟩
  |some out=>
   rw[hpf]at hr hM
   obtain⟨v,X0,rfl,n1,c1,n2,c2,s3,rfl,ho,hos,h3⟩:=hr
   obtain⟨b3,c3,hs3,h3'⟩: ∃b3 c3,s3= .slice b3 (oD k).length c3/\(oD k=[]\/ ∃n3,b3=some ⟨n3,0,none⟩/\ak (H++K++X0) n3 0 ((oD k).length*7)=some (dC (oD k))):=by
    rcases h3 with ⟨hi,rfl⟩|⟨n3,c3,rfl,hr3⟩
    ·exact⟨none,0,by rw[hi];rfl,.inl hi⟩
    ·exact⟨_,c3,rfl,.inr ⟨n3,rfl,hr3⟩⟩
   subst hs3
   have hpg:=wn hg hx hpf
   have hn4:(np k).toNat≠0/\(np k).toNat<=4/\((np k).toNat:Int)=np k/\(vA k).length<=1000/\(oD k).length<=1000:=by
    rcases hk with rfl|rfl|rfl|rfl<;>decide
   have hol:out.length<=1000:=by have:=Dq hpf;omega
   refine Xl.o (bO.call (first:= #[]) (cap:= #[]) rfl (by simp[go_sem]) hbody hac) ?_
   refine Xl.s (Xl.nil ?_)
   show X _ _ _ _ _
   have hm5:=fun E=>mv5_ok (H:=H) (G0:=K++X0) (E:=E) (n:=n) (n1:=n1) (c1:=c1) (n2:=n2) (c2:=c2) (b3:=b3) (c3:=c3) hc hs hg hgl hpg ⟨hn4.1,hn4.2.1⟩ hol hn4.2.2.2.1 hn4.2.2.2.2 (by rw[<-EH];exact ho) (by rw[<-EH];exact hos)
    (by rw[<-EH];exact h3')
   simp only[EH,hn4.2.2.1]at hm5
   rw[hM,Option.bind_some]
   refine hm5 _ ?_ ?_
   ·simp[ae]
   ·simp[ae]
 ·have h1:(k==1)=false:=by simp;omega
  have h2:(k==2)=false:=by simp;omega
  have h3:(k==3)=false:=by simp;omega
  have h4:(k==4)=false:=by simp;omega
  have hF:jT g k t p=none:=by unfold jT;rw[if_neg (fun h=>hk h.1)]
  rw[hF]
  refine X.seq (X.g ?_ (by simp[go_sem,lk95,bP,px,h1,h2,h3,h4];rfl))
  refine X.seq (X.drawnBy (fun i=>i==20||i==22) follows (by decide+kernel) (Xd.s ?_))
  refine Xd.pan (by simp[go_sem]) (Sc b16 (aM _ _)) rfl ?_
  exact⟨.pan (bf 5) H,rfl,Ends.DL (P:=Try.prog) (fn:=Try.f19) (a:=[]) rfl⟩
end Go.Proofs.Ytjcomcgpjjianaa
