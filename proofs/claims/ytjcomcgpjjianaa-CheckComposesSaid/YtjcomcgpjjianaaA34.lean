import Derived.Test.YtjcomcgpjjianaaA19
import Derived.Test.YtjcomcgpjjianaaA33
set_option linter.all false
set_option maxHeartbeats 16000000
set_option maxRecDepth 8000
open Go.Value renaming int→O
open Go.IntKind renaming i64→U
namespace Go.Proofs.Ytjcomcgpjjianaa
open Go.Ev
def Rd.cells(m:Rd):List Value:=[O U m.kind,O U m.arc,O U m.sign,.bool m.up,O U m.ac,O U m.ap,O U m.tc,O U m.tp]
def uv(ms:List Rd):List Value:=ms.flatMap Rd.cells
theorem sg: ∀(ms:List Rd) (j:Nat) (m:Rd),ms[j]? =some m->(uv ms).drop (j*8)=m.cells++uv (ms.drop (j+1))
 | [],_,_,h=>by simp at h
 |e::ms,0,m,h=>by simp at h;subst h;simp[uv]
 |e::ms,j+1,m,h=>by
  have:=sg ms j m (by simpa using h)
  rw[show(j+1)*8=e.cells.length+j*8 by simp[Rd.cells];omega]
  show(e.cells++uv ms).drop _=_
  rw[Gi,FL (by omega),Fa,List.nil_append]
  exact this
def SlRd(H:AH)(v:Value)(l:List Rd):Prop:=(l=[]/\(v= .slice none 0 0\/ ∃i c,v= .slice (some ⟨0,i,some 0⟩) 0 c))\/(∃n i c,v= .slice (some ⟨n,i,none⟩) l.length c/\ak H n i (l.length*8)=some (uv l))
theorem SlRd.len{H:AH}{v:Value}{l:List Rd}(h:SlRd H v l): ∃b c,v= .slice b l.length c:=by
 rcases h with ⟨rfl,h|⟨i,c,h⟩⟩|⟨n,i,c,h,_⟩<;>exact⟨_,_,h⟩
theorem SlRd.app{H G:AH}{v:Value}{l:List Rd}(h:SlRd H v l):SlRd (H++G) v l:=by
 rcases h with h|⟨n,i,c,h,hr⟩
 ·exact .inl h
 ·exact .inr ⟨n,i,c,h,aD hr⟩
theorem SlRd.read{H:AH}{v:Value}{l:List Rd}(h:SlRd H v l){j:Nat}{x:Rd}(hx:l[j]? =some x):
 ∃n i c,v= .slice (some ⟨n,i,none⟩) l.length c/\ak H n (i+j*8) 8=some x.cells:=by
 rcases h with ⟨rfl,_⟩|⟨n,i,c,h,hr⟩
 ·simp at hx
 ·refine⟨n,i,c,h,?_⟩
  have hj:j<l.length:=(Ey.1 hx).1
  rw[bL hr (j:=j*8) (m:=8) (by omega),sg l j x hx]
  rfl
noncomputable def pG:List Rd->List Cr->Int->Option (List Cr×Int)
 | [],l,lo=>some (l,lo)
 |m::r,l,lo=>match fZ l lo m with
  |none=>none
  |some (l',lo')=>pG r l' lo'
noncomputable def iF(a b:Dg)(ms:List Rd)(order arcs:List Int):Int:=match kU a with
 |some e=>e
 |none=>match kU b with
  |some e=>e
  |none=>if 20000<ms.length then 2 else
   match pG ms a.l a.n with
   |none=>5
   |some (l,lo)=>
    if(order.length=l.length/\arcs.length=2*l.length)/\cM order=true/\cM arcs=true then
     (if kX (eB l order arcs) b.l=true/\lo=b.n then 0 else 5)
    else 5
theorem bs114(H:AH)(b1 b2:Option Addr)(l1 k1 l2 k2:Nat)(x1 x2:Int):
 aQ Try.prog H 114 2 [(0,.agg #[.slice b1 l1 k1,O U x1]),(1,.agg #[.slice b2 l2 k2,O U x2])]=some (.slice (some ⟨H.length,0,none⟩) 2 2,H++[.cells [.slice b1 l1 k1,O U x1,.slice b2 l2 k2,O U x2] 32]):=by kernel_rfl
section
variable {H G:AH}{a:Env}
theorem link_ret{e:Int}(h3:at_ G 3= .cells [O U e] 36)(hl:3<G.length)(a6:ae a 6= .pointer (some ⟨H.length+3,0,none⟩)):
 tA Try.prog Try.f9 15 (H.length+3) H (.val (O U e) H) .ret a (H++G):=by
 have hr:aj (H++G) (H.length+3) 0=some (O U e):=by rw[bU,ah,h3];rfl
 exact⟨_,mA _ _,Ends.quiet (by simp[go_sem,a6,ld36,hr]) rfl⟩
theorem fm{x k:Int}(h3:at_ G 3= .cells [O U x] 36)(hl:3<G.length)(a6:ae a 6= .pointer (some ⟨H.length+3,0,none⟩)):
 tA Try.prog Try.f9 15 (H.length+3) H (.val (O U k) H) (.panic (bf k)) a (H++G):=by
 have hc:=m7 (H.length+3) (H++G) x k (by rw[aq];exact h3) (by simp;omega)
 rw[bV,EH]at hc
 have hr:aj (H++(G.set 3 (.cells [O U k] 36)++[.cells [O U k] 92])) (H.length+3) 0=some (O U k):=by
  rw[bU,ah,ag (by simp;omega),au hl];rfl
 exact⟨lE k,_,hc,Ends.quiet (by simp[go_sem,a6,ld36,hr]) rfl⟩
end
structure LK(G:AH)(A0 A1 A2:List Value):Prop where
 a0:at_ G 0= .cells A0 32
 a1:at_ G 1= .cells A1 32
 a2:at_ G 2= .cells A2 35
 a3:at_ G 3= .cells [O U 0] 36
 len:3<G.length
theorem LK.app{G:AH}{A0 A1 A2:List Value}(h:LK G A0 A1 A2)(K:AH):LK (G++K) A0 A1 A2:=by
 have:=h.len
 exact⟨by rw[ag (by omega)];exact h.a0,by rw[ag (by omega)];exact h.a1,by rw[ag (by omega)];exact h.a2,by rw[ag (by omega)];exact h.a3,by simp;omega⟩
theorem BC{H S:AH}(hl:H.length<=S.length)(h: ∀k,k<H.length->at_ S k=at_ H k): ∃G,S=H++G:=by
 refine⟨S.drop H.length,?_⟩
 have:S.take H.length=H:=by
  apply Gx
  ·simp;omega
  ·intro i h1 h2
   rw[List.getElem_take]
   have:=h i h2
   unfold at_ at this
   rw[Ex (by omega),Ex h2]at this
   simpa using this
 conv=>lhs;rw[<-Hd H.length S]
 rw[this]
theorem kG.one{ops:List Oper}{Q:AX->Env->AH->Prop}{u:Value}{a:Env}{H:AH}{t:Tmp}{v:Value}(hv:ae a t=v)(ho:(ops.all fun o=>o.dst !=some t)=true)(h:Q (.panic u) [(t,v)] H):kG ops Q u a H:=by
 refine⟨[(t,v)],fun s=> ?_,h⟩
 by_cases e:t=s
 ·subst e
  refine .inr ⟨by simp[ae,hv],fun o hm hd=> ?_⟩
  have:=EI.1 ho o hm
  rw[hd]at this;simp at this
 ·exact .inl (by simp[ae,e])
theorem B8(H:AH)(da db:Dg)(hda:jK H da.s da.l)(hdb:jK H db.s db.l)(lv ov av:Value)(ms:List Rd)(order arcs:List Int)(hlv:SlRd H lv ms)(hov:cy H ov order)(hav:cy H av arcs):
 AC Try.prog 9 [dgV da.s da.n,dgV db.s db.n,.agg #[lv,ov,av]] H (.val (O U (iF da db ms order arcs)) H):=by
 obtain⟨sa,la,na⟩:=da
 obtain⟨sb,lb,nb⟩:=db
 simp only at hda hdb
 obtain⟨b1,k1,rfl⟩:=hda.len
 obtain⟨b2,k2,rfl⟩:=hdb.len
 obtain⟨b3,k3,rfl⟩:=hlv.len
 obtain⟨b4,k4,rfl⟩:=hov.len
 obtain⟨b5,k5,rfl⟩:=hav.len
 refine AC.Ec (n:=H.length+3) (g:=15) (N:=128) f9 rfl rfl (EL rfl) rfl rfl rfl ⟨_,f15,rfl,rfl⟩ fun σ w hr=> ?_
 refine W.region (Wl.seg (by simp[go_sem,dgV]<;>repeat constructor) (Wl.nil ⟨rfl,by simp[bq,ae],fun D σ' w' hr'=> ?_⟩))
 have hLK0:LK [.cells [.slice b1 la.length k1,O U na] 32,.cells [.slice b2 lb.length k2,O U nb] 32,.cells [.slice b3 ms.length k3,.slice b4 order.length k4,.slice b5 arcs.length k5] 35,.cells [O U 0] 36,
  .cells [.slice b1 la.length k1,O U na,.slice b2 lb.length k2,O U nb] 32] [.slice b1 la.length k1,O U na] [.slice b2 lb.length k2,O U nb] [.slice b3 ms.length k3,.slice b4 order.length k4,.slice b5 arcs.length k5]:=⟨rfl,rfl,rfl,rfl,by simp⟩
 have hask:=fun G:AH=>asked_ok (H++([.cells [.slice b1 la.length k1,O U na] 32,.cells [.slice b2 lb.length k2,O U nb] 32,.cells [.slice b3 ms.length k3,.slice b4 order.length k4,.slice b5 arcs.length k5] 35,.cells [O U 0] 36,
  .cells [.slice b1 la.length k1,O U na,.slice b2 lb.length k2,O U nb] 32]++G)) [⟨.slice b1 la.length k1,la,na⟩,⟨.slice b2 lb.length k2,lb,nb⟩] (H.length+4) 2
  (by rw[aF];rfl) (by
   intro d hd
   simp only[EG,EK,or_false]at hd
   rcases hd with rfl|rfl
   ·exact hda.app
   ·exact hdb.app) (by simp)
 have hask:=hask []
 rw[Ft]at hask
 simp only[sD]at hask
 refine W.seq (W.region (Wl.s ?_ (by simp[go_sem,bs114];rfl)))
 cases hA:kU ⟨.slice b1 la.length k1,la,na⟩with
 |some e=>
  rw[hA]at hask
  have hF:iF ⟨.slice b1 la.length k1,la,na⟩ ⟨.slice b2 lb.length k2,lb,nb⟩ ms order arcs=e:=by unfold iF;rw[hA]
  rw[hF]
  exact Wl.p (Sc b23 hask) (fm rfl (by simp) (by simp[ae]))
 |none=>
 rw[hA]at hask
 cases hB:kU ⟨.slice b2 lb.length k2,lb,nb⟩with
 |some e=>
  rw[hB]at hask
  have hF:iF ⟨.slice b1 la.length k1,la,na⟩ ⟨.slice b2 lb.length k2,lb,nb⟩ ms order arcs=e:=by unfold iF;rw[hA,hB]
  rw[hF]
  exact Wl.p (Sc b23 hask) (fm rfl (by simp) (by simp[ae]))
 |none=>
 rw[hB]at hask
 have hF:iF ⟨.slice b1 la.length k1,la,na⟩ ⟨.slice b2 lb.length k2,lb,nb⟩ ms order arcs=if 20000<ms.length then 2 else
  match pG ms la na with
  |none=>5
  |some (l,lo)=>
   if(order.length=l.length/\arcs.length=2*l.length)/\cM order=true/\cM arcs=true then
    (if kX (eB l order arcs) lb=true/\lo=nb then 0 else 5)
   else 5:=by unfold iF;rw[hA,hB]
 rw[hF]
 have hGood:Good la na:=by
  unfold kU at hA
  split at hA
  ·rename_i h
   obtain⟨q1,q2,q3,q4⟩:=(gu la na).1 h
   exact⟨q4,q1,⟨q2,q3⟩⟩
  ·cases hA
 clear hF hA hB
 refine Wl.o (Sc b23 hask) ?_
 refine Wl.nil ?_
 show W _ _ _ _ _
 clear hask
 by_cases hmax:20000<ms.length
 ·rw[if_pos hmax]
  have hmax': ¬((ms.length:Int)<=20000):=by omega
  refine W.seq (W.region (Wl.s ?_ (by simp[go_sem,hmax'];rfl)))
  exact Wl.p (Sc b16 (aM _ _)) (fm rfl (by simp) (by simp[ae]))
 rw[if_neg hmax]
 have hmax':(ms.length:Int)<=20000:=by omega
 refine W.seq (W.region (Wl.s ?_ (by simp[go_sem,hmax'];rfl)))
 refine Wl.o (Sc b16 (aZ _ _)) ?_
 refine Wl.nil ?_
 show W _ _ _ _ _
 generalize hG0:([.cells [.slice b1 la.length k1,O U na] 32,.cells [.slice b2 lb.length k2,O U nb] 32,.cells [.slice b3 ms.length k3,.slice b4 order.length k4,.slice b5 arcs.length k5] 35,.cells [O U 0] 36,
  .cells [.slice b1 la.length k1,O U na,.slice b2 lb.length k2,O U nb] 32]:AH)=G0 at hLK0
 obtain⟨v',G1,na',hcl,how,hnl,hjk⟩:=rv (H++G0) (.slice b1 la.length k1) la hda.app (by have:=hGood.n;omega)
 have r00:aj (H++G0) H.length 0=some (.slice b1 la.length k1):=by rw[dH,ah,hLK0.a0];rfl
 have r01:aj (H++G0) H.length 1=some (O U na):=by rw[dH,ah,hLK0.a0];rfl
 have hLl:=hLK0.len
 have hlenS:(H++G0).length=H.length+G0.length:=by simp
 generalize hS:H++G0=S at hcl how hnl r00 r01 hlenS
 have hvc: ∃vb vc,v'= .slice vb la.length vc:=by
  rcases how with ⟨h,h0,_⟩|⟨C,h,_⟩
  ·exact⟨none,0,by rw[h,h0]⟩
  ·exact⟨_,_,h⟩
 obtain⟨vb,vc,rfl⟩:=hvc
 refine W.seq (W.drawnBy (fun i=>i==2) follows (by decide+kernel) (Dl.s ?_ (by simp[go_sem,r00];rfl)))
 refine Dl.quiet rfl (by simp[go_sem]) (Sc b24 hcl) ?_
 refine Dl.s (Dl.nil ?_) (by simp[go_sem,aw r01];rfl)
 have hDr0: ∃nA,(nA=S.length+G1.length\/H.length+4<=nA)/\DrO (S++(G1++[.cells [.slice vb la.length vc,O U na] 75])) (S.length+G1.length) nA la na:=by
  have hat:at_ (S++(G1++[AO.cells [.slice vb la.length vc,O U na] 75])) (S.length+G1.length)= .cells [.slice vb la.length vc,O U na] 75:=by rw[aq,aL]
  rcases how with ⟨h1,h2,h3⟩|⟨C,h1,h2,h3,h4,h5⟩
  ·refine⟨S.length+G1.length,.inl rfl,by simp,.inl ⟨rfl,Fr.1 h2,?_⟩⟩
   rw[hat,h1]
  ·rw[Ez]at h2
   refine⟨na',.inr (by omega),by simp,.inr ⟨C,by omega,by simp;omega,?_,?_,?_⟩⟩
   ·rw[hat,h1]
   ·rw[<-EH,ag (by rw[Ez];omega)];exact h3
   ·rcases h5 with ⟨h5,h6⟩|h5
    ·exact .inl ⟨h5,by omega⟩
    ·exact .inr h5
 obtain⟨nA0,hnA0,hDr0⟩:=hDr0
 have hS7:S.length+G1.length=H.length+(G0.length+G1.length):=by omega
 rw[hS7]at hDr0 hnA0
 have hLK1:=hLK0.app (G1++[.cells [.slice vb la.length vc,O U na] 75])
 have hSG:S++(G1++[.cells [.slice vb la.length vc,O U na] 75])=H++(G0++(G1++[.cells [.slice vb la.length vc,O U na] 75])):=by rw[<-hS,EH]
 rw[hSG]at hDr0
 rw[hSG]
 have hi0:4<=G0.length+G1.length:=by omega
 have hGGl:(G0++(G1++[AO.cells [.slice vb la.length vc,O U na] 75])).length=G0.length+G1.length+1:=by simp;omega
 generalize G0++(G1++[AO.cells [.slice vb la.length vc,O U na] 75])=GG at hLK1 hDr0 hGGl
 generalize hii:G0.length+G1.length=i0 at hS7 hDr0 hnA0 hi0
 have r20:aj GG 2 0=some (.slice b3 ms.length k3):=by rw[ah,hLK1.a2];rfl
 refine W.seq (W.seq (W.g ?_ (by simp[go_sem,r20];rfl)))
 refine W.block ?_
 refine W.loop (fun m E h=> ∃j G i nA l lo,m=ms.length-j/\j<=ms.length/\ae E 4= .pointer (some ⟨H.length+1,0,none⟩)/\ae E 5= .pointer (some ⟨H.length+2,0,none⟩)/\ae E 6= .pointer (some ⟨H.length+3,0,none⟩)/\ae E 7= .pointer (some ⟨H.length+i,0,none⟩)/\ae E 34= .slice b3 ms.length k3/\ae E 35=O U ms.length/\ae E 36=O U j/\h=H++G/\LK G [.slice b1 la.length k1,O U na] [.slice b2 lb.length k2,O U nb] [.slice b3 ms.length k3,.slice b4 order.length k4,.slice b5 arcs.length k5]/\4<=i/\(nA=H.length+i\/H.length+4<=nA)/\DrO (H++G) (H.length+i) nA l lo/\Good l lo/\pG ms la na=pG (ms.drop j) l lo) ms.length
  ⟨0,GG,i0,nA0,la,na,by omega,by omega,by simp[ae],by simp[ae],by simp[ae],by simp[ae,hS7],by simp[ae],by simp[ae],by simp[ae],rfl,hLK1,hi0,hnA0,hDr0,hGood,rfl⟩ ?_
 clear hLK0 hLK1 hDr0 hSG hS7 hii r20 r00 r01 hGood hnA0 hi0 hGGl how hcl hS hlenS hG0 hLl hjk hnl
 rintro m E h ⟨j,G,i,nA,l,lo,rfl,hj,e4,e5,e6,e7,e34,e35,e36,rfl,hG,hi4,hnA,hD,hgood,hlog⟩
 by_cases hlt:j<ms.length
 ·have hlt':(j:Int)<(ms.length:Int):=by omega
  have hx:ms[j]? =some (ms[j]'hlt):=Ex hlt
  rw[E7 hlt]at hlog
  generalize ms[j]'hlt=m1 at hx hlog
  obtain⟨kind,arc,sign,up,ac,ap,tc,tp⟩:=m1
  obtain⟨n',i',c',hb',h3⟩:=hlv.read hx
  cases hb'
  refine W.seq (W.g ?_ (by simp[go_sem,e35,e36,hlt'];rfl))
  refine W.seq (W.ct (W.skip ?_))
  refine W.seq (W.block ?_)
  refine W.seq (W.g ?_ (by simp[go_sem,e34,e36,hlt',aD h3,Rd.cells];rfl))
  have hrd:ak (H++(G++[.cells [O U kind,O U arc,O U sign,.bool up,O U ac,O U ap,O U tc,O U tp] 79])) (H.length+G.length) 0 8=some [O U kind,O U arc,O U sign,.bool up,O U ac,O U ap,O U tc,O U tp]:=by
   rw[aF];exact ao (aL _ _) rfl
  refine W.region (Wl.s ?_ (by simp[go_sem,e7,hrd];rfl))
  obtain⟨r,hr,hac⟩:=move_ok (H++(G++[.cells [O U kind,O U arc,O U sign,.bool up,O U ac,O U ap,O U tc,O U tp] 79])) (H.length+i) nA l lo (by rw[<-EH];exact hD.more _) hgood.s hgood.n hgood.lo ⟨kind,arc,sign,up,ac,ap,tc,tp⟩
  have hG1:=hG.app [.cells [O U kind,O U arc,O U sign,.bool up,O U ac,O U ap,O U tc,O U tp] 79]
  cases hmv:fZ l lo ⟨kind,arc,sign,up,ac,ap,tc,tp⟩with
  |none=>
   rw[hmv]at hr
   have hr:r= .pan (bf 5) _:=hr
   subst hr
   have hN:pG ms la na=none:=by rw[hlog];simp[pG,hmv]
   rw[hN]
   refine Wl.p (Sc b25 hac) ?_
   show tA _ _ _ _ _ _ (.panic _) _ _
   exact fm hG1.a3 hG1.len (by simp[ae,e6])
  |some p=>
   obtain⟨l',lo'⟩:=p
   rw[hmv]at hr
   obtain⟨S',nA',rfl,hD',hlen',hnA',hsame,_⟩:=hr
   have hiG:i<G.length:=by have:=hD.1;simp at this;omega
   have hSl:(H++(G++[AO.cells [O U kind,O U arc,O U sign,.bool up,O U ac,O U ap,O U tc,O U tp] 79])).length=H.length+(G.length+1):=by simp
   rw[hSl]at hlen' hnA' hsame
   obtain⟨G',rfl⟩:=BC (H:=H) (S:=S') (by omega) (fun k hk=>by rw[hsame k (by omega) (by omega) (by omega)];exact ag hk)
   have hlow: ∀k,k<4->at_ G' k=at_ (G++[.cells [O U kind,O U arc,O U sign,.bool up,O U ac,O U ap,O U tc,O U tp] 79]) k:=by
    intro k hk
    have:=hsame (H.length+k) (by omega) (by omega) (by omega)
    rw[aq,aq]at this
    exact this
   have hG':LK G' [.slice b1 la.length k1,O U na] [.slice b2 lb.length k2,O U nb] [.slice (some ⟨n',i',none⟩) ms.length k3,.slice b4 order.length k4,.slice b5 arcs.length k5]:=⟨by rw[hlow 0 (by omega)];exact hG1.a0,by rw[hlow 1 (by omega)];exact hG1.a1,by rw[hlow 2 (by omega)];exact hG1.a2,by rw[hlow 3 (by omega)];exact hG1.a3,by rw[Ez]at hlen';omega⟩
   refine Wl.o (Sc b25 hac) ?_
   refine Wl.nil ?_
   show W _ _ _ _ _
   refine W.g ?_ (by simp[go_sem,e36];rfl)
   refine⟨ms.length-(j+1),by omega,j+1,G',i,nA',l',lo',rfl,by omega,by simp[ae,e4],by simp[ae,e5],by simp[ae,e6],by simp[ae,e7],by simp[ae,e34],by simp[ae,e35],?_,rfl,hG',hi4,?_,hD',u9 hgood hmv,?_⟩
   ·simp only[ae,if_true];rw[aA (by omega)]
   ·rcases hnA' with h|h|h
    ·rw[h];exact hnA
    ·exact .inl h
    ·exact .inr (by omega)
   ·rw[hlog];simp[pG,hmv]
 ·have hjl:j=ms.length:=by omega
  subst hjl
  refine W.seq (W.g ?_ (by simp[go_sem,e35,e36];rfl))
  refine W.seq (W.cf (W.exit ?_))
  simp only[AX.then,AX.inBlock,if_true]
  rw[Fu]at hlog
  simp only[pG]at hlog
  rw[hlog]
  simp only
  obtain⟨s7,b7,C7,hs7,hat7,hsl7⟩:=hD.sl
  subst hs7
  rw[aq]at hat7
  have r7:aj G i 0=some (.slice b7 l.length C7):=by rw[ah,hat7];rfl
  have r71:aj G i 1=some (O U lo):=by rw[ah,hat7];rfl
  have r21:aj G 2 1=some (.slice b4 order.length k4):=by rw[ah,hG.a2];rfl
  have r22:aj G 2 2=some (.slice b5 arcs.length k5):=by rw[ah,hG.a2];rfl
  have hln:=hgood.n
  have hw2:=jz (n:=l.length) (by omega)
  have hc2:((2*l.length:Nat):Int)=2*(l.length:Int):=by omega
  rw[hc2]at hw2
  by_cases c1:order.length=l.length
  case neg=>
   have d1:((order.length:Int)==(l.length:Int))=false:=by simpa using fun h=>c1 (by omega)
   rw[if_neg (fun h=>c1 h.1.1)]
   refine W.seq (W.drawnBy (fun i=>i==26||i==31||i==33) follows (by decide+kernel) (Dl.s ?_ (by simp[go_sem,e5,e7,r7,r21,d1];rfl)))
   exact Dl.DX (by simp[go_sem]) (Sc b16 (aM _ _)) rfl (kG.one (t:=6) (v:= .pointer (some ⟨H.length+3,0,none⟩)) (by simp[ae,e6]) (by decide) (fm hG.a3 hG.len (by simp[ae])))
  have d1:((order.length:Int)==(l.length:Int))=true:=by rw[c1];simp
  by_cases c2:arcs.length=2*l.length
  case neg=>
   have d2:((arcs.length:Int)==2*(l.length:Int))=false:=by simpa using fun h=>c2 (by omega)
   rw[if_neg (fun h=>c2 h.1.2)]
   refine W.seq (W.drawnBy (fun i=>i==26||i==31||i==33) follows (by decide+kernel) (Dl.s ?_ (by simp[go_sem,e5,e7,r7,r21,r22,d1,d2,hw2];rfl)))
   exact Dl.DX (by simp[go_sem]) (Sc b16 (aM _ _)) rfl (kG.one (t:=6) (v:= .pointer (some ⟨H.length+3,0,none⟩)) (by simp[ae,e6]) (by decide) (fm hG.a3 hG.len (by simp[ae])))
  have d2:((arcs.length:Int)==2*(l.length:Int))=true:=by simp;omega
  have hp1:=ja (H++G) (.slice b4 order.length k4) order hov.app (by omega)
  have hp2:=ja (H++G) (.slice b5 arcs.length k5) arcs hav.app (by omega)
  cases p1:cM order
  ·rw[p1]at hp1
   rw[if_neg (fun h=>by cases h.2.1)]
   refine W.seq (W.drawnBy (fun i=>i==26||i==31||i==33) follows (by decide+kernel) (Dl.s ?_ (by simp[go_sem,e5,e7,r7,r21,r22,d1,d2,hw2];rfl)))
   refine Dl.t (Sc b26 hp1) ?_
   refine Dl.s ?_
   exact Dl.DX (by simp[go_sem]) (Sc b16 (aM _ _)) rfl (kG.one (t:=6) (v:= .pointer (some ⟨H.length+3,0,none⟩)) (by simp[ae,e6]) (by decide) (fm hG.a3 hG.len (by simp[ae])))
  rw[p1]at hp1
  cases p2:cM arcs
  ·rw[p2]at hp2
   rw[if_neg (fun h=>by cases h.2.2)]
   refine W.seq (W.drawnBy (fun i=>i==26||i==31||i==33) follows (by decide+kernel) (Dl.s ?_ (by simp[go_sem,e5,e7,r7,r21,r22,d1,d2,hw2];rfl)))
   refine Dl.t (Sc b26 hp1) ?_
   refine Dl.s ?_ (by simp[go_sem,e5,r22];rfl)
   refine Dl.t (Sc b26 hp2) ?_
   refine Dl.s ?_
   exact Dl.DX (by simp[go_sem]) (Sc b16 (aM _ _)) rfl (kG.one (t:=6) (v:= .pointer (some ⟨H.length+3,0,none⟩)) (by simp[ae,e6]) (by decide) (fm hG.a3 hG.len (by simp[ae])))
  rw[p2]at hp2
  rw[if_pos ⟨⟨c1,c2⟩,rfl,rfl⟩]
  refine W.seq (W.drawnBy (fun i=>i==26||i==31||i==33) follows (by decide+kernel) (Dl.s ?_ (by simp[go_sem,e5,e7,r7,r21,r22,d1,d2,hw2];rfl)))
  refine Dl.t (Sc b26 hp1) ?_
  refine Dl.s ?_ (by simp[go_sem,e5,r22];rfl)
  refine Dl.t (Sc b26 hp2) ?_
  refine Dl.s ?_
  refine Dl.t (Sc b16 (aZ _ _)) ?_
  refine Dl.nil ?_
  show W _ _ _ _ _
  refine W.seq (W.g ?_)
  refine W.seq (W.seq (W.g ?_ (by simp[go_sem,e5,r21];rfl)))
  refine W.block ?_
  have hor:=((er order).1 p1).1
  have q50:aj (H++G) (H.length+2) 2=some (.slice b5 arcs.length k5):=by rw[bU,r22]
  have q70:aj (H++G) (H.length+i) 0=some (.slice b7 l.length C7):=by rw[bU,r7]
  have hLS:=hG.len
  have hov':=hov.app (G:=G)
  have hav':=hav.app (G:=G)
  generalize hS:H++G=S at hsl7 q50 q70 hov' hav'
  generalize hn7:H.length+i=n7 at q70 e7
  generalize hn5:H.length+2=n5 at q50 e5
  generalize hn4:H.length+1=n4 at e4
  generalize hn6:H.length+3=n6 at e6
  refine W.loop (fun m E h=> ∃j T v,m=order.length-j/\j<=order.length/\ae E 4= .pointer (some ⟨n4,0,none⟩)/\ae E 5= .pointer (some ⟨n5,0,none⟩)/\ae E 6= .pointer (some ⟨n6,0,none⟩)/\ae E 7= .pointer (some ⟨n7,0,none⟩)/\ae E 10=v/\ae E 79= .slice b4 order.length k4/\ae E 80=O U order.length/\ae E 81=O U j/\h=S++T/\bA T S.length 73 5 v j (aE (eB l (order.take j) arcs))) order.length
   ⟨0,[],.slice none 0 0,by omega,by omega,by simp[ae,e4],by simp[ae,e5],by simp[ae,e6],by simp[ae,e7],by simp[ae],by simp[ae],by simp[ae],by simp[ae],by simp,.inl ⟨rfl,rfl,rfl⟩⟩ ?_
  clear e4 e5 e6 e7 e34 e35 e36 E r7 r71 r21 r22
  rintro m E h ⟨j,T,v,rfl,hj,e4,e5,e6,e7,e10,e79,e80,e81,rfl,hg⟩
  by_cases hlt:j<order.length
  ·have hlt':(j:Int)<(order.length:Int):=by omega
   have hi:order[j]? =some (order[j]'hlt):=Ex hlt
   have him:=hor (order[j]'hlt) (FE hlt)
   have htk:order.take (j+1)=order.take j++[order[j]'hlt]:=by rw[FP,hi];rfl
   generalize order[j]'hlt=i2 at hi him htk
   obtain⟨c,rfl⟩: ∃c:Nat,i2=c:=⟨i2.toNat,by omega⟩
   have hc:c<l.length:=by omega
   have hx:l[c]? =some (fD l c):=by unfold fD;rw[Ex hc];rfl
   have hxm:fD l c∈l:=EE hx
   have hrn:eB l (order.take (j+1)) arcs=eB l (order.take j) arcs++[(fD l c).map (nth arcs)]:=by rw[htk];simp[eB]
   generalize fD l c=x at hx hxm hrn
   obtain⟨no,io,co,hbo,hro⟩:=hov'.read hi
   cases hbo
   obtain⟨n',i',c',hb',h3⟩:=hsl7.read hx
   cases hb'
   refine W.seq (W.g ?_ (by simp[go_sem,e80,e81,hlt'];rfl))
   refine W.seq (W.ct (W.skip ?_))
   refine W.seq (W.block ?_)
   refine W.seq (W.g ?_ (by simp[go_sem,e79,e81,hlt',aw hro];rfl))
   refine W.seq (W.g ?_ (by simp[go_sem,e7,aw q70,hc,aD h3,Cr.cells];rfl))
   refine W.seq (W.seq (W.g ?_))
   refine W.block ?_
   refine W.loop (fun m E h=> ∃q,m=4-q/\q<=4/\ae E 4= .pointer (some ⟨n4,0,none⟩)/\ae E 5= .pointer (some ⟨n5,0,none⟩)/\ae E 6= .pointer (some ⟨n6,0,none⟩)/\ae E 7= .pointer (some ⟨n7,0,none⟩)/\ae E 10=v/\ae E 13= .pointer (some ⟨S.length+T.length,0,none⟩)/\ae E 79= .slice (some ⟨no,io,none⟩) order.length k4/\ae E 80=O U order.length/\ae E 81=O U j/\ae E 94= .agg #[O U x.a0,O U x.a1,O U x.a2,O U x.a3]/\ae E 95=O U q/\h=S++(T++[.cells (po (nth arcs) x q).cells 73])) 4
    ⟨0,rfl,by omega,by simp[ae,e4],by simp[ae,e5],by simp[ae,e6],by simp[ae,e7],by simp[ae,e10],by simp[ae],by simp[ae,e79],by simp[ae,e80],by simp[ae,e81],by simp[ae],by simp[ae],rfl⟩ ?_
   clear e4 e5 e6 e7 e10 e79 e80 e81 E
   rintro m E h ⟨q,rfl,hq,e4,e5,e6,e7,e10,e13,e79,e80,e81,e94,e95,rfl⟩
   by_cases hq4:q<4
   ·have hq':(q:Int)<4:=by omega
    have har:=x.arr hq4
    have har':=hgood.s.range x hxm q hq4
    obtain⟨a,ha⟩: ∃a:Nat,x.arc q=a:=⟨(x.arc q).toNat,by omega⟩
    have hal:a<arcs.length:=by omega
    have hy:arcs[a]? =some (nth arcs (x.arc q)):=by unfold nth;rw[ha,Int.toNat_natCast,Ex hal];rfl
    obtain⟨na5,ia5,ca5,hba,hra⟩:=hav'.read hy
    cases hba
    have hms:=uM (nth arcs) x hq4
    have hml:(po (nth arcs) x q).cells.length=5:=rfl
    have hq5:q+1<=5:=by omega
    refine W.seq (W.g ?_ (by simp[go_sem,e95,hq'];rfl))
    refine W.seq (W.ct (W.skip ?_))
    refine W.seq (W.block ?_)
    refine W.seq (W.g ?_ (by simp[go_sem,e94,e95,hq',ix38,har,ha];rfl))
    refine W.g ?_ (by simp[go_sem,e5,e13,aw q50,aw hra,hq',hal,wP,hms,hml,hq5];rfl)
    refine W.g ?_ (by simp[go_sem,e95];rfl)
    refine⟨4-(q+1),by omega,q+1,rfl,by omega,by simp[ae,e4],by simp[ae,e5],by simp[ae,e6],by simp[ae,e7],by simp[ae,e10],by simp[ae,e13],by simp[ae,e79],by simp[ae,e80],by simp[ae,e81],by simp[ae,e94],?_,rfl⟩
    simp only[ae,if_true];rw[aA (by omega)]
   ·have hqq:q=4:=by omega
    subst hqq
    have hm4:po (nth arcs) x 4=x.map (nth arcs):=rfl
    rw[hm4]
    refine W.seq (W.g ?_ (by simp[go_sem,e95];rfl))
    refine W.seq (W.cf (W.exit ?_))
    simp only[AX.then,AX.inBlock,if_true]
    generalize hY:x.map (nth arcs)=y at*
    have hy:y.cells=[O U y.a0,O U y.a1,O U y.a2,O U y.a3,O U y.s]:=rfl
    have gY:=hg.more [.cells y.cells 73]
    obtain⟨v',T',hap,hg',hl',hk,hno,hju⟩:=app30 (H:=S) y (by omega) gY
    rw[hy]at hap
    simp only[EH,List.cons_append,List.nil_append,Ez,List.length_cons,List.length_nil,EU]at hap hl'
    rw[hy]
    refine W.g ?_ (by simp[go_sem,e10,e13,pf,hap];rfl)
    refine W.g ?_ (by simp[go_sem,e81];rfl)
    refine⟨order.length-(j+1),by omega,j+1,T',v',rfl,by omega,by simp[ae,e4],by simp[ae,e5],by simp[ae,e6],by simp[ae,e7],by simp[ae],by simp[ae,e79],by simp[ae,e80],?_,rfl,?_⟩
    ·simp only[ae,if_true];rw[aA (by omega)]
    ·rw[hrn,lg]
     have:aE [y]=y.cells:=by simp[aE]
     rw[this];exact hg'
  ·have hjl:j=order.length:=by omega
   subst hjl
   refine W.seq (W.g ?_ (by simp[go_sem,e80,e81];rfl))
   refine W.seq (W.cf (W.exit ?_))
   simp only[AX.then,AX.inBlock,if_true]
   rw[Fp]at hg
   have hrl:(eB l order arcs).length=order.length:=by simp[eB]
   have hslv:jK (S++T) v (eB l order arcs):=by
    rcases hg with ⟨h1,h2,h3⟩|⟨i,C,h1,h2,h3,h4,_⟩
    ·exact .inl ⟨Fr.1 (by rw[hrl,h2]),.inl h1⟩
    ·refine .inr ⟨S.length+i,0,C,by rw[h1,hrl],?_⟩
     rw[aF]
     exact ao h3 (by rw[hrl,h4])
   subst hS hn7 hn5 hn4 hn6
   rw[EH]at hslv⊢
   have hGT:=hG.app T
   have heq:=Bi (H++(G++T)) v (.slice b2 lb.length k2) _ lb hslv hdb.app (by rw[hrl];omega)
   have r10:aj (G++T) 1 0=some (.slice b2 lb.length k2):=by rw[ah,hGT.a1];rfl
   have r11:aj (G++T) 1 1=some (O U nb):=by rw[ah,hGT.a1];rfl
   have hiG:i<G.length:=by have:=hD.1;simp at this;omega
   have r71:aj (G++T) i 1=some (O U lo):=by rw[ah,ag hiG,hat7];rfl
   cases p3:kX (eB l order arcs) lb
   ·rw[p3]at heq
    rw[if_neg (fun h=>by cases h.1)]
    refine W.seq (W.drawnBy (fun i=>i==3||i==14) follows (by decide+kernel) (Dl.s ?_ (by simp[go_sem,e4,e10,r10];rfl)))
    refine Dl.t (Sc b27 heq) ?_
    refine Dl.s ?_
    exact Dl.DX (by simp[go_sem]) (Sc b16 (aM _ _)) rfl (kG.one (t:=6) (v:= .pointer (some ⟨H.length+3,0,none⟩)) (by simp[ae,e6]) (by decide) (fm hGT.a3 hGT.len (by simp[ae])))
   rw[p3]at heq
   by_cases p4:lo=nb
   case neg=>
    have d4:(lo==nb)=false:=by simpa using p4
    rw[if_neg (fun h=>p4 h.2)]
    refine W.seq (W.drawnBy (fun i=>i==3||i==14) follows (by decide+kernel) (Dl.s ?_ (by simp[go_sem,e4,e10,r10];rfl)))
    refine Dl.t (Sc b27 heq) ?_
    refine Dl.s ?_ (by simp[go_sem,e4,e7,r71,r11,d4];rfl)
    exact Dl.DX (by simp[go_sem]) (Sc b16 (aM _ _)) rfl (kG.one (t:=6) (v:= .pointer (some ⟨H.length+3,0,none⟩)) (by simp[ae,e6]) (by decide) (fm hGT.a3 hGT.len (by simp[ae])))
   rw[if_pos ⟨rfl,p4⟩]
   subst p4
   refine W.seq (W.drawnBy (fun i=>i==3||i==14) follows (by decide+kernel) (Dl.s ?_ (by simp[go_sem,e4,e10,r10];rfl)))
   refine Dl.t (Sc b27 heq) ?_
   refine Dl.s ?_ (by simp[go_sem,e4,e7,r71,r11];rfl)
   refine Dl.t (Sc b16 (aZ _ _)) ?_
   refine Dl.nil ?_
   show W _ _ _ _ _
   have ha3:=hGT.a3
   refine W.seq (W.g ?_ (by simp[go_sem,e6,ha3];rfl))
   exact W.ret (link_ret (au hGT.len _) (by rw[EA];exact hGT.len) (by simp[ae,e6]))
theorem s6{L:List Int}{n:Nat}(hl:L.length=n)(hr: ∀x∈L,0<=x/\x<n)(hn:L.Nodup):
 (∀i,i<n->(nth L i).toNat<n/\0<=nth L i)/\(∀j,j<n->L.idxOf (j:Int)<n/\(nth L (L.idxOf (j:Int):Nat)).toNat=j)/\(∀i,i<n->L.idxOf (((nth L i).toNat:Nat):Int)=i):=by
 have hget: ∀i:Nat,(hi:i<n)->nth L (i:Int)=L[i]'(by omega):=by
  intro i hi;unfold nth;rw[Int.toNat_natCast,Ex (by omega)];rfl
 have hmem: ∀i:Nat,i<n->nth L (i:Int)∈L:=by intro i hi;rw[hget i hi];exact FE _
 have hall: ∀j:Nat,j<n->(j:Int)∈L:=by
  intro j hj
  have:=rh (l:=L) (m:=(List.range n).map fun k:Nat=>(k:Int)) hn (fun x hx=>by
   have:=hr x hx
   exact E9.2 ⟨x.toNat,ET.2 (by omega),by omega⟩) (by simp[hl])
  exact this j (E9.2 ⟨j,ET.2 hj,rfl⟩)
 refine⟨fun i hi=> ?_,fun j hj=> ?_,fun i hi=> ?_⟩
 ·have:=hr _ (hmem i hi);omega
 ·have hlt:L.idxOf (j:Int)<L.length:=List.idxOf_lt_length_of_mem (hall j hj)
  refine⟨by omega,?_⟩
  rw[hget _ (by omega),List.getElem_idxOf hlt]
  simp
 ·have h0:=hr _ (hmem i hi)
  rw[FW h0.1,hget i hi]
  exact hn.idxOf_getElem i (by omega)
theorem Bt{l:List Cr}(hs:ax l){cross arcs:List Int}(hc:cross.length=l.length)(ha:arcs.length=2*l.length)(hcr: ∀x∈cross,0<=x/\x<l.length)(hcn:cross.Nodup)(har: ∀x∈arcs,0<=x/\x<((2*l.length:Nat):Int))(han:arcs.Nodup):
 dE l (eB l cross arcs) (fun i=>(nth cross i).toNat) (fun j=>cross.idxOf (j:Int)) (fun i=>(nth arcs i).toNat) (fun j=>arcs.idxOf (j:Int)):=by
 obtain⟨a1,a2,a3⟩:=s6 hc hcr hcn
 obtain⟨b1,b2,b3⟩:=s6 ha har han
 refine⟨by simp[eB,hc],fun i hi=>(a1 i hi).1,fun j hj=>(a2 j hj).1,fun j hj=>(a2 j hj).2,a3,fun i hi=>(b1 i hi).1,fun j hj=>(b2 j hj).1,fun j hj=>(b2 j hj).2,b3,fun i hi=> ?_⟩
 have hlt:=(a1 i hi).1
 have hg:cross[i]? =some (nth cross i):=by unfold nth;rw[Int.toNat_natCast,Ex (by omega)];rfl
 have hx:l[(nth cross i).toNat]? =some (fD l (nth cross i).toNat):=by unfold fD;rw[Ex hlt];rfl
 refine⟨fD l (nth cross i).toNat,(fD l (nth cross i).toNat).map (nth arcs),by simp[eB,hg],hx,rfl,fun q hq=> ?_⟩
 rw[Cr.Ed _ _ hq]
 have hrg:=hs.range _ (EE hx) q hq
 have:=(b1 ((fD l (nth cross i).toNat).arc q).toNat (by omega)).2
 rw[FW hrg.1]at this
 rw[FW hrg.1,FW this]
theorem sP{d:Dg}{e:Int}(h:kU d=some e):e≠0:=by
 unfold kU at h
 split at h
 ·split at h
  ·cases h
  ·cases h;decide
 ·cases h;decide
theorem nth_map(f:Int->Int)(L:List Int)(i:Nat)(hi:i<L.length):nth (L.map f) i=f (nth L i):=by
 unfold nth
 rw[Int.toNat_natCast,EM,Ex hi];rfl
theorem Cr.map_map(f g:Int->Int)(x:Cr):(x.map f).map g=x.map (fun a=>g (f a)):=rfl
theorem Cr.Eg{f g:Int->Int}{x:Cr}(h: ∀q,q<4->f (x.arc q)=g (x.arc q)):x.map f=x.map g:=by
 have h0:=h 0 (by omega)
 have h1:=h 1 (by omega)
 have h2:=h 2 (by omega)
 have h3:=h 3 (by omega)
 simp only[Cr.arc]at h0 h1 h2 h3
 simp only[Cr.map]
 rw[h0,h1,h2,h3]
theorem Dv{l:List Cr}(hs:ax l){order arcs cross arcs2:List Int}(hl:order.length=l.length)(hor: ∀x∈order,0<=x/\x<l.length)(hal:arcs.length=2*l.length)(hcr: ∀x∈cross,0<=x/\x<l.length):eB l (cross.map (nth order)) (arcs.map (nth arcs2))=eB (eB l order arcs) cross arcs2:=by
 unfold eB
 rw[List.map_map]
 apply Hg
 intro i hi
 obtain⟨i1,i2⟩:=hcr i hi
 obtain⟨c,rfl⟩: ∃c:Nat,i=c:=⟨i.toNat,by omega⟩
 have hc:c<order.length:=by omega
 have hg:order[c]? =some (nth order c):=by unfold nth;rw[Int.toNat_natCast,Ex hc];rfl
 have hm:=hor _ (EE hg)
 have hx:l[(nth order c).toNat]? =some (fD l (nth order c).toNat):=by unfold fD;rw[Ex (by omega)];rfl
 simp only[Function.comp,Int.toNat_natCast]
 rw[show fD (order.map fun i=>(fD l i.toNat).map (nth arcs)) c=(fD l (nth order c).toNat).map (nth arcs)by
  conv=>lhs;unfold fD
  rw[EM,hg];rfl]
 rw[Cr.map_map]
 refine Cr.Eg fun q hq=> ?_
 have hrg:=hs.range _ (EE hx) q hq
 obtain⟨a,ha⟩: ∃a:Nat,(fD l (nth order c).toNat).arc q=a:=⟨((fD l (nth order c).toNat).arc q).toNat,by omega⟩
 rw[ha,nth_map _ _ _ (by omega)]
theorem vB{p q:List Int}{n:Nat}(hp:p.length=n)(hq:q.length=n)(hpr: ∀x∈p,0<=x/\x<n)(hpn:p.Nodup)(hqr: ∀x∈q,0<=x/\x<n)(hqn:q.Nodup):
 cM (p.map (nth q))=true:=by
 obtain⟨b1,b2,b3⟩:=s6 hq hqr hqn
 rw[er,Fl]
 refine⟨fun x hx=> ?_,jh hpn fun x hx y hy e=> ?_⟩
 ·obtain⟨i,hi,rfl⟩:=E9.1 hx
  have h0:=hpr i hi
  have:=b1 i.toNat (by omega)
  rw[FW h0.1]at this
  omega
 ·have hx0:=hpr x hx
  have hy0:=hpr y hy
  have e1:=b3 x.toNat (by omega)
  have e2:=b3 y.toNat (by omega)
  rw[FW hx0.1]at e1
  rw[FW hy0.1]at e2
  rw[e]at e1
  omega
theorem link_law{d e:Dg}{ms:List Rd}{order arcs cross arcs2:List Int}(h:iF d e ms order arcs=0)(hc:cross.length=e.l.length)(ha:arcs2.length=2*e.l.length)(hcd:iG cross.length [] cross=true)(had:iG arcs2.length [] arcs2=true)(s:Value):
 iF d ⟨s,eB e.l cross arcs2,e.n⟩ ms (cross.map (nth order)) (arcs.map (nth arcs2))=0:=by
 obtain⟨hcr,hcn⟩:=(kR _ cross [] GH).1 hcd
 obtain⟨har,han⟩:=(kR _ arcs2 [] GH).1 had
 rw[List.nil_append]at hcn han
 unfold iF at h
 cases hA:kU d with
 |some k=>rw[hA]at h;exact absurd h (sP hA)
 |none=>
 rw[hA]at h
 simp only at h
 cases hB:kU e with
 |some k=>rw[hB]at h;exact absurd h (sP hB)
 |none=>
 rw[hB]at h
 simp only at h
 by_cases hmax:20000<ms.length
 ·rw[if_pos hmax]at h;exact absurd h (by decide)
 rw[if_neg hmax]at h
 cases hlog:pG ms d.l d.n with
 |none=>rw[hlog]at h;simp at h
 |some p=>
 obtain⟨l,lo⟩:=p
 rw[hlog]at h
 simp only at h
 by_cases hcond:(order.length=l.length/\arcs.length=2*l.length)/\cM order=true/\cM arcs=true
 case neg=>rw[if_neg hcond]at h;exact absurd h (by decide)
 rw[if_pos hcond]at h
 by_cases heq:kX (eB l order arcs) e.l=true/\lo=e.n
 case neg=>rw[if_neg heq]at h;exact absurd h (by decide)
 obtain⟨⟨c1,c2⟩,p1,p2⟩:=hcond
 obtain⟨e1,e2⟩:=heq
 have e1:=(qi _ _).1 e1
 obtain⟨o1,o2⟩:=(er order).1 p1
 obtain⟨a1,a2⟩:=(er arcs).1 p2
 have hel:e.l.length=l.length:=by rw[<-e1];simp[eB,c1]
 have hgood:Good d.l d.n:=by
  unfold kU at hA
  split at hA
  ·rename_i h
   obtain⟨q1,q2,q3,q4⟩:=(gu d.l d.n).1 h
   exact⟨q4,q1,⟨q2,q3⟩⟩
  ·cases hA
 have hgl: ∀(ms:List Rd) (l0:List Cr) (lo0:Int),Good l0 lo0->pG ms l0 lo0=some (l,lo)->Good l lo:=by
  intro ms
  induction ms with
  |nil=>intro l0 lo0 hg he;simp only[pG,ER,Fe]at he;rw[<-he.1,<-he.2];exact hg
  |cons m ms ih=>
   intro l0 lo0 hg he
   simp only[pG]at he
   cases hm:fZ l0 lo0 m with
   |none=>rw[hm]at he;cases he
   |some p=>obtain⟨l1,lo1⟩:=p;rw[hm]at he;exact ih _ _ (u9 hg hm) he
 have hgl:=hgl ms _ _ hgood hlog
 have heS:eN e.l e.n=true/\pF e.l=true:=by
  unfold kU at hB
  split at hB
  ·rename_i h
   split at hB
   ·rename_i h2;exact⟨h,h2⟩
   ·cases hB
  ·cases hB
 obtain⟨q1,q2,q3,q4⟩:=(gu e.l e.n).1 heS.1
 have hR:=Bt q4 hc ha (by rw[<-hc];exact hcr) hcn (by rw[<-ha];exact har) han
 have hkS:=hR.sound q4
 have hkl:(eB e.l cross arcs2).length=e.l.length:=by simp[eB,hc]
 have hk:kU ⟨s,eB e.l cross arcs2,e.n⟩=none:=by
  unfold kU
  rw[if_pos ((gu _ _).2 ⟨by rw[hkl];exact q1,q2,q3,hkS⟩)]
  rw[if_pos ((vK hkS (by rw[hkl];exact q1)).2 (hR.planar q4 ((vK q4 q1).1 heS.2)))]
 unfold iF
 rw[hA,hk]
 simp only
 rw[if_neg hmax,hlog]
 simp only
 have hcl:cross.length=l.length:=by omega
 rw[if_pos ⟨⟨by rw[Fl,hcl],by rw[Fl,c2]⟩,vB (n:=l.length) hcl c1 (by rw[<-hcl];exact hcr) hcn (by rw[<-c1];exact o1) o2,vB (n:=2*l.length) c2 (by omega) (by rw[<-c2];exact a1) a2 (fun x hx=>by have:=har x hx;omega) han⟩]
 have hfin:eB l (cross.map (nth order)) (arcs.map (nth arcs2))=eB e.l cross arcs2:=by
  rw[Dv hgl.s c1 (by rw[<-c1];exact o1) c2 (by rw[<-hcl];exact hcr),e1]
 exact if_pos ⟨(qi _ _).2 hfin,e2⟩
deriving instance DecidableEq for Pm
structure Fc where
 t:Int
 p:Pm
 deriving DecidableEq
def Fc.cells(x:Fc):List Value:=[O U x.t,O U x.p.p0,O U x.p.p1,O U x.p.p2,O U x.p.p3]
def Fc.val(x:Fc):Value:= .agg #[O U x.t,O U x.p.p0,O U x.p.p1,O U x.p.p2,O U x.p.p3]
structure Row where
 f0:Fc
 f1:Fc
 f2:Fc
 f3:Fc
 deriving DecidableEq
def Row.at(r:Row)(q:Nat):Fc:=match q with| 0=>r.f0| 1=>r.f1| 2=>r.f2|_=>r.f3
def Row.cells(r:Row):List Value:=[O U r.f0.t,O U r.f0.p.p0,O U r.f0.p.p1,O U r.f0.p.p2,O U r.f0.p.p3,O U r.f1.t,O U r.f1.p.p0,O U r.f1.p.p1,O U r.f1.p.p2,O U r.f1.p.p3,
 O U r.f2.t,O U r.f2.p.p0,O U r.f2.p.p1,O U r.f2.p.p2,O U r.f2.p.p3,O U r.f3.t,O U r.f3.p.p0,O U r.f3.p.p1,O U r.f3.p.p2,O U r.f3.p.p3]
def Row.val(r:Row):Value:= .agg r.cells.toArray
theorem Row.DP(r:Row):r.cells.length=20:=rfl
theorem Row.face(r:Row){q:Nat}(hq:q<4):(r.cells.drop (q*5)).take 5=(r.at q).cells:=by
 match q,hq with
 | 0,_=>rfl
 | 1,_=>rfl
 | 2,_=>rfl
 | 3,_=>rfl
def aV(g:List Row):List Value:=g.flatMap Row.cells
theorem dp: ∀g:List Row,(aV g).length=g.length*20
 | []=>rfl
 |r::g=>by
  have:=dp g
  simp only[aV,FG,Ez,List.length_cons,Row.DP]at this⊢
  omega
theorem lO: ∀(g:List Row) (j:Nat) (r:Row),g[j]? =some r->(aV g).drop (j*20)=r.cells++aV (g.drop (j+1))
 | [],_,_,h=>by simp at h
 |e::g,0,r,h=>by simp at h;subst h;simp[aV]
 |e::g,j+1,r,h=>by
  have:=lO g j r (by simpa using h)
  rw[show(j+1)*20=e.cells.length+j*20 by rw[Row.DP];omega]
  show(e.cells++aV g).drop _=_
  rw[Gi,FL (by omega),Fa,List.nil_append]
  exact this
theorem nP(g h:List Row):aV (g++h)=aV g++aV h:=by simp[aV]
theorem Row.plain(r:Row):r.cells.all Ev.plain=true:=rfl
theorem Row.one(r:Row):r.cells.all Ev.one=true:=rfl
theorem sr(g:List Row):(aV g).all Ev.plain=true:=by
 rw[EI]
 intro v hv
 simp only[aV,Fi]at hv
 obtain⟨x,_,hx⟩:=hv
 exact EI.1 x.plain v hx
theorem nT(g:List Row):(aV g).all Ev.one=true:=by
 rw[EI]
 intro v hv
 simp only[aV,Fi]at hv
 obtain⟨x,_,hx⟩:=hv
 exact EI.1 x.one v hx
def SlG(H:AH)(v:Value)(g:List Row):Prop:=(g=[]/\(v= .slice none 0 0\/ ∃i c,v= .slice (some ⟨0,i,some 0⟩) 0 c))\/(∃n i c,v= .slice (some ⟨n,i,none⟩) g.length c/\ak H n i (g.length*20)=some (aV g))
theorem SlG.len{H:AH}{v:Value}{g:List Row}(h:SlG H v g): ∃b c,v= .slice b g.length c:=by
 rcases h with ⟨rfl,h|⟨i,c,h⟩⟩|⟨n,i,c,h,_⟩<;>exact⟨_,_,h⟩
theorem SlG.app{H G:AH}{v:Value}{g:List Row}(h:SlG H v g):SlG (H++G) v g:=by
 rcases h with h|⟨n,i,c,h,hr⟩
 ·exact .inl h
 ·exact .inr ⟨n,i,c,h,aD hr⟩
theorem SlG.read{H:AH}{v:Value}{g:List Row}(h:SlG H v g){j:Nat}{x:Row}(hx:g[j]? =some x):
 ∃n i c,v= .slice (some ⟨n,i,none⟩) g.length c/\ak H n (i+j*20) 20=some x.cells/\ ∀q,q<4->ak H n (i+j*20+q*5) 5=some (x.at q).cells:=by
 rcases h with ⟨rfl,_⟩|⟨n,i,c,h,hr⟩
 ·simp at hx
 ·have hj:j<g.length:=(Ey.1 hx).1
  have h20:ak H n (i+j*20) 20=some x.cells:=by
   rw[bL hr (j:=j*20) (m:=20) (by omega),lO g j x hx]
   rfl
  refine⟨n,i,c,h,h20,fun q hq=> ?_⟩
  rw[bL h20 (j:=q*5) (m:=5) (by omega),x.face hq]
theorem ix52(r:Row){q:Nat}(hq:q<4):eF Try.prog 52 (.agg #[O U r.f0.t,O U r.f0.p.p0,O U r.f0.p.p1,O U r.f0.p.p2,O U r.f0.p.p3,O U r.f1.t,O U r.f1.p.p0,O U r.f1.p.p1,O U r.f1.p.p2,O U r.f1.p.p3,
 O U r.f2.t,O U r.f2.p.p0,O U r.f2.p.p1,O U r.f2.p.p2,O U r.f2.p.p3,O U r.f3.t,O U r.f3.p.p0,O U r.f3.p.p1,O U r.f3.p.p2,O U r.f3.p.p3]) (O U q)=some (r.at q).val:=by
 have h0:eF Try.prog 52 (.agg r.cells.toArray) (O U 0)=some r.f0.val:=by kernel_rfl
 have h1:eF Try.prog 52 (.agg r.cells.toArray) (O U 1)=some r.f1.val:=by kernel_rfl
 have h2:eF Try.prog 52 (.agg r.cells.toArray) (O U 2)=some r.f2.val:=by kernel_rfl
 have h3:eF Try.prog 52 (.agg r.cells.toArray) (O U 3)=some r.f3.val:=by kernel_rfl
 match q,hq with
 | 0,_=>exact h0
 | 1,_=>exact h1
 | 2,_=>exact h2
 | 3,_=>exact h3
def az(g:List Row)(t q:Nat):Fc:=match g[t]? with|some r=>r.at q|none=>⟨-1,Pm.none⟩
def Fc.isEnd(x:Fc):Bool:=x.t== -1&&x.p.p0==0&&x.p.p1==0&&x.p.p2==0&&x.p.p3==0
def Fc.eq(x y:Fc):Bool:=x.t==y.t&&x.p.p0==y.p.p0&&x.p.p1==y.p.p1&&x.p.p2==y.p.p2&&x.p.p3==y.p.p3
theorem Fc.eq_iff(x y:Fc):x.eq y=true↔x=y:=by
 obtain⟨a,b,c,d,e⟩:=x
 obtain⟨a',b',c',d',e'⟩:=y
 simp only[Fc.eq,EC,beq_iff_eq,Fc.mk.injEq,Pm.mk.injEq]
 constructor
 ·rintro⟨⟨⟨⟨h1,h2⟩,h3⟩,h4⟩,h5⟩;exact⟨h1,h2,h3,h4,h5⟩
 ·rintro⟨h1,h2,h3,h4,h5⟩;exact⟨⟨⟨⟨h1,h2⟩,h3⟩,h4⟩,h5⟩
theorem Fc.D7(x:Fc):x.isEnd=true↔x=⟨-1,Pm.none⟩:=Fc.eq_iff x ⟨-1,Pm.none⟩
def okF(g:List Row)(t f:Nat)(x:Fc):Bool:=x.isEnd||(!(decide (x.t<0))&& !(decide ((g.length:Int)<=x.t))&&x.p.ok&& !(x.t==t&&x.p.at f==f)&&(az g x.t.toNat (x.p.at f).toNat).eq ⟨t,x.p.undo⟩)
def eX(g:List Row):Bool:=decide (g.length<=1000)&&(List.range g.length).all fun t=>(List.range 4).all fun f=>okF g t f (az g t f)
theorem jo(g:List Row):eX g=true↔g.length<=1000/\ ∀t,t<g.length-> ∀f,f<4->okF g t f (az g t f)=true:=by
 unfold eX
 simp only[EC,decide_eq_true_eq,EI,ET]
theorem sl39(n i:Nat):lw Try.prog 39 (.pointer (some ⟨n,i,none⟩)) none none none=some (.slice (some ⟨n,i,none⟩) 4 4):=by kernel_rfl
theorem SlG.face{H:AH}{v:Value}{g:List Row}(h:SlG H v g){t q:Nat}(ht:t<g.length)(hq:q<4):
 ∃n i c,v= .slice (some ⟨n,i,none⟩) g.length c/\ak H n (i+t*20+q*5) 5=some (az g t q).cells:=by
 have hx:g[t]? =some (g[t]'ht):=Ex ht
 obtain⟨n,i,c,h1,_,h3⟩:=h.read hx
 refine⟨n,i,c,h1,?_⟩
 rw[h3 q hq]
 unfold az
 rw[hx]
end Go.Proofs.Ytjcomcgpjjianaa
