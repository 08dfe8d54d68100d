import Derived.Test.YtjcomcgpjjianaaA19
import Derived.Test.YtjcomcgpjjianaaA34
import Derived.Test.YtjcomcgpjjianaaA42
set_option linter.all false
set_option maxHeartbeats 16000000
set_option maxRecDepth 8000
open Go.Value renaming int→O
open Go.IntKind renaming i64→U
namespace Go.Proofs.Ytjcomcgpjjianaa
open Go.Ev
structure Mv where
 k:Int
 t:Int
 p:Pm
def Mv.cells(m:Mv):List Value:=[O U m.k,O U m.t,O U m.p.p0,O U m.p.p1,O U m.p.p2,O U m.p.p3]
def yz(ms:List Mv):List Value:=ms.flatMap Mv.cells
theorem ui: ∀(ms:List Mv) (j:Nat) (m:Mv),ms[j]? =some m->(yz ms).drop (j*6)=m.cells++yz (ms.drop (j+1))
 | [],_,_,h=>by simp at h
 |e::ms,0,m,h=>by simp at h;subst h;simp[yz]
 |e::ms,j+1,m,h=>by
  have:=ui ms j m (by simpa using h)
  rw[show(j+1)*6=e.cells.length+j*6 by simp[Mv.cells];omega]
  show(e.cells++yz ms).drop _=_
  rw[Gi,FL (by omega),Fa,List.nil_append]
  exact this
def SlMv(H:AH)(v:Value)(l:List Mv):Prop:=(l=[]/\(v= .slice none 0 0\/ ∃i c,v= .slice (some ⟨0,i,some 0⟩) 0 c))\/(∃n i c,v= .slice (some ⟨n,i,none⟩) l.length c/\ak H n i (l.length*6)=some (yz l))
theorem SlMv.len{H:AH}{v:Value}{l:List Mv}(h:SlMv H v l): ∃b c,v= .slice b l.length c:=by
 rcases h with ⟨rfl,h|⟨i,c,h⟩⟩|⟨n,i,c,h,_⟩<;>exact⟨_,_,h⟩
theorem SlMv.app{H G:AH}{v:Value}{l:List Mv}(h:SlMv H v l):SlMv (H++G) v l:=by
 rcases h with h|⟨n,i,c,h,hr⟩
 ·exact .inl h
 ·exact .inr ⟨n,i,c,h,aD hr⟩
theorem SlMv.read{H:AH}{v:Value}{l:List Mv}(h:SlMv H v l){j:Nat}{x:Mv}(hx:l[j]? =some x):
 ∃n i c,v= .slice (some ⟨n,i,none⟩) l.length c/\ak H n (i+j*6) 6=some x.cells:=by
 rcases h with ⟨rfl,_⟩|⟨n,i,c,h,hr⟩
 ·simp at hx
 ·refine⟨n,i,c,h,?_⟩
  have hj:j<l.length:=(Ey.1 hx).1
  rw[bL hr (j:=j*6) (m:=6) (by omega),ui l j x hx]
  rfl
def qm:List Mv->List Row->Option (List Row)
 | [],g=>some g
 |m::r,g=>(jT g m.k m.t m.p).bind (qm r)
def eD(a b:List Row)(ms:List Mv)(order:List Int)(perms:List Pm):Int:=if eX a=true/\eX b=true then
    if 20000<ms.length then 2 else
     match qm ms a with
     |none=>5
     |some g=>match kA g order perms with
      |none=>5
      |some g'=>if eqG g' b=true then 0 else 5
 else 7
section
variable {H G:AH}{a:Env}
theorem DE{e:Int}(h3:at_ G 3= .cells [O U e] 36)(hl:3<G.length)(a6:ae a 6= .pointer (some ⟨H.length+3,0,none⟩)):
 tA Try.prog Try.f6 15 (H.length+3) H (.val (O U e) H) .ret a (H++G):=by
 have hr:aj (H++G) (H.length+3) 0=some (O U e):=by rw[bU,ah,h3];rfl
 exact⟨_,mA _ _,Ends.quiet (by simp[go_sem,a6,ld36,hr]) rfl⟩
theorem jk{x k:Int}(h3:at_ G 3= .cells [O U x] 36)(hl:3<G.length)(a6:ae a 6= .pointer (some ⟨H.length+3,0,none⟩)):
 tA Try.prog Try.f6 15 (H.length+3) H (.val (O U k) H) (.panic (bf k)) a (H++G):=by
 have hc:=m7 (H.length+3) (H++G) x k (by rw[aq];exact h3) (by simp;omega)
 rw[bV,EH]at hc
 have hr:aj (H++(G.set 3 (.cells [O U k] 36)++[.cells [O U k] 92])) (H.length+3) 0=some (O U k):=by
  rw[bU,ah,ag (by simp;omega),au hl];rfl
 exact⟨lE k,_,hc,Ends.quiet (by simp[go_sem,a6,ld36,hr]) rfl⟩
end
structure SK(G:AH)(sa sb lv ov pv:Value):Prop where
 a0:at_ G 0= .cells [sa] 24
 a1:at_ G 1= .cells [sb] 24
 a2:at_ G 2= .cells [lv,ov,pv] 29
 a3:at_ G 3= .cells [O U 0] 36
 len:3<G.length
theorem SK.app{G:AH}{sa sb lv ov pv:Value}(h:SK G sa sb lv ov pv)(K:AH):SK (G++K) sa sb lv ov pv:=by
 have:=h.len
 exact⟨by rw[ag (by omega)];exact h.a0,by rw[ag (by omega)];exact h.a1,by rw[ag (by omega)];exact h.a2,by rw[ag (by omega)];exact h.a3,by simp;omega⟩
theorem ld64x(H:AH)(n i:Nat):dQ Try.prog H 64 (.pointer (some ⟨n,i,none⟩))=(ak H n i 6).map fun l=> .agg l.toArray:=by kernel_rfl
theorem own_slG{S:AH}{na:Nat}{s:Value}{l:List Row}(h:nF S na 52 20 s l.length (aV l)):SlG S s l:=by
 rcases h with ⟨h1,h2,_⟩|⟨C,h1,h2,h3,h4,_⟩
 ·exact .inl ⟨Fr.1 h2,.inl h1⟩
 ·exact .inr ⟨na,0,C,h1,ao h3 h4.symm⟩
theorem uT(H:AH)(sa sb lv ov pv:Value)(a b:List Row)(ms:List Mv)(order:List Int)(perms:List Pm)(hsa:SlG H sa a)(hsb:SlG H sb b)(hlv:SlMv H lv ms)(hov:cy H ov order)(hpv:mv H pv perms):
 AC Try.prog 6 [glV sa,glV sb,.agg #[lv,ov,pv]] H (.val (O U (eD a b ms order perms)) H):=by
 obtain⟨b1,k1,rfl⟩:=hsa.len
 obtain⟨b2,k2,rfl⟩:=hsb.len
 obtain⟨b3,k3,rfl⟩:=hlv.len
 obtain⟨b4,k4,rfl⟩:=hov.len
 obtain⟨b5,k5,rfl⟩:=hpv.len
 refine AC.Ec (n:=H.length+3) (g:=15) (N:=53) f6 rfl rfl (EL rfl) rfl rfl rfl ⟨_,f15,rfl,rfl⟩ fun σ w hr=> ?_
 refine W.region (Wl.seg (by simp[go_sem,glV]<;>repeat constructor) (Wl.nil ⟨rfl,by simp[bq,ae],fun D σ' w' hr'=> ?_⟩))
 have hLK0:SK [.cells [.slice b1 a.length k1] 24,.cells [.slice b2 b.length k2] 24,.cells [.slice b3 ms.length k3,.slice b4 order.length k4,.slice b5 perms.length k5] 29,.cells [O U 0] 36] (.slice b1 a.length k1) (.slice b2 b.length k2) (.slice b3 ms.length k3) (.slice b4 order.length k4) (.slice b5 perms.length k5):=⟨rfl,rfl,rfl,rfl,by simp⟩
 have hga:=fun X=>r9 (H++X) (.slice b1 a.length k1) a hsa.app
 have hgb:=fun X=>r9 (H++X) (.slice b2 b.length k2) b hsb.app
 unfold glV at hga hgb
 cases hA:eX a
 case false=>
  rw[hA]at hga
  have hF:eD a b ms order perms=7:=by unfold eD;rw[if_neg (fun h=>by rw[hA]at h;exact absurd h.1 (by simp))]
  rw[hF]
  refine W.seq (W.region (Wl.s ?_))
  refine Wl.o (Sc b17 (hga _)) ?_
  refine Wl.s ?_
  exact Wl.p (Sc b16 (aM _ _)) (jk rfl (by simp) (by simp[ae,aB]))
 rw[hA]at hga
 cases hB:eX b
 case false=>
  rw[hB]at hgb
  have hF:eD a b ms order perms=7:=by unfold eD;rw[if_neg (fun h=>by rw[hB]at h;exact absurd h.2 (by simp))]
  rw[hF]
  refine W.seq (W.region (Wl.s ?_))
  refine Wl.o (Sc b17 (hga _)) ?_
  refine Wl.s ?_
  refine Wl.o (Sc b17 (hgb _)) ?_
  refine Wl.s ?_
  exact Wl.p (Sc b16 (aM _ _)) (jk rfl (by simp) (by simp[ae,aB]))
 rw[hB]at hgb
 have hF:eD a b ms order perms=if 20000<ms.length then 2 else
  match qm ms a with
  |none=>5
  |some g=>match kA g order perms with
   |none=>5
   |some g'=>if eqG g' b=true then 0 else 5:=by unfold eD;rw[if_pos ⟨hA,hB⟩]
 obtain⟨e,he⟩: ∃e,eD a b ms order perms=e:=⟨_,rfl⟩
 rw[he]
 rw[hF]at he
 refine W.seq (W.region (Wl.s ?_))
 refine Wl.o (Sc b17 (hga _)) ?_
 refine Wl.s ?_
 refine Wl.o (Sc b17 (hgb _)) ?_
 refine Wl.s ?_
 refine Wl.o (Sc b16 (aZ _ _)) ?_
 refine Wl.nil ?_
 show W _ _ _ _ _
 clear hga hgb
 by_cases hmax:20000<ms.length
 ·rw[if_pos hmax]at he
  subst he
  have hmax': ¬((ms.length:Int)<=20000):=by omega
  refine W.seq (W.region (Wl.s ?_ (by simp[go_sem,hmax'];rfl)))
  exact Wl.p (Sc b16 (aM _ _)) (jk rfl (by simp) (by simp[ae,aB]))
 rw[if_neg hmax]at he
 have hmax':(ms.length:Int)<=20000:=by omega
 refine W.seq (W.region (Wl.s ?_ (by simp[go_sem,hmax'];rfl)))
 refine Wl.o (Sc b16 (aZ _ _)) ?_
 refine Wl.nil ?_
 show W _ _ _ _ _
 generalize hG0:([.cells [.slice b1 a.length k1] 24,.cells [.slice b2 b.length k2] 24,.cells [.slice b3 ms.length k3,.slice b4 order.length k4,.slice b5 perms.length k5] 29,.cells [O U 0] 36]:AH)=G0 at hLK0
 obtain⟨hal,hav⟩:=(iR a).1 hA
 obtain⟨hbl,hbv⟩:=(iR b).1 hB
 obtain⟨v',G1,na',hcl,how,hnl,hjk⟩:=Bg (H++G0) (.slice b1 a.length k1) a hsa.app (by omega)
 have r00:aj G0 0 0=some (.slice b1 a.length k1):=by rw[ah,hLK0.a0];rfl
 have hsl:=own_slG how
 obtain⟨vb,vc,rfl⟩:=hsl.len
 refine W.seq (W.region (Wl.s ?_ (by simp[go_sem,r00];rfl)))
 refine Wl.o (Sc b18 hcl) ?_
 refine Wl.s (Wl.nil ?_)
 have hLK1:=(hLK0.app G1).app [.cells [.slice vb a.length vc] 62]
 have hl0:=hLK0.len
 have hl1:=hLK1.len
 have hsl':SlG (H++(G0++(G1++[.cells [.slice vb a.length vc] 62]))) (.slice vb a.length vc) a:=by rw[<-EH,<-EH,EH H G0 G1];rw[EH]at hsl;exact hsl.app
 have hat:at_ (G0++(G1++[AO.cells [.slice vb a.length vc] 62])) (G0.length+G1.length)= .cells [.slice vb a.length vc] 62:=by rw[aq,aL]
 have hl4:4<=G0.length+G1.length:=by omega
 rw[EH]at hLK1
 have hGGl:(G0++(G1++[AO.cells [.slice vb a.length vc] 62])).length=G0.length+G1.length+1:=by simp;omega
 have hadd:H.length+G0.length+G1.length=H.length+(G0.length+G1.length):=by omega
 have r20:aj (G0++(G1++[AO.cells [.slice vb a.length vc] 62])) 2 0=some (.slice b3 ms.length k3):=by rw[ah,hLK1.a2];rfl
 refine W.seq (W.seq (W.g ?_ (by simp[go_sem,r20];rfl)))
 refine W.block ?_
 refine W.loop (fun m E h=> ∃j G i s g,m=ms.length-j/\j<=ms.length/\ae E 4= .pointer (some ⟨H.length+1,0,none⟩)/\ae E 5= .pointer (some ⟨H.length+2,0,none⟩)/\ae E 6= .pointer (some ⟨H.length+3,0,none⟩)/\ae E 7= .pointer (some ⟨H.length+i,0,none⟩)/\ae E 29= .slice b3 ms.length k3/\ae E 30=O U ms.length/\ae E 31=O U (j:Nat)/\h=H++G/\SK G (.slice b1 a.length k1) (.slice b2 b.length k2) (.slice b3 ms.length k3) (.slice b4 order.length k4) (.slice b5 perms.length k5)/\4<=i/\at_ G i= .cells [s] 62/\i<G.length/\SlG (H++G) s g/\VG g/\g.length<=1000/\qm ms a=qm (ms.drop j) g) ms.length
  ⟨0,_,G0.length+G1.length,_,a,by omega,by omega,by simp[ae,aB],by simp[ae,aB],by simp[ae,aB],by simp[ae,aB,hadd],by simp[ae],by simp[ae],by simp[ae],rfl,hLK1,hl4,hat,by omega,hsl',hav,hal,rfl⟩ ?_
 clear hLK0 hLK1 hl0 hl1 hsl' hat hl4 hGGl hadd r20 r00 hsl how hcl hnl hjk hG0 hF
 rintro m E h ⟨j,G,i,s,g,rfl,hj,e4,e5,e6,e7,e29,e30,e31,rfl,hG,hi4,hat,hil,hsl,hgv,hgl,hlog⟩
 by_cases hlt:j<ms.length
 ·have hlt':(j:Int)<(ms.length:Int):=by omega
  have hjj:IntKind.i64.wrap ((j:Int)+1)=((j+1:Nat):Int):=aA (by omega)
  have hx:ms[j]? =some (ms[j]'hlt):=Ex hlt
  rw[E7 hlt]at hlog
  generalize ms[j]'hlt=m1 at hx hlog
  obtain⟨k,t,p⟩:=m1
  obtain⟨n',i',c',hb',h6⟩:=hlv.read hx
  cases hb'
  have h6': ∀X,ak (H++X) n' (i'+j*6) 6=_:=fun X=>aD h6
  unfold Mv.cells at h6'
  refine W.seq (W.g ?_ (by simp[go_sem,e30,e31,hlt'];rfl))
  refine W.seq (W.ct (W.skip ?_))
  refine W.seq (W.block ?_)
  refine W.seq (W.g ?_ (by simp[go_sem,e29,e31,hlt',h6',ld64x];rfl))
  have hat1:at_ (H++(G++[AO.cells [O U k,O U t,O U p.p0,O U p.p1,O U p.p2,O U p.p3] 64])) (H.length+i)= .cells [s] 62:=by rw[aq,ag hil];exact hat
  obtain⟨r,hr,hac⟩:=moveG_ok (H++(G++[AO.cells [O U k,O U t,O U p.p0,O U p.p1,O U p.p2,O U p.p3] 64])) (H.length+i) s g hat1 (by rw[<-EH];exact hsl.app) hgv hgl k t p
  have hG1:=hG.app [AO.cells [O U k,O U t,O U p.p0,O U p.p1,O U p.p2,O U p.p3] 64]
  refine W.region (Wl.s ?_ (by simp[go_sem,e7];rfl))
  cases hmv:jT g k t p with
  |none=>
   rw[hmv]at hr
   have hr:r= .pan (bf 5) _:=hr
   subst hr
   have hN:qm ms a=none:=by rw[hlog];simp[qm,hmv]
   rw[hN]at he
   have he:(5:Int)=e:=he
   subst he
   refine Wl.p (Sc b19 hac) ?_
   show tA _ _ _ _ _ _ (.panic _) _ _
   exact jk hG1.a3 hG1.len (by simp[ae,e6])
  |some g'=>
   rw[hmv]at hr
   obtain⟨S',s',rfl,hlen',hat',hsl',hsame⟩:=hr
   obtain⟨hgv',hgl'⟩:=yk hgv hmv
   have hSl:(H++(G++[AO.cells [O U k,O U t,O U p.p0,O U p.p1,O U p.p2,O U p.p3] 64])).length=H.length+(G.length+1):=by simp
   rw[hSl]at hlen' hsame
   obtain⟨G',rfl⟩:=BC (H:=H) (S:=S') (by omega) (fun k hk=>by rw[hsame k (by omega) (by omega)];exact ag hk)
   have hGl':G.length+1<=G'.length:=by rw[Ez]at hlen';omega
   have hG'k: ∀k,k<G.length->k≠i->at_ G' k=at_ G k:=by
    intro k hk hne
    have:=hsame (H.length+k) (by omega) (by omega)
    rw[aq,aq,ag hk]at this
    exact this
   have hGln:=hG.len
   have hG':SK G' _ _ _ _ _:=⟨by rw[hG'k 0 (by omega) (by omega)];exact hG.a0,by rw[hG'k 1 (by omega) (by omega)];exact hG.a1,by rw[hG'k 2 (by omega) (by omega)];exact hG.a2,by rw[hG'k 3 (by omega) (by omega)];exact hG.a3,by omega⟩
   refine Wl.o (Sc b19 hac) (Wl.nil ?_)
   refine W.g ?_ (by simp[go_sem,aB,e31];rfl)
   rw[aq]at hat'
   refine⟨ms.length-(j+1),by omega,j+1,G',i,s',g',rfl,by omega,by simp[ae,aB,e4],by simp[ae,aB,e5],by simp[ae,aB,e6],by simp[ae,aB,e7],by simp[ae,aB,e29],by simp[ae,aB,e30],by simp[ae,aB,hjj],rfl,hG',hi4,hat',by omega,hsl',hgv',hgl',?_⟩
   rw[hlog];simp[qm,hmv]
 ·have hjl:j=ms.length:=by omega
  subst hjl
  rw[Fu]at hlog
  have hlog:qm ms a=some g:=hlog
  rw[hlog]at he
  have he:(match kA g order perms with|none=>(5:Int)|some g'=>if eqG g' b=true then 0 else 5)=e:=he
  refine W.seq (W.g ?_ (by simp[go_sem,e30,e31];rfl))
  refine W.seq (W.cf (W.exit ?_))
  simp only[AX.then,AX.inBlock,if_true]
  have r7:ak G i 0 1=some [s]:=ao hat rfl
  have r1:aj G 1 0=some (.slice b2 b.length k2):=by rw[ah,hG.a1];rfl
  have r21:aj G 2 1=some (.slice b4 order.length k4):=by rw[ah,hG.a2];rfl
  have r22:aj G 2 2=some (.slice b5 perms.length k5):=by rw[ah,hG.a2];rfl
  obtain⟨r,hr,hac⟩:=vf (H++G) s (.slice b4 order.length k4) (.slice b5 perms.length k5) g order perms hsl hov.app hpv.app hgv hgl
  unfold glV at hac
  cases hR:kA g order perms with
  |none=>
   rw[hR]at hr he
   have he:(5:Int)=e:=he
   subst he
   have hr:r= .pan (bf 5) _:=hr
   subst hr
   refine W.seq (W.drawnPartBy [0,1,2,3,4,5,6,7,10,11,8] (fun i=>i==10) follows (by decide+kernel) (by decide+kernel) ?_)
   unfold iC
   simp only[Fv,Gy,GQ,GR]
   refine Dl.s ?_ (by simp[go_sem,e4,e5,e7,r7,r1,r21,r22];rfl)
   refine Dl.DX (by simp[go_sem]) (Sc b21 hac) rfl (kG.one (t:=6) (v:= .pointer (some ⟨H.length+3,0,none⟩)) (by simp[ae,e6]) (by decide+kernel) ?_)
   exact jk hG.a3 hG.len (by simp[ae])
  |some g'=>
   rw[hR]at hr he
   have he:(if eqG g' b=true then(0:Int)else 5)=e:=he
   obtain⟨s',X,rfl,hsX⟩:=hr
   unfold glV at hac
   have hgl':g'.length=g.length:=by
    unfold kA at hR
    split at hR
    ·cases hR;exact cI _ _ _
    ·cases hR
   have heq:=CO (H++G++X) s' (.slice b2 b.length k2) g' b hsX (by rw[EH];exact hsb.app) (by omega)
   have hGX:=hG.app X
   have r1':aj (G++X) 1 0=some (.slice b2 b.length k2):=aw r1
   rw[EH]at heq
   refine W.seq (W.drawnBy (fun i=>i==8||i==12||i==13) follows (by decide+kernel) (Dl.s ?_ (by simp[go_sem,e5,e7,r7,r21,r22];rfl)))
   refine Dl.quiet (aC:=X) rfl (by simp[go_sem]) (Sc b21 hac) ?_
   rw[EH]
   refine Dl.s ?_ (by simp[go_sem,e4,r1'];rfl)
   refine Dl.t (Sc b20 heq) ?_
   cases hE:eqG g' b
   ·rw[hE,if_neg (by simp)]at he
    subst he
    exact Dl.DX (by simp[go_sem]) (Sc b16 (aM _ _)) rfl (kG.one (t:=6) (v:= .pointer (some ⟨H.length+3,0,none⟩)) (by simp[ae,aB,e6]) (by decide) (jk hGX.a3 hGX.len (by simp[ae])))
   ·rw[hE,if_pos rfl]at he
    subst he
    refine Dl.t (Sc b16 (aZ _ _)) (Dl.nil ?_)
    show W _ _ _ _ _
    have h3:=hGX.a3
    have hl3:=hGX.len
    refine W.seq (W.g ?_ (by simp[go_sem,e6,h3];rfl))
    exact W.ret (DE (au hl3 _) (by rw[EA];exact hl3) (by simp[ae,aB,e6]))
theorem BR(H:AH){p:Pm}(hp:p.ok=true):AC Try.prog 14 [p.val] H (.val p.undo.val H):=by
 have:=Az H p
 unfold Pm.inv at this
 rwa [if_pos hp]at this
theorem tJ(H:AH){p q:Pm}(hp:p.ok=true)(hq:q.ok=true):AC Try.prog 8 [p.val,q.val] H (.val (p.times q).val H):=by
 have:=zQ H p q
 unfold Pm.comp at this
 rwa [if_pos ⟨hp,hq⟩]at this
theorem tv(H:AH)(s:Value)(g:List Row)(hs:SlG H s g):AC Try.prog 4 [glV s] H (.val (O U (if eX g=true then 0 else 7)) H):=by
 obtain⟨b,k,rfl⟩:=hs.len
 refine AC.o 83 f4 fun σ w hr=> ?_
 refine W.seq (W.g ?_ (by simp[go_sem,glV];rfl))
 refine W.seq (W.g ?_)
 by_cases hbig:1000<g.length
 ·have hbig':(1000:Int)<g.length:=by omega
  have hf:eX g=false:=by
   rw[FN]
   intro h
   have:=((jo g).1 h).1
   omega
  rw[hf,if_neg (by simp)]
  refine W.seq (W.seq (W.g ?_ (by simp[go_sem,hbig'];rfl)))
  refine W.ct ?_
  refine W.seq (W.g ?_)
  exact W.ret (Ends.quiet (by simp[go_sem]) rfl)
 have hbig': ¬(1000:Int)<g.length:=by omega
 refine W.seq (W.seq (W.g ?_ (by simp[go_sem,hbig'];rfl)))
 refine W.cf (W.skip ?_)
 refine W.seq (W.seq (W.g ?_))
 refine W.block ?_
 refine W.loop (fun m E h=> ∃(j:Nat) (G:AH),m=g.length-j/\j<=g.length/\ae E 1= .pointer (some ⟨H.length,0,none⟩)/\ae E 2=O U 0/\ae E 3=O U g.length/\ae E 4=O U j/\h=H++(.cells [.slice b g.length k] 24::G)/\ ∀t,t<j-> ∀f,f<4->okF g t f (az g t f)=true) g.length
  ⟨0,[],by omega,by omega,by simp[ae],by simp[ae],by simp[ae],by simp[ae],rfl,fun t ht=>by omega⟩ ?_
 rintro m E h ⟨j,G,rfl,hj,e1,e2,e3,e4,rfl,hok⟩
 have hjj:IntKind.i64.wrap ((j:Int)+1)=((j+1:Nat):Int):=aA (by omega)
 by_cases hlt:j<g.length
 ·have hlt':(j:Int)<(g.length:Int):=by omega
  refine W.seq (W.seq (W.g ?_ (by simp[go_sem,e3,e4,hlt'];rfl)))
  refine W.ct (W.skip ?_)
  refine W.seq (W.block ?_)
  refine W.seq (W.g ?_)
  refine W.block ?_
  refine W.loop (fun m E h=> ∃(q:Nat) (G:AH),m=4-q/\q<=4/\ae E 1= .pointer (some ⟨H.length,0,none⟩)/\ae E 2=O U 0/\ae E 3=O U g.length/\ae E 4=O U j/\ae E 5=O U q/\h=H++(.cells [.slice b g.length k] 24::G)/\ ∀f,f<q->okF g j f (az g j f)=true) 4
   ⟨0,G,by omega,by omega,by simp[ae,e1],by simp[ae,e2],by simp[ae,e3],by simp[ae,e4],by simp[ae],rfl,fun f hf=>by omega⟩ ?_
  clear e1 e2 e3 e4 E
  rintro m E h ⟨q,G,rfl,hq,e1,e2,e3,e4,e5,rfl,hokq⟩
  have hqq:IntKind.i64.wrap ((q:Int)+1)=((q+1:Nat):Int):=aA (by omega)
  by_cases hq4:q<4
  ·have hq4':(q:Int)<4:=by omega
   obtain⟨n',i',c',hb',h5⟩:=hs.face hlt hq4
   cases hb'
   have bad:okF g j q (az g j q)=false->eX g=false:=by
    intro h
    rw[FN]
    intro hh
    have:=((jo g).1 hh).2 j hlt q hq4
    rw[h]at this;cases this
   have hfin:okF g j q (az g j q)=true-> ∀f,f<q+1->okF g j f (az g j f)=true:=by
    intro h f hf
    by_cases e:f=q
    ·subst e;exact h
    ·exact hokq f (by omega)
   generalize az g j q=x at h5 bad hfin
   obtain⟨xt,⟨p0,p1,p2,p3⟩⟩:=x
   unfold okF Fc.isEnd at bad hfin
   unfold Fc.cells at h5
   simp only at bad hfin h5
   have h5': ∀X,ak (H++X) n' (i'+j*20+q*5) 5=_:=fun X=>aD h5
   refine W.seq (W.seq (W.g ?_ (by simp[go_sem,e5,hq4'];rfl)))
   refine W.ct (W.skip ?_)
   refine W.seq (W.block ?_)
   refine W.seq (W.g ?_ (by simp[go_sem,e1,e4,e5,hlt',hq4',h5'];rfl))
   have hnext: ∀{E:Env} {K':AH},ae E 1= .pointer (some ⟨H.length,0,none⟩)->ae E 2=O U 0->ae E 3=O U g.length->ae E 4=O U j->ae E 5=O U ((q+1:Nat):Int)->(∀f,f<q+1->okF g j f (az g j f)=true)-> ∃m,m<4-q/\ ∃(q:Nat) (G:AH),m=4-q/\q<=4/\ae E 1= .pointer (some ⟨H.length,0,none⟩)/\ae E 2=O U 0/\ae E 3=O U g.length/\ae E 4=O U j/\ae E 5=O U q/\H++(.cells [.slice (some ⟨n',i',none⟩) g.length k] 24::K')=H++(.cells [.slice (some ⟨n',i',none⟩) g.length k] 24::G)/\ ∀f,f<q->okF g j f (az g j f)=true:=by
    intro E K' a1 a2 a3 a4 a5 hk
    exact⟨4-(q+1),by omega,q+1,K',rfl,by omega,a1,a2,a3,a4,a5,rfl,hk⟩
   have hbase: ∀Y,ak (H++(.cells [.slice (some ⟨n',i',none⟩) g.length k] 24::(G++(.cells [O U xt,O U p0,O U p1,O U p2,O U p3] 51::Y)))) (H.length+(G.length+1)) 0 5=some [O U xt,O U p0,O U p1,O U p2,O U p3]:=by
    intro Y
    rw[aF,gF]
    exact ao (bF _ _ _) rfl
   have hb0:aj (H++(.cells [.slice (some ⟨n',i',none⟩) g.length k] 24::(G++[.cells [O U xt,O U p0,O U p1,O U p2,O U p3] 51]))) (H.length+(G.length+1)) 0=some (O U xt):=by
    have:=cG (hbase []) (j:=0) (by omega);rwa [Nat.add_zero]at this
   have h14:ak (H++(.cells [.slice (some ⟨n',i',none⟩) g.length k] 24::(G++[.cells [O U xt,O U p0,O U p1,O U p2,O U p3] 51]))) (H.length+(G.length+1)) 1 4=some [O U p0,O U p1,O U p2,O U p3]:=by
    have:=bL (hbase []) (j:=1) (m:=4) (by omega);rw[EU]at this;rw[this];rfl
   cases hend:(xt== -1&&p0==0&&p1==0&&p2==0&&p3==0)
   case true=>
    simp only[EC]at hend
    obtain⟨⟨⟨⟨z0,z1⟩,z2⟩,z3⟩,z4⟩:=hend
    refine W.seq (W.seq (W.g ?_ (by simp[go_sem,hb0,h14,z0,z1,z2,z3,z4];rfl)))
    refine W.ct (W.exit ?_)
    simp only[AX.then,AX.inBlock,if_true]
    refine W.g ?_ (by simp[go_sem,e5];rfl)
    exact hnext (by simp[ae,e1]) (by simp[ae,e2]) (by simp[ae,e3]) (by simp[ae,e4]) (by simp[ae,hqq]) (hfin (by rw[z0,z1,z2,z3,z4];rfl))
   rw[hend,Gm]at bad hfin
   refine W.seq (W.mono (Q:=fun x a h=>x= .normal/\ae a 1= .pointer (some ⟨H.length,0,none⟩)/\ae a 2=O U 0/\ae a 3=O U g.length/\ae a 4=O U j/\ae a 5=O U q/\ae a 6= .pointer (some ⟨H.length+(G.length+1),0,none⟩)/\h=H++(.cells [.slice (some ⟨n',i',none⟩) g.length k] 24::(G++[.cells [O U xt,O U p0,O U p1,O U p2,O U p3] 51]))) ?_ ?_)
   ·cases z0:(xt== -1)
    ·refine W.seq (W.g ?_ (by simp[go_sem,hb0,h14,z0];rfl))
     refine W.cf (W.skip ?_)
     exact⟨rfl,by simp[ae,e1],by simp[ae,e2],by simp[ae,e3],by simp[ae,e4],by simp[ae,e5],by simp[ae],rfl⟩
    ·rw[z0,F0]at hend
     refine W.seq (W.g ?_ (by simp[go_sem,hb0,h14,z0,hend];rfl))
     refine W.cf (W.skip ?_)
     exact⟨rfl,by simp[ae,e1],by simp[ae,e2],by simp[ae,e3],by simp[ae,e4],by simp[ae,e5],by simp[ae],rfl⟩
   clear e1 e2 e3 e4 e5 E
   rintro x E h ⟨rfl,e1,e2,e3,e4,e5,e6,rfl⟩
   show W _ _ _ _ _
   have hret:eX g=false-> ∀(E:Env) (G':AH),ae E 2=O U 7->Ev.Ends Try.prog Try.f4 H (.val (O U (if eX g=true then 0 else 7)) H) .ret E (H++G'):=by
    intro hf E G' h2
    rw[hf,if_neg (by simp)]
    exact Ends.quiet (by simp[go_sem,h2]) rfl
   cases c1:decide (xt<0)
   case true=>
    have hf:eX g=false:=bad (by rw[c1];rfl)
    refine W.seq (W.seq (W.g ?_ (by simp[go_sem,e6,hb0,c1];rfl)))
    refine W.ct ?_
    refine W.seq (W.g ?_)
    exact W.ret (hret hf _ _ (by simp[ae]))
   cases c2:decide ((g.length:Int)<=xt)
   case true=>
    have hf:eX g=false:=bad (by rw[c2];simp)
    refine W.seq (W.seq (W.g ?_ (by simp[go_sem,e3,e6,hb0,c1,c2];rfl)))
    refine W.ct ?_
    refine W.seq (W.g ?_)
    exact W.ret (hret hf _ _ (by simp[ae]))
   have hval:=fun X=>nE (H++X) (Pm.mk p0 p1 p2 p3)
   have hval: ∀X,AC Try.prog 13 [.agg #[O U p0,O U p1,O U p2,O U p3]] (H++X) (.val (.bool (Pm.mk p0 p1 p2 p3).ok) (H++X)):=hval
   cases c3:(Pm.mk p0 p1 p2 p3).ok
   case false=>
    rw[c3]at hval
    have hf:eX g=false:=bad (by rw[c3];simp)
    refine W.seq (W.seq (W.region (Wl.s ?_ (by simp[go_sem,e3,e6,hb0,h14,c1,c2];rfl))))
    refine Wl.o (Sc b13 (hval _)) ?_
    refine Wl.s (Wl.nil ?_)
    refine W.ct ?_
    refine W.seq (W.g ?_)
    exact W.ret (hret hf _ _ (by simp[ae]))
   rw[c3]at hval
   have hpin:=Pm.at4 c3 (i:=(q:Int)) ⟨by omega,by omega⟩
   have hpg:=Pm.cells_get (Pm.mk p0 p1 p2 p3) hq4
   have hinv:=fun X=>BR (H++X) c3
   have hinv: ∀X,AC Try.prog 14 [.agg #[O U p0,O U p1,O U p2,O U p3]] (H++X) (.val (Pm.undo (Pm.mk p0 p1 p2 p3)).val (H++X)):=hinv
   obtain⟨t,ht⟩: ∃t:Nat,xt=t:=⟨xt.toNat,by simp at c1;omega⟩
   subst ht
   have htl:t<g.length:=by simp at c2;omega
   have htl':(t:Int)<(g.length:Int):=by omega
   have hn1: ¬g.length<=t:=by omega
   generalize hpm:Pm.mk p0 p1 p2 p3=pm at hpin hpg bad hfin c3 hinv
   have hpg:([O U p0,O U p1,O U p2,O U p3]:List Value)[q]? =some (O U (pm.at q)):=by rw[<-hpm]at hpg⊢;exact hpg
   obtain⟨u,hu⟩: ∃u:Nat,pm.at q=u:=⟨(pm.at q).toNat,by have:=hpin.1;omega⟩
   have hu4:u<4:=by have:=hpin.2;omega
   have hu4':(u:Int)<4:=by omega
   rw[hu]at hpg bad hfin
   rw[Int.toNat_natCast,Int.toNat_natCast]at bad hfin
   have hb1q:aj (H++(.cells [.slice (some ⟨n',i',none⟩) g.length k] 24::(G++[.cells [O U (t:Int),O U p0,O U p1,O U p2,O U p3] 51]))) (H.length+(G.length+1)) (1+q)=some (O U u):=by
    rw[bU,oT,ah,aL,Gw 1 q]
    exact hpg
   have hd:(((t:Int)==(j:Int))=true/\((u:Int)==(q:Int))=true)\/(((t:Int)==(j:Int))=true/\((u:Int)==(q:Int))=false)\/((t:Int)==(j:Int))=false:=by
    cases h1:((t:Int)==(j:Int))<;>cases h2:((u:Int)==(q:Int))<;>simp_all
   have hcont: ∀E,ae E 1= .pointer (some ⟨H.length,0,none⟩)->True:=fun _ _=>trivial
   refine W.seq (W.mono (Q:=fun x a h=>(eX g=false/\Ev.Ends Try.prog Try.f4 H (.val (O U (if eX g=true then 0 else 7)) H) x a h/\x= .ret)\/(x= .normal/\((t:Int)==(j:Int)&&(u:Int)==(q:Int))=false/\ae a 1= .pointer (some ⟨H.length,0,none⟩)/\ae a 2=O U 0/\ae a 3=O U g.length/\ae a 4=O U j/\ae a 5=O U q/\ae a 6= .pointer (some ⟨H.length+(G.length+1),0,none⟩)/\h=H++(.cells [.slice (some ⟨n',i',none⟩) g.length k] 24::(G++[.cells [O U t,O U p0,O U p1,O U p2,O U p3] 51])))) ?_ ?_)
   ·rcases hd with ⟨d1,d2⟩|⟨d1,d2⟩|d1
    ·have hf:eX g=false:=bad (by rw[d1,d2];simp)
     refine W.seq (W.region (Wl.s ?_ (by simp[go_sem,e3,e6,hb0,h14,c1,c2,hn1];rfl)))
     refine Wl.o (Sc b13 (hval _)) ?_
     refine Wl.s (Wl.nil ?_) (by simp[go_sem,e4,e5,e6,hb0,d1,d2,hb1q,hq4'];rfl)
     refine W.ct ?_
     refine W.seq (W.g ?_)
     exact W.ret (.inl ⟨hf,hret hf _ _ (by simp[ae]),rfl⟩)
    ·refine W.seq (W.region (Wl.s ?_ (by simp[go_sem,e3,e6,hb0,h14,c1,c2,hn1];rfl)))
     refine Wl.o (Sc b13 (hval _)) ?_
     refine Wl.s (Wl.nil ?_) (by simp[go_sem,e4,e5,e6,hb0,d1,d2,hb1q,hq4'];rfl)
     refine W.cf (W.skip ?_)
     exact .inr ⟨rfl,by rw[d1,d2];rfl,by simp[ae,aB,e1],by simp[ae,aB,e2],by simp[ae,aB,e3],by simp[ae,aB,e4],by simp[ae,aB,e5],by simp[ae,aB,e6],rfl⟩
    ·refine W.seq (W.region (Wl.s ?_ (by simp[go_sem,e3,e6,hb0,h14,c1,c2,hn1];rfl)))
     refine Wl.o (Sc b13 (hval _)) ?_
     refine Wl.s (Wl.nil ?_) (by simp[go_sem,e4,e5,e6,hb0,d1];rfl)
     refine W.cf (W.skip ?_)
     exact .inr ⟨rfl,by rw[d1];rfl,by simp[ae,aB,e1],by simp[ae,aB,e2],by simp[ae,aB,e3],by simp[ae,aB,e4],by simp[ae,aB,e5],by simp[ae,aB,e6],rfl⟩
   clear e1 e2 e3 e4 e5 e6 E
   rintro x E h (⟨_,hE,rfl⟩|⟨rfl,hdd,e1,e2,e3,e4,e5,e6,rfl⟩)
   ·exact hE
   show W _ _ _ _ _
   have hgood:((az g t u).eq ⟨j,pm.undo⟩)=true-> ∀f,f<q+1->okF g j f (az g j f)=true:=fun h=>hfin (by rw[c1,c2,c3,hdd,h];rfl)
   have hbadd:((az g t u).eq ⟨j,pm.undo⟩)=false->eX g=false:=fun h=>bad (by rw[h];simp)
   obtain⟨n2,i2,c2',hb2,hface⟩:=hs.face htl hu4
   cases hb2
   generalize az g t u=y at hface hgood hbadd
   obtain⟨yt,⟨y0,y1,y2,y3⟩⟩:=y
   generalize pm.undo=pu at hinv hgood hbadd
   obtain⟨pu0,pu1,pu2,pu3⟩:=pu
   unfold Fc.eq at hgood hbadd
   unfold Fc.cells at hface
   unfold Pm.val at hinv
   simp only at hgood hbadd
   have hfr: ∀X,ak (H++X) n' (i'+t*20+u*5) 5=_:=fun X=>aD hface
   refine W.seq (W.drawnBy (fun i=>i==14) follows (by decide+kernel) (Dl.s ?_ (by simp[go_sem,e1,e4,e5,e6,hb0,hq4',hb1q,htl',hu4',hfr,h14];rfl)))
   refine Dl.t (Sc b14 (hinv _)) ?_
   cases c5:(yt==(j:Int)&&y0==pu0&&y1==pu1&&y2==pu2&&y3==pu3)
   ·refine Dl.s (Dl.nil ?_) (by simp[go_sem,c5];rfl)
    refine W.ct ?_
    refine W.seq (W.g ?_)
    exact W.ret (hret (hbadd c5) _ _ (by simp[ae]))
   ·refine Dl.s (Dl.nil ?_) (by simp[go_sem,c5];rfl)
    refine W.cf (W.skip ?_)
    refine W.g ?_ (by simp[go_sem,aB,e5];rfl)
    exact hnext (by simp[ae,aB,e1]) (by simp[ae,aB,e2]) (by simp[ae,aB,e3]) (by simp[ae,aB,e4]) (by simp[ae,aB,hqq]) (hgood c5)
  ·have hq4:q=4:=by omega
   subst hq4
   refine W.seq (W.seq (W.g ?_ (by simp[go_sem,e5];rfl)))
   refine W.cf (W.exit ?_)
   simp only[AX.then,AX.inBlock,if_true]
   refine W.g ?_ (by simp[go_sem,e4];rfl)
   refine⟨g.length-(j+1),by omega,j+1,G,rfl,by omega,by simp[ae,e1],by simp[ae,e2],by simp[ae,e3],by simp[ae,hjj],rfl,fun t ht f hf=> ?_⟩
   by_cases e:t=j
   ·subst e;exact hokq f hf
   ·exact hok t (by omega) f hf
 ·have hjl:j=g.length:=by omega
  subst hjl
  refine W.seq (W.seq (W.g ?_ (by simp[go_sem,e3,e4];rfl)))
  refine W.cf (W.exit ?_)
  simp only[AX.then,AX.inBlock,if_true]
  have hf:eX g=true:=(jo g).2 ⟨by omega,hok⟩
  rw[hf,if_pos rfl]
  refine W.seq (W.g ?_)
  exact W.ret (Ends.quiet (by simp[go_sem]) rfl)
def lW(l:List Bool):List Value:=l.map (.bool ·)
def qr(order:List Int)(n:Nat):Nat->List Bool
 | 0=>List.replicate n false
 |j+1=>(qr order n j).set (bM order j) true
theorem uG(order:List Int)(n:Nat): ∀j,(qr order n j).length=n
 | 0=>by simp[qr]
 |j+1=>by simp[qr,uG order n j]
theorem yK(order:List Int)(n:Nat): ∀(j k:Nat),k<n-> ∃b,(qr order n j)[k]? =some b/\(b=true↔ ∃i,i<j/\bM order i=k)
 | 0,k,hk=>⟨false,by simp[qr,hk],by simp⟩
 |j+1,k,hk=>by
  obtain⟨b,h1,h2⟩:=yK order n j k hk
  simp only[qr]
  rw[Ff,uG]
  by_cases e:bM order j=k
  ·rw[if_pos e,if_pos (by omega)]
   exact⟨true,rfl,by simp;exact⟨j,by omega,e⟩⟩
  ·rw[if_neg e]
   refine⟨b,h1,h2.trans ⟨fun⟨i,hi,he⟩=>⟨i,by omega,he⟩,fun⟨i,hi,he⟩=>⟨i,?_,he⟩⟩⟩
   by_cases e2:i=j
   ·subst e2;exact absurd he e
   ·omega
theorem Cj{l:List Bool}{k:Nat}{b:Bool}(h:l[k]? =some b):(lW l)[k]? =some (.bool b):=by simp[lW,h]
theorem CA(l:List Bool)(k:Nat)(b:Bool):(lW l).set k (.bool b)=lW (l.set k b):=by simp[lW,Gz]
theorem AU(H:AH)(ov pv:Value)(order:List Int)(perms:List Pm)(n:Nat)(hn:n<=1000)(hov:cy H ov order)(hpv:mv H pv perms):AC Try.prog 22 [ov,pv,O U n] H (.val (.bool (ik order perms n)) H):=by
 obtain⟨b1,k1,rfl⟩:=hov.len
 obtain⟨b2,k2,rfl⟩:=hpv.len
 refine AC.o 62 f22 fun σ w hr=> ?_
 refine W.seq (W.g ?_)
 by_cases hlo:order.length=n
 case neg=>
  have hlo':((order.length:Int)!=(n:Int))=true:=by simp;omega
  have hf:ik order perms n=false:=by unfold ik;simp[hlo]
  rw[hf]
  refine W.seq (W.seq (W.g ?_ (by simp[go_sem,hlo'];rfl)))
  refine W.ct ?_
  refine W.seq (W.g ?_)
  exact W.ret (Ends.still (by simp[go_sem]) rfl)
 have hlo':((order.length:Int)!=(n:Int))=false:=by simp[hlo]
 by_cases hlp:perms.length=n
 case neg=>
  have hlp':((perms.length:Int)!=(n:Int))=true:=by simp;omega
  have hf:ik order perms n=false:=by unfold ik;simp[hlp]
  rw[hf]
  refine W.seq (W.seq (W.g ?_ (by simp[go_sem,hlo',hlp'];rfl)))
  refine W.ct ?_
  refine W.seq (W.g ?_)
  exact W.ret (Ends.still (by simp[go_sem]) rfl)
 have hlp':((perms.length:Int)!=(n:Int))=false:=by simp[hlp]
 refine W.seq (W.seq (W.g ?_ (by simp[go_sem,hlo',hlp'];rfl)))
 refine W.cf (W.skip ?_)
 have hmk:=fun H=>mk113 H n (by omega)
 refine W.seq (W.g ?_ (by simp[go_sem,hmk];rfl))
 refine W.seq (W.seq (W.g ?_))
 refine W.block ?_
 have hz:List.replicate n (Value.bool false)=lW (qr order n 0):=by simp[lW,qr]
 rw[hz]
 rw[hlo]at hov⊢
 refine W.loop (fun m E h=> ∃j:Nat,m=n-j/\j<=n/\ae E 0= .slice b1 n k1/\ae E 1= .slice b2 perms.length k2/\ae E 2=O U n/\ae E 7= .slice (some ⟨H.length,0,none⟩) n n/\ae E 8=O U j/\h=H++[.cells (lW (qr order n j)) 4]/\ ∀i,i<j->order[i]? =some ((bM order i:Nat):Int)/\bM order i<n/\(bY perms i).ok=true/\ ∀i',i'<i->bM order i'≠bM order i) n
  ⟨0,by omega,by omega,by simp[ae],by simp[ae],by simp[ae],by simp[ae],by simp[ae],rfl,fun i hi=>by omega⟩ ?_
 rintro m E h ⟨j,rfl,hj,e0,e1,e2,e7,e8,rfl,hok⟩
 have hjj:IntKind.i64.wrap ((j:Int)+1)=((j+1:Nat):Int):=aA (by omega)
 by_cases hlt:j<n
 ·have hlt':(j:Int)<(n:Int):=by omega
  have hx:order[j]? =some (order[j]'(by omega)):=Ex (by omega)
  generalize order[j]'(by omega)=x at hx
  obtain⟨n1,i1,c1,hb1,hr1⟩:=hov.read hx
  rw[hlo]at hb1
  cases hb1
  have hr1': ∀X,aj (H++X) n1 (i1+j)=some (O U x):=fun X=>aw hr1
  have hp:perms[j]? =some (perms[j]'(by omega)):=Ex (by omega)
  generalize perms[j]'(by omega)=p at hp
  obtain⟨n9,i9,c9,hb9,hr9⟩:=hpv.read hp
  cases hb9
  have hpj:bY perms j=p:=by unfold bY;rw[EF,hp];rfl
  have hoj:bM order j=x.toNat:=by unfold bM;rw[EF,hx];rfl
  have hjp:(j:Int)<(perms.length:Int):=by omega
  have hr9': ∀X,ak (H++X) n9 (i9+j*4) 4=_:=fun X=>aD hr9
  unfold Pm.cells at hr9'
  have hval: ∀X,AC Try.prog 13 [.agg #[O U p.p0,O U p.p1,O U p.p2,O U p.p3]] (H++X) (.val (.bool p.ok) (H++X)):=fun X=>nE (H++X) p
  refine W.seq (W.seq (W.g ?_ (by simp[go_sem,e2,e8,hlt'];rfl)))
  refine W.ct (W.skip ?_)
  refine W.seq (W.block ?_)
  have hno:(IsO order perms n->False)->ik order perms n=false:=fun h=>by
   rw[FN]
   exact fun hh=>h ((dF _ _ _).1 hh)
  by_cases c1:x<0
  ·have hf:=hno fun h=>by have:=h.val j hlt;rw[hx]at this;have:=Fj this;omega
   rw[hf]
   refine W.seq (W.seq (W.g ?_ (by simp[go_sem,e0,e8,hlt',hr1',c1];rfl)))
   refine W.ct ?_
   refine W.seq (W.g ?_)
   exact W.ret (Ends.quiet (by simp[go_sem]) rfl)
  by_cases c2:(n:Int)<=x
  ·have hf:=hno fun h=>by have:=h.lt j hlt;omega
   rw[hf]
   refine W.seq (W.seq (W.g ?_ (by simp[go_sem,e0,e2,e8,hlt',hr1',c1,c2];rfl)))
   refine W.ct ?_
   refine W.seq (W.g ?_)
   exact W.ret (Ends.quiet (by simp[go_sem]) rfl)
  obtain⟨t,rfl⟩: ∃t:Nat,x=t:=⟨x.toNat,by omega⟩
  rw[Int.toNat_natCast]at hoj
  have htn:t<n:=by omega
  have htn':(t:Int)<(n:Int):=by omega
  obtain⟨bb,hb1,hb2⟩:=yK order n j t htn
  have hbg:=Cj hb1
  cases bb
  case true=>
   have hf:=hno fun h=>by
    obtain⟨i,hi,he⟩:=hb2.1 rfl
    have:=h.inj i j (by omega) hlt (by omega)
    omega
   rw[hf]
   refine W.seq (W.seq (W.g ?_ (by simp[go_sem,e0,e2,e7,e8,hlt',hr1',c1,c2,htn',hbg];rfl)))
   refine W.ct ?_
   refine W.seq (W.g ?_)
   exact W.ret (Ends.quiet (by simp[go_sem]) rfl)
  cases c3:p.ok
  case false=>
   rw[c3]at hval
   have hf:=hno fun h=>by have:=h.ok j hlt;rw[hpj,c3]at this;cases this
   rw[hf]
   refine W.seq (W.seq (W.region (Wl.s ?_ (by simp[go_sem,e0,e1,e2,e7,e8,hlt',hr1',c1,c2,htn',hbg,km,hjp,hr9'];rfl))))
   refine Wl.o (Sc b13 (hval _)) ?_
   refine Wl.s (Wl.nil ?_)
   refine W.ct ?_
   refine W.seq (W.g ?_)
   exact W.ret (Ends.quiet (by simp[go_sem]) rfl)
  rw[c3]at hval
  have hset:(lW (qr order n j)).set t (.bool true)=lW (qr order n (j+1)):=by rw[CA];simp only[qr,hoj]
  have hbd:t+1<=(lW (qr order n j)).length:=by simp[lW,uG];omega
  refine W.seq (W.seq (W.region (Wl.s ?_ (by simp[go_sem,e0,e1,e2,e7,e8,hlt',hr1',c1,c2,htn',hbg,km,hjp,hr9'];rfl))))
  refine Wl.o (Sc b13 (hval _)) ?_
  refine Wl.s (Wl.nil ?_)
  refine W.cf (W.skip ?_)
  refine W.g ?_ (by simp[go_sem,aB,e0,e7,e8,hlt',hr1',htn',hset,hbd];rfl)
  refine W.g ?_ (by simp[go_sem,aB,e8];rfl)
  refine⟨n-(j+1),by omega,j+1,rfl,by omega,by simp[ae,aB,e0],by simp[ae,aB,e1],by simp[ae,aB,e2],by simp[ae,aB,e7],by simp[ae,aB,hjj],rfl,fun i hi=> ?_⟩
  by_cases e:i=j
  ·subst e
   refine⟨by rw[hx,hoj],by omega,by rw[hpj];exact c3,fun i' hi' he=> ?_⟩
   have:=hb2.2 ⟨i',hi',by omega⟩
   cases this
  ·exact hok i (by omega)
 ·have hjl:j=n:=by omega
  subst hjl
  have ht:ik order perms j=true:=by
   rw[dF]
   refine⟨hlo,hlp,fun i hi=>(hok i hi).2.1,fun i i' hi hi' he=> ?_,fun i hi=>(hok i hi).1,fun i hi=>(hok i hi).2.2.1⟩
   rcases Ge i i' with h|h|h
   ·exact absurd he ((hok i' hi').2.2.2 i h)
   ·exact h
   ·exact absurd he.symm ((hok i hi).2.2.2 i' h)
  rw[ht]
  refine W.seq (W.seq (W.g ?_ (by simp[go_sem,e2,e8];rfl)))
  refine W.cf (W.exit ?_)
  simp only[AX.then,AX.inBlock,if_true]
  refine W.seq (W.g ?_)
  exact W.ret (Ends.quiet (by simp[go_sem]) rfl)
end Go.Proofs.Ytjcomcgpjjianaa
