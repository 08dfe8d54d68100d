import Derived.Test.YtjcomcgpjjianaaA14
set_option linter.all false
set_option maxHeartbeats 16000000
set_option maxRecDepth 8000
open Go.Value renaming int→O
open Go.IntKind renaming i64→U
namespace Go.Ev
theorem xB(m t:Nat):mr m t=m.testBit t:=by
 unfold mr
 rw[Nat.testBit_eq_decide_div_mod_eq]
 show Nat.beq (m >>> t%2) 1=_
 rw[Nat.shiftRight_eq_div_pow]
 cases h:Nat.beq (m/2^t%2) 1 with
 |true=>have:=ES h;simp[this]
 |false=>
  have:m/2^t%2≠1:=fun e=>by rw[e]at h;cases h
  simp[this]
theorem pL{α:Type}{f:α->Bool}: ∀{l:List α},lAll f l=true-> ∀x∈l,f x=true
 | [],_,_,h=>by simp at h
 |y::l,h,x,hx=>by
  have h:bb (f y) (lAll f l) false=true:=h
  rw[bH]at h
  split at h
  ·rename_i hy
   rcases EG.1 hx with rfl|hx
   ·exact hy
   ·exact pL h x hx
  ·cases h
theorem dM{b x:Bool}(h:bb b x false=true):b=true/\x=true:=by
 cases b with
 |false=>cases h
 |true=>exact⟨rfl,h⟩
theorem yd(l:List Nat)(t:Nat):(dK l).testBit t=true↔t∈l:=by
 unfold dK
 have key: ∀(l:List Nat) (s:Nat),(l.foldl (fun s t=>s ||| 2^t) s).testBit t=true↔s.testBit t=true\/t∈l:=by
  intro l
  induction l with
  |nil=>intro s;simp
  |cons x l ih=>
   intro s
   rw[List.foldl_cons,ih,Hi,Hf]
   simp only[E8,decide_eq_true_eq,EG]
   constructor
   ·rintro((h|h)|h)
    ·exact .inl h
    ·exact .inr (.inl h.symm)
    ·exact .inr (.inr h)
   ·rintro(h|h|h)
    ·exact .inl (.inl h)
    ·exact .inl (.inr h.symm)
    ·exact .inr h
 rw[key];simp
theorem tf: ∀(l:List Oper) (acc:List Nat),(om l acc).length=acc.length+l.length
 | [],acc=>by simp[om]
 |o::l,acc=>by rw[om,tf l];simp;omega
theorem Ag: ∀{l r:List CR},fCR l=some r->r=l
 | [],r,h=>by cases h;rfl
 |c::l,r,h=>by
  have h:(ob (fCR l) fun l=>nn c.a fun a=>nn c.r fun r=>oe c.d (fun d=>nn d fun d=>some (⟨a,r,some d⟩::l)) (some (⟨a,r,none⟩::l)))=some r:=h
  rw[aH]at h
  obtain⟨q,h1,h⟩:=h
  rw[iD,iD]at h
  rw[<-Ag h1]
  obtain⟨a,b,d⟩:=c
  cases d with
  |none=>rw[cc]at h;cases h;rfl
  |some d=>rw[bX,iD]at h;cases h;rfl
theorem xe{ops:List Oper}{i:Nat}{o:Oper}(h:ops[i]? =some o):(crs ops)[i]? =some ⟨(om ops []).getD i 0,dK (kW ops o),o.dst⟩:=by
 unfold crs
 rw[List.getElem?_zipWith,h]
 have hl:i<(om ops []).length:=by rw[tf];have:=(Ey.1 h).1;simpa using this
 rw[Ex hl,EF,Ex hl]
 rfl
theorem crs_len(ops:List Oper):(crs ops).length=ops.length:=by unfold crs;rw[List.length_zipWith,tf];simp
def RowIs(ops:List Oper)(i:Nat)(c:CR):Prop:= ∃o,ops[i]? =some o/\c=⟨(om ops []).getD i 0,dK (kW ops o),o.dst⟩
theorem goA_ok{full:List CR}: ∀(l:List CR) (acc:List (Nat×CR)) (i:Nat),goA l acc i=true->(∀k,l[k]? =full[i+k]?)->(∀j c,full[j]? =some c->j<i->(j,c)∈acc)-> ∀k c,full[k]? =some c->i<=k-> ∀j cj,full[j]? =some cj->j<k->bb (mr c.a j) true (zC c cj)=true
 | [],acc,i,_,hl,_=>by
   intro k c hk hik
   have:=hl (k-i)
   rw[show i+(k-i)=k by omega,hk]at this
   simp at this
 |x::l,acc,i,h,hl,ha=>by
  have h:bb (lAll (fun p=>bb (mr x.a p.1) true (zC x p.2)) acc) (goA l ((i,x)::acc) (Nat.succ i)) false=true:=h
  obtain⟨h1,h2⟩:=dM h
  have h0:full[i]? =some x:=by have:=hl 0;simpa using this.symm
  have ih:=goA_ok l ((i,x)::acc) (i+1) h2 (fun k=>by have:=hl (k+1);rw[show i+1+k=i+(k+1)by omega];simpa using this) (fun j c hj hji=>by
   by_cases e:j=i
   ·subst e;rw[h0]at hj;cases hj;simp
   ·exact Gb _ (ha j c hj (by omega)))
  intro k c hk hik j cj hj hjk
  by_cases e:k=i
  ·subst e
   rw[h0]at hk;cases hk
   exact pL h1 (j,cj) (ha j cj hj hjk)
  ·exact ih k c hk (by omega) j cj hj hjk
theorem goB_ok{full:List (CR×Kd)}: ∀(l:List (CR×Kd)) (acc:List (Nat×Kd)) (i:Nat),goB l acc i=true->(∀k,l[k]? =full[i+k]?)->(∀j c,full[j]? =some c->j<i->(j,c.2)∈acc)-> ∀k c,full[k]? =some c->i<=k-> ∀j cj,full[j]? =some cj->j<k->bb (isL c.2) (bb (bb (isE c.2) (isL cj.2) (isE cj.2)) (mr c.1.a j) true) true=true
 | [],acc,i,_,hl,_=>by
   intro k c hk hik
   have:=hl (k-i)
   rw[show i+(k-i)=k by omega,hk]at this
   simp at this
 |x::l,acc,i,h,hl,ha=>by
  have h:bb (bb (isL x.2) (lAll (fun p=>bb (bb (isE x.2) (isL p.2) (isE p.2)) (mr x.1.a p.1) true) acc) true) (goB l ((i,x.2)::acc) (Nat.succ i)) false=true:=h
  obtain⟨h1,h2⟩:=dM h
  have h0:full[i]? =some x:=by have:=hl 0;simpa using this.symm
  have ih:=goB_ok l ((i,x.2)::acc) (i+1) h2 (fun k=>by have:=hl (k+1);rw[show i+1+k=i+(k+1)by omega];simpa using this) (fun j c hj hji=>by
   by_cases e:j=i
   ·subst e;rw[h0]at hj;cases hj;simp
   ·exact Gb _ (ha j c hj (by omega)))
  intro k c hk hik j cj hj hjk
  by_cases e:k=i
  ·subst e
   rw[h0]at hk;cases hk
   rw[bH]
   rw[bH]at h1
   split
   ·rename_i hL
    rw[if_pos hL]at h1
    exact pL h1 (j,cj.2) (ha j cj hj hjk)
   ·rfl
  ·exact ih k c hk (by omega) j cj hj hjk
theorem Bn(k:Kd):isE k=k.isEff:=by cases k<;>rfl
theorem isL_eq(k:Kd):isL k=k.isLoud:=by cases k<;>rfl
theorem wh{full:List Oper}: ∀(l:List Oper) (i:Nat),xR l i=true->(∀k,l[k]? =full[i+k]?)-> ∀k o,full[k]? =some o->i<=k->(deps o).all (· <k)=true
 | [],i,_,hl=>by
   intro k c hk hik
   have:=hl (k-i)
   rw[show i+(k-i)=k by omega,hk]at this
   simp at this
 |x::l,i,h,hl=>by
  rw[xR,EC]at h
  intro k o hk hik
  by_cases e:k=i
  ·subst e
   have h0:full[k]? =some x:=by have:=hl 0;simpa using this.symm
   rw[h0]at hk;cases hk
   exact h.1
  ·exact wh l (i+1) h.2 (fun k=>by have:=hl (k+1);rw[show i+1+k=i+(k+1)by omega];simpa using this) k o hk (by omega)
theorem free_ok{ops:List Oper}{i j:Nat}{ci cj:CR}(hi:RowIs ops i ci)(hj:RowIs ops j cj)(h:zC ci cj=true):
 (match mg ops j with|some t=> !((tu ops i).contains t||mg ops i==some t)|none=>true)=true/\(match mg ops i with|some t=> !(tu ops j).contains t|none=>true)=true:=by
 obtain⟨oi,hoi,rfl⟩:=hi
 obtain⟨oj,hoj,rfl⟩:=hj
 obtain⟨h1,h2⟩:=dM h
 have di:mg ops i=oi.dst:=by unfold mg;rw[hoi];rfl
 have dj:mg ops j=oj.dst:=by unfold mg;rw[hoj];rfl
 have ti:tu ops i=kW ops oi:=by unfold tu;rw[hoi]
 have tj:tu ops j=kW ops oj:=by unfold tu;rw[hoj]
 rw[di,dj,ti,tj]
 have nr: ∀(l:List Nat) (t:Nat),mr (dK l) t=false->l.contains t=false:=by
  intro l t hb
  rw[xB]at hb
  cases hc:l.contains t with
  |false=>rfl
  |true=>
   have:t∈l:=by simpa using hc
   rw[(yd l t).2 this]at hb
   cases hb
 constructor
 ·cases hd:oj.dst with
  |none=>rfl
  |some t=>
   simp only[hd]at h1
   have h1:bb (mr (dK (kW ops oi)) t) false (orO oi.dst fun u=>bb (Nat.beq u t) false true)=true:=h1
   rw[bH]at h1
   split at h1
   ·cases h1
   ·rename_i hb
    have hb:mr (dK (kW ops oi)) t=false:=by simpa using hb
    simp only[nr _ _ hb,Gm]
    cases hdi:oi.dst with
    |none=>rfl
    |some u=>
     rw[hdi]at h1
     have h1:bb (Nat.beq u t) false true=true:=h1
     rw[bH]at h1
     split at h1
     ·cases h1
     ·rename_i hn
      have:u≠t:=fun e=>hn (by subst e;simp)
      simp[this]
 ·cases hd:oi.dst with
  |none=>rfl
  |some t=>
   simp only[hd]at h2
   have h2:bb (mr (dK (kW ops oj)) t) false true=true:=h2
   rw[bH]at h2
   split at h2
   ·cases h2
   ·rename_i hb
    have hb:mr (dK (kW ops oj)) t=false:=by simpa using hb
    simp only[nr _ _ hb,Bool.not_false]
theorem chkAB_ok{ops:List Oper}{ks:List Kd}(hA:chkA ops=true)(hB:chkB ops ks=true):chk ops ks=true:=by
 unfold chkA at hA
 obtain⟨hd,hA⟩:=dM hA
 unfold chkB at hB
 cases hr:rS ops with
 |none=>rw[hr]at hA;cases hA
 |some rows=>
  rw[hr]at hA hB
  have hA:goA rows [] 0=true:=hA
  have hB:bb (Nat.beq (fQ ks) (fQ rows)) (goB (rows.zip ks) [] 0) false=true:=hB
  obtain⟨hl,hB⟩:=dM hB
  have hl:=ES hl
  rw[dX,dX]at hl
  have hrows:rows=crs ops:=Ag hr
  subst hrows
  rw[crs_len]at hl
  have cA:=goA_ok (full:=crs ops) _ _ _ hA (by simp) (by simp)
  have cB:=goB_ok (full:=(crs ops).zip ks) _ _ _ hB (by simp) (by simp)
  have cD:=wh (full:=ops) _ _ hd (by simp)
  unfold chk
  rw[EI]
  intro i hi
  have hi:i<ops.length:=by simpa using hi
  have hoi:ops[i]? =some ops[i]:=Ex hi
  rw[hoi,EC]
  refine⟨cD i _ hoi (FT _),EI.2 fun j hj=> ?_⟩
  have hj:j<i:=by simpa using hj
  have hjl:j<ops.length:=by omega
  have hoj:ops[j]? =some ops[j]:=Ex hjl
  have hci:=xe hoi
  have hcj:=xe hoj
  have hki:ks[i]? =some (cg ks i):=by unfold cg;rw[EF,Ex (by omega)];rfl
  have hkj:ks[j]? =some (cg ks j):=by unfold cg;rw[EF,Ex (by omega)];rfl
  have hzi:((crs ops).zip ks)[i]? =some (⟨(om ops []).getD i 0,dK (kW ops ops[i]),ops[i].dst⟩,cg ks i):=by rw[List.getElem?_zip_eq_some];exact⟨hci,hki⟩
  have hzj:((crs ops).zip ks)[j]? =some (⟨(om ops []).getD j 0,dK (kW ops ops[j]),ops[j].dst⟩,cg ks j):=by rw[List.getElem?_zip_eq_some];exact⟨hcj,hkj⟩
  have a1:=cA i _ hci (FT _) j _ hcj hj
  have b1:=cB i _ hzi (FT _) j _ hzj hj
  unfold fW
  rw[E8]
  cases hbef:Bef ops i j with
  |true=>exact .inr rfl
  |false=>
   left
   have hbit:mr ((om ops []).getD i 0) j=false:=by rw[xB];exact hbef
   simp only[hbit]at a1 b1
   have a1:zC ⟨(om ops []).getD i 0,dK (kW ops ops[i]),ops[i].dst⟩ ⟨(om ops []).getD j 0,dK (kW ops ops[j]),ops[j].dst⟩=true:=a1
   obtain⟨f1,f2⟩:=free_ok ⟨_,hoi,rfl⟩ ⟨_,hoj,rfl⟩ a1
   rw[EC,EC]
   refine⟨⟨f1,f2⟩,?_⟩
   rw[isL_eq,isL_eq,Bn,Bn]at b1
   cases x1:cg ks i<;>cases x2:cg ks j<;>rw[x1,x2]at b1<;>first|rfl| (simp[bb,Kd.isLoud,Kd.isEff]at b1)
theorem gw{P:Program}{a:Env}{H:AH}{op:Op}{v:Value}{fx:Fx}(h:cH P noC H (bq a) op=some (.val v (fx.apply H))):DS P a H op v (fx.apply H) (fxK fx):=by
 cases fx with
 |none=>exact⟨bO.ev h,[],by simp[Fx.apply]⟩
 |push o=>exact⟨bO.ev h,[o],rfl⟩
 |set n o=>exact⟨bO.ev h,by simp[Fx.apply]⟩
 |setPush n o o'=>exact⟨bO.ev h,by simp[Fx.apply]⟩
theorem kdD_ds{P:Program}{T:Tri AO}{sz:Nat}{E:Tri Value}{a:Env}(ha:eY E a){op:Op}{v:Value}{fx:Fx}(h:kOp op P (rdT T sz) sz (gE E)=some (v,fx)):
 DS P a (toH T sz) op v (fx.apply (toH T sz)) (kdD (gE E) op fx):=by
 have hs:=zg ha h
 have hx: ∀x,aX (gE E) x=bq a x:=fun x=>by rw[cO,gS ha]
 cases op with
 |load t x=>
  show DS P a (toH T sz) (.load t x) v (fx.apply (toH T sz)) (kdP (aX (gE E) x))
  rw[hx]
  have hfx:fx.apply (toH T sz)=toH T sz:=by
   have:=kOp_ok h
   simp only[eT,EB,Fe]at this
   obtain⟨_,_,_,rfl⟩:=this
   rfl
  have hld:dQ P (toH T sz) t (bq a x)=some v:=by
   simp only[cH,EB,OpR.val.injEq]at hs
   obtain⟨u,h1,rfl,_⟩:=hs
   exact h1
  rw[hfx]at hs⊢
  have hloud:DS P a (toH T sz) (.load t x) v (toH T sz) .loud:=⟨bO.ev hs,[],by simp⟩
  unfold kdP
  cases hv:qD (bq a x)with
  |none=>exact hloud
  |some ad=>
   show DS P a (toH T sz) (.load t x) v (toH T sz) (bb (gy ad) (.one ad.block) .loud)
   rw[bH]
   split
   ·rename_i hn
    have hp:=j5 hv
    rw[eW hn]at hp
    exact⟨t,x,ad.off,rfl,hp,hld,rfl⟩
   ·exact hloud
 |call c=>
  show DS P a (toH T sz) (.call c) v (fx.apply (toH T sz)) (kdC (gE E) c fx)
  unfold kdC
  cases hc:c.callee with
  |value f=>exact gw hs
  |invoke r m=>exact gw hs
  |builtin b=>
   show DS P a (toH T sz) (.call c) v (fx.apply (toH T sz)) (bb (Nat.beq (bK b) 1) (Option.rec (motive:=fun _=>Kd) (fxK fx) (fun x=>Option.rec (motive:=fun _=>Kd) (fxK fx) (fun _=>bb (Nat.beq (fQ c.args.toList) 1) .still (fxK fx)) (vSl (aX (gE E) x))) (jP c.args.toList 0)) (fxK fx))
   rw[bH]
   split
   ·rename_i hb
    have hb:=bK_eq hb
    subst hb
    cases hg:jP c.args.toList 0 with
    |none=>exact gw hs
    |some x=>
     show DS P a (toH T sz) (.call c) v (fx.apply (toH T sz)) (Option.rec (motive:=fun _=>Kd) (fxK fx) (fun _=>bb (Nat.beq (fQ c.args.toList) 1) .still (fxK fx)) (vSl (aX (gE E) x)))
     cases hv:vSl (aX (gE E) x)with
     |none=>exact gw hs
     |some s=>
      obtain⟨sa,sl,sc⟩:=s
      show DS P a (toH T sz) (.call c) v (fx.apply (toH T sz)) (bb (Nat.beq (fQ c.args.toList) 1) .still (fxK fx))
      rw[bH]
      split
      ·rename_i hl
       have hl:=ES hl
       rw[dX]at hl
       rw[eE]at hg
       refine⟨hs,?_⟩
       have hargs:c.args.toList=[x]:=by
        match hh:c.args.toList,hl with
        | [y],_=>rw[hh]at hg;simpa using hg
       have hv:=qH hv
       rw[hx]at hv
       simp only[iV,hc,hargs,Fv,Gy,hv]
      ·exact gw hs
   ·exact gw hs
 |store t x y=>exact gw hs
 |lookup t x k ok=>exact gw hs
 |mapUpdate t m k x=>exact gw hs
 |insert t m k x=>exact gw hs
 |mapEntry t m k=>exact gw hs
 |entryStore t m s x=>exact gw hs
 |move x=>exact⟨hs,rfl⟩
 |assign x=>exact⟨hs,rfl⟩
 |pick c x y=>exact⟨hs,rfl⟩
 |alloc e=>exact⟨hs,rfl⟩
 |box e x=>exact⟨hs,rfl⟩
 |build t ps=>exact⟨hs,rfl⟩
 |buildSlice t l ps=>exact⟨hs,rfl⟩
 |nilCheck x=>exact⟨hs,rfl⟩
 |binOp op t x y yt=>exact⟨hs,rfl⟩
 |unOp op t x=>exact⟨hs,rfl⟩
 |convert s d x=>exact⟨hs,rfl⟩
 |makeInterface t x=>exact⟨hs,rfl⟩
 |makeFunc fn p q=>exact⟨hs,rfl⟩
 |makeSlice t l c=>exact⟨hs,rfl⟩
 |makeMap t r=>exact⟨hs,rfl⟩
 |slice t x lo hi mx=>exact⟨hs,rfl⟩
 |fieldAddr s x f=>exact⟨hs,rfl⟩
 |field t x f=>exact⟨hs,rfl⟩
 |indexAddr t x i=>exact⟨hs,rfl⟩
 |index t x i=>exact⟨hs,rfl⟩
 |extract t i=>exact⟨hs,rfl⟩
 |_=>exact gw hs
def noY:gB:=fun _ _ _=>none
def EndD(ops:List Oper)(Q:AX->Env->AH->Prop)(x:AX)(E:Tri Value)(H:AH):Prop:=match x with
 | .normal=> ∀a,eY E a->Q .normal a H
 | .panic v=> ∀a,eY E a->kG ops Q v a H
 |_=>True
structure TrOk(ops:List Oper)(ks:List Kd)(Z:Nat->Nat)(i:Nat)(tr:List Tre):Prop where
 kd: ∀j t,tr[j]? =some t->cg ks (i+j)=t.k
 z: ∀j t,tr[j]? =some t->Z (i+j)=t.z
 exN: ∀j t,tr[j]? =some t->t.k.isEff=true-> ∀m∈exN ops ks (i+j),m<t.z/\t.w.leaves m=true
 exJ: ∀j t,tr[j]? =some t->t.k.isEff=true-> ∀m∈exJ ops ks (i+j),t.w.leavesR (Z m) (Z (m+1))=true
theorem TrOk.tail{ops:List Oper}{ks:List Kd}{Z:Nat->Nat}{i:Nat}{t:Tre}{tr:List Tre}(h:TrOk ops ks Z i (t::tr)):TrOk ops ks Z (i+1) tr:=by
 have e: ∀j,i+1+j=i+(j+1):=fun j=>by omega
 exact⟨fun j u hj=>by rw[e];exact h.kd (j+1) u (by simpa using hj),fun j u hj=>by rw[e];exact h.z (j+1) u (by simpa using hj),fun j u hj=>by rw[e];exact h.exN (j+1) u (by simpa using hj),fun j u hj=>by rw[e];exact h.exJ (j+1) u (by simpa using hj)⟩
theorem sI{P:Program}{call:dZ}(hcall:fH P call){K:Cx}(hP:K.P=P){ops:List Oper}{ks:List Kd}{Z:Nat->Nat}{Q:AX->Env->AH->Prop}: ∀(l:List Oper) (E:Tri Value) (h:Hp) (r:Rn3),qC P call noY K.n ops.toArray l E h=some r->r.tr.length=l.length-> ∀(i:Nat) (ls:List Nat) (a:Env),eY E a->TrOk ops ks Z i r.tr->ls.length=i->(∀j,j<i->ls.getD j 0=Z j)->(∀j,j<i->Z j<=h.H.length)->EndD ops Q r.x r.E r.h.H->Dr K ops ks Q i ls l a h.H
 | [],E,h,r,e,_,i,ls,a,ha,_,_,_,_,hq=>by cases e;exact hq a ha
 |o::l,E,h,r,e,hlen,i,ls,a,ha,ht,hls,hz,hm,hq=>by
  subst hP
  have e:runO K.P call noY K.n ops.toArray o (qC K.P call noY K.n ops.toArray l) E h=some r:=e
  have one:=sU hcall e
  have hHl:h.H.length=h.sz:=ez _ _
  have hls': ∀(H:AH),H.length=h.sz->Z i=h.sz->(∀j,j<i+1->(ls++[H.length]).getD j 0=Z j):=by
   intro H hH hZ j hj
   rw[EF,FI]
   split
   ·rename_i hjl
    rw[<-EF]
    exact hz j (by omega)
   ·have:j=i:=by omega
    subst this
    rw[hls,F8];simp[hH,hZ]
  have hlsl: ∀H:AH,(ls++[H.length]).length=i+1:=by intro H;simp[hls]
  have xc: ∀{k:Kd} {w:Wr} {tr:List Tre} {H':AH},TrOk ops ks Z i (⟨k,w,h.sz⟩::tr)->(∀n,n<h.H.length->w.leaves n=true->at_ H' n=at_ h.H n)->(∀a b,w.leavesR a b=true-> ∀n,a<=n->n<b->n<h.H.length->at_ H' n=at_ h.H n)->(cg ks i).isEff=true->Xc ops ks i (ls++[h.H.length]) h.H H':=by
   intro k w tr H' ht h1 h2 hk
   have hk0:=ht.kd 0 _ rfl
   have hz0:=ht.z 0 _ rfl
   rw[Nat.add_zero]at hk0 hz0
   rw[hk0]at hk
   have a1:=ht.exN 0 _ rfl hk
   have a2:=ht.exJ 0 _ rfl hk
   rw[Nat.add_zero]at a1 a2
   have hzl:=hls' h.H hHl hz0
   refine⟨fun n hn=> ?_,fun j hj n hn1 hn2=> ?_⟩
   ·obtain⟨b1,b2⟩:=a1 n hn
    exact h1 n (by rw[hHl];exact b1) b2
   ·have b:=a2 j hj
    have hji:j<i:=by
     unfold Ev.exJ at hj
     simp only[Fb,ET]at hj
     exact hj.1
    rw[hzl j (by omega)]at hn1
    rw[hzl (j+1) (by omega)]at hn2
    refine h2 _ _ b n hn1 hn2 ?_
    by_cases hj1:j+1=i
    ·rw[hj1,hz0]at hn2;rw[hHl];exact hn2
    ·have:=hm (j+1) (by omega);omega
  cases one with
  |past hw E1 r' hp hr e=>
   subst e
   have hz0:=ht.z 0 _ rfl
   rw[Nat.add_zero]at hz0
   refine Dr.past (lP (fun t=>ha t) hw) ?_
   exact sI hcall rfl l E1 h r' hr (by simpa using hlen) (i+1) _ _ (iP hp ha) ht.tail (hlsl _) (hls' _ hHl hz0) (fun j hj=>by
    by_cases e:j=i
    ·subst e;rw[hz0,hHl];exact EJ _
    ·exact hm j (by omega)) hq
  |gen hw v fx hk h1 hf E1 r' hp hr e=>
   subst e
   have hz0:=ht.z 0 _ rfl
   have hk0:=ht.kd 0 _ rfl
   rw[Nat.add_zero]at hz0 hk0
   obtain⟨d1,d2,d3,d4,d5⟩:=xQ hf
   have hds:=kdD_ds ha hk
   have d1':h1.H=fx.apply (toH h.T h.sz):=d1
   rw[<-d1']at hds
   refine Dr.op (lP (fun t=>ha t) hw) (by rw[hk0];exact hds) (xc ht d3 d5) ?_
   exact sI hcall rfl l E1 h1 r' hr (by simpa using hlen) (i+1) _ _ (iP hp ha) ht.tail (hlsl _) (hls' _ hHl hz0) (fun j hj=>by
    by_cases e:j=i
    ·subst e;rw[hz0,<-hHl];exact d4
    ·exact Fz (hm j (by omega)) d4) hq
  |call hw v h1 hs hg k w hk E1 r' hp hr e=>
   subst e
   have hz0:=ht.z 0 _ rfl
   have hk0:=ht.kd 0 _ rfl
   rw[Nat.add_zero]at hz0 hk0
   have hle:h.H.length<=h1.H.length:=by
    rcases hk with ⟨_,_,aC,hn⟩|⟨_,lo,_,hkp⟩
    ·rw[hn];simp
    ·exact hkp.len
   refine Dr.op (lP (fun t=>ha t) hw) ?_ ?_ (sI hcall rfl l E1 h1 r' hr (by simpa using hlen) (i+1) _ _ (iP hp ha) ht.tail (hlsl _) (hls' _ hHl hz0) (fun j hj=>by
    by_cases e:j=i
    ·subst e;rw[hz0,<-hHl];exact hle
    ·exact Fz (hm j (by omega)) hle) hq)
   ·rw[hk0]
    rcases hk with ⟨rfl,_,hn⟩|⟨rfl,lo,_,hkp⟩
    ·exact⟨hs a ha,hn⟩
    ·exact⟨hs a ha,hkp.len⟩
   ·rcases hk with ⟨rfl,rfl,aC,hn⟩|⟨rfl,lo,rfl,hkp⟩
    ·exact xc ht (fun n hn' _=>by rw[hn];exact ag hn') (fun _ _ _ n _ _ hn'=>by rw[hn];exact ag hn')
    ·exact xc ht (fun n hn' hl=>hkp.same n hn' (EL hl)) (fun a b hl n _ hb hn'=>hkp.same n hn' (EV hb (EL hl)))
  |pan hw v h1 hs hg e=>
   subst e
   have hl0:l=[]:=by
    have:[Tre.mk .eff (.from 0) h.sz].length=(o::l).length:=hlen
    simp at this;exact this
   subst hl0
   have hk0:=ht.kd 0 _ rfl
   rw[Nat.add_zero]at hk0
   exact Dr.pan (lP (fun t=>ha t) hw) (hs a ha) (by rw[hk0];rfl) (hq a ha)
  |yield hw c f ho hc nl hf b h1 hy E1 r' hp hr e=>cases hy
theorem B4: ∀{l:List Tre} {ks:List Kd},fKds l=some ks->ks.length=l.length/\ ∀(i:Nat) (t:Tre),l[i]? =some t->(match t.k with| .one _=>ks[i]? =some (.one 0)|k=>ks[i]? =some k)
 | [],ks,h=>by cases h;exact⟨rfl,by simp⟩
 |t::l,ks,h=>by
  have h:(ob (fKds l) fun l=>Kd.rec (motive:=fun _=>Option (List Kd)) (some (.still::l)) (some (.loud::l)) (fun _=>some (.one 0::l)) (some (.eff::l)) t.k)=some ks:=h
  rw[aH]at h
  obtain⟨q,h1,h2⟩:=h
  obtain⟨h3,h4⟩:=B4 h1
  have key: ∀k',ks=k'::q->(match t.k with| .one _=>k'= .one 0|k=>k'=k)->ks.length=(t::l).length/\ ∀(i:Nat) (u:Tre),(t::l)[i]? =some u->(match u.k with| .one _=>ks[i]? =some (.one 0)|k=>ks[i]? =some k):=by
   intro k' hk hm
   subst hk
   refine⟨by simp[h3],fun i u hu=> ?_⟩
   cases i with
   |zero=>
    simp at hu;subst hu
    cases hk:t.k<;>rw[hk]at hm<;>simp[hm]
   |succ i=>
    have:=h4 i u (by simpa using hu)
    cases hk:u.k<;>rw[hk]at this<;>simpa using this
  cases hk:t.k with
  |still=>rw[hk]at h2 key;cases h2;exact key _ rfl rfl
  |loud=>rw[hk]at h2 key;cases h2;exact key _ rfl rfl
  |one n=>rw[hk]at h2 key;cases h2;exact key _ rfl rfl
  |eff=>rw[hk]at h2 key;cases h2;exact key _ rfl rfl
theorem qI{ops:List Oper}{ks:List Kd}{tr:List Tre}: ∀(l:List Tre) (e:Nat),qJ ops ks tr l e=true-> ∀j t,l[j]? =some t->t.k.isEff=true->effOk ops ks tr (e+j) t=true
 | [],e,_,j,t,hj,_=>by simp at hj
 |u::l,e,h,j,t,hj,ht=>by
  have h:bb (isE u.k) (bb (effOk ops ks tr e u) (qJ ops ks tr l (Nat.succ e)) false) (qJ ops ks tr l (Nat.succ e))=true:=h
  rw[bH,Bn]at h
  cases j with
  |zero=>
   simp at hj;subst hj
   rw[if_pos ht]at h
   exact(dM h).1
  |succ j=>
   rw[show e+(j+1)=e+1+j by omega]
   have hr:qJ ops ks tr l (e+1)=true:=by
    split at h
    ·exact(dM h).2
    ·exact h
   exact qI l (e+1) hr j t (by simpa using hj) ht
theorem w5{ops:List Oper}{rows:List CR}(h:rS ops=some rows){i:Nat}(hi:i<ops.length)(j:Nat):befN rows i j=Bef ops i j:=by
 have:rows=crs ops:=Ag h
 subst this
 unfold befN
 rw[eE,xe (Ex hi)]
 show mr _ j=_
 rw[xB];rfl
theorem chkTr_ok{ops:List Oper}{tr:List Tre}(h:chkTr ops tr=true):tr.length=ops.length/\chk ops (tr.map (·.k))=true/\noDef ops=true/\TrOk ops (tr.map (·.k)) (fun j=>((tr[j]?).map (·.z)).getD 0) 0 tr:=by
 unfold chkTr at h
 obtain⟨h1,h⟩:=dM h
 have h1:=ES h1
 rw[dX,dX]at h1
 cases hk:fKds tr with
 |none=>rw[hk]at h;cases h
 |some ks=>
  rw[hk]at h
  have h:bb (bb (chkA ops) (chkB ops ks) false) (bb (noDef ops) (qJ ops ks tr tr 0) false) false=true:=h
  obtain⟨h2,h⟩:=dM h
  obtain⟨h2,h3⟩:=dM h2
  obtain⟨h4,h5⟩:=dM h
  obtain⟨k1,k2⟩:=B4 hk
  have hsame: ∀i,i<ops.length-> ∃t,tr[i]? =some t/\cg (tr.map (·.k)) i=t.k/\(match t.k with| .one _=>cg ks i= .one 0|k=>cg ks i=k):=by
   intro i hi
   have hti:tr[i]? =some tr[i]:=Ex (by omega)
   refine⟨_,hti,?_,?_⟩
   ·unfold cg;rw[EF,EM,hti];rfl
   ·have:=k2 i _ hti
    unfold cg
    rw[EF]
    cases hkk:tr[i].k<;>rw[hkk]at this<;>simp only at this⊢ <;>rw[this]<;>rfl
  have heff: ∀i,i<ops.length->(cg (tr.map (·.k)) i).isEff=(cg ks i).isEff/\(cg (tr.map (·.k)) i).isLoud=(cg ks i).isLoud:=by
   intro i hi
   obtain⟨t,_,e1,e2⟩:=hsame i hi
   rw[e1]
   cases hkk:t.k<;>rw[hkk]at e2<;>simp only at e2<;>rw[e2]<;>exact⟨rfl,rfl⟩
  have hchk:=chkAB_ok h2 h3
  have hchk':chk ops (tr.map (·.k))=true:=by
   unfold chk at hchk⊢
   rw[EI]at hchk⊢
   intro i hi
   have hil:i<ops.length:=by simpa using hi
   have:=hchk i hi
   rw[EC]at this⊢
   refine⟨this.1,EI.2 fun j hj=> ?_⟩
   have hjl:j<ops.length:=by have:j<i:=by simpa using hj
                             omega
   have hp:=EI.1 this.2 j hj
   unfold fW at hp⊢
   rw[(heff i hil).1,(heff i hil).2,(heff j hjl).1,(heff j hjl).2]
   exact hp
  refine⟨h1,hchk',h4,⟨fun j t hj=> ?_,fun j t hj=> ?_,fun j t hj ht m hm=> ?_,fun j t hj ht m hm=> ?_⟩⟩
  ·unfold cg;rw[EU,EF,EM,hj];rfl
  ·rw[EU,hj];rfl
  ·have hok:=qI tr 0 h5 j t hj ht
   rw[EU]at hok hm
   obtain⟨hok,_⟩:=dM hok
   have hjl:j<ops.length:=by have:=(Ey.1 hj).1;omega
   unfold exN at hm
   simp only[FB,ET]at hm
   obtain⟨i,hi,hm⟩:=hm
   obtain⟨u,hu,e1,e2⟩:=hsame i hi
   rw[e1]at hm
   cases huk:u.k with
   |one n=>
    rw[huk]at hm e2
    simp only at hm e2
    split at hm
    ·cases hm
    ·rename_i hcond
     cases hm
     have hmem:i∈exI ops ks j:=by
      unfold exI
      cases hr:rS ops with
      |none=>simpa using hi
      |some rows=>
       show i∈((List.range ops.length).filter fun i=>match cg ks i with| .one _=> !(decide (i=j)||(if j<i then befN rows i j else befN rows j i))|_=>false)
       rw[Fb]
       refine⟨by simpa using hi,?_⟩
       rw[e2]
       simp only[Fk]
       have:(if j<i then befN rows i j else befN rows j i)=jS ops i j:=by
        unfold jS
        split
        ·exact w5 hr hi j
        ·exact w5 hr hjl i
       rw[this]
       simp only[not_or]at hcond
       simp[hcond.1,hcond.2]
     have:=pL hok i hmem
     rw[eE,hu]at this
     have this:(Option.rec (motive:=fun _=>Bool) false (fun n=>bb (Nat.blt n t.z) (t.w.leaves n) false) (nmOf u.k))=true:=this
     rw[huk]at this
     have this:bb (Nat.blt m t.z) (t.w.leaves m) false=true:=this
     obtain⟨b1,b2⟩:=dM this
     exact⟨EL b1,b2⟩
   |still=>rw[huk]at hm;cases hm
   |loud=>rw[huk]at hm;cases hm
   |eff=>rw[huk]at hm;cases hm
  ·have hok:=qI tr 0 h5 j t hj ht
   rw[EU]at hok hm
   obtain⟨_,hok⟩:=dM hok
   have hjl:j<ops.length:=by have:=(Ey.1 hj).1;omega
   unfold exJ at hm
   rw[Fb]at hm
   obtain⟨hmr,hm⟩:=hm
   have hmj:m<j:=by simpa using hmr
   have hmem:m∈exK ops ks j:=by
    unfold exK
    cases hr:rS ops with
    |none=>exact hmr
    |some rows=>
     show m∈((List.range j).filter fun i=>(match ops[i]? with|some o=>lL (cg ks i) o.op|none=>false)&& !befN rows j i)
     rw[Fb]
     refine⟨hmr,?_⟩
     rw[w5 hr hjl]
     obtain⟨u,hu,e1,e2⟩:=hsame m (by omega)
     rw[e1]at hm
     rw[EC]at hm⊢
     refine⟨?_,hm.2⟩
     have h0:=hm.1
     cases ho:ops[m]? with
     |none=>rw[ho]at h0;cases h0
     |some o=>
      rw[ho]at h0
      simp only at h0⊢
      cases huk:u.k with
      |one n=>rw[huk]at h0;cases hop:o.op<;>rw[hop]at h0<;>cases h0
      |still=>rw[huk]at h0 e2;simp only at e2;rw[e2];exact h0
      |loud=>rw[huk]at e2;simp only at e2;rw[e2];cases o.op<;>rfl
      |eff=>rw[huk]at e2;simp only at e2;rw[e2];cases o.op<;>rfl
   have:=pL hok m hmem
   unfold zAt at this
   rw[eE,eE]at this
   have hm1:tr[m]? =some tr[m]:=Ex (by omega)
   have hm2:tr[Nat.succ m]? =some tr[m+1]:=Ex (by omega)
   rw[hm1,hm2]at this
   rw[hm1,show tr[m+1]? =some tr[m+1]from hm2]
   exact this
end Go.Ev
