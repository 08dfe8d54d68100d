import Derived.Test.YtjcomcgpjjianaaA19
import Derived.Test.YtjcomcgpjjianaaA34
import Derived.Test.YtjcomcgpjjianaaA44
import Derived.Test.YtjcomcgpjjianaaA45
set_option linter.all false
set_option maxHeartbeats 16000000
set_option maxRecDepth 8000
open Go.Value renaming int→O
open Go.IntKind renaming i64→U
namespace Go.Proofs.Ytjcomcgpjjianaa
open Go.Ev
theorem und26y:Try.prog.underlying 26=some (.slice 3):=by kernel_rfl
theorem info3:Try.prog.info? 3=some Try.t3:=by kernel_rfl
theorem und27y:Try.prog.underlying 27=some (.slice 39):=by kernel_rfl
theorem info39:Try.prog.info? 39=some Try.t39:=by kernel_rfl
theorem t3bytes:Try.t3.bytes=8:=rfl
theorem t39bytes:Try.t39.bytes=32:=rfl
theorem bs26(H:AH)(a:Int):aQ Try.prog H 26 1 [(0,O U a)]=some (.slice (some ⟨H.length,0,none⟩) 1 1,H++[.cells [O U a] 3]):=by kernel_rfl
theorem bs27(H:AH)(a b c d:Int):aQ Try.prog H 27 1 [(0,.agg #[O U a,O U b,O U c,O U d])]=some (.slice (some ⟨H.length,0,none⟩) 1 1,H++[.cells [O U a,O U b,O U c,O U d] 39]):=by kernel_rfl
theorem app26{H G:AH}{v:Value}{len:Nat}{cont:List Value}{a:Int}(hl:len<1000000)(hg:bA G H.length 3 1 v len cont):
 ∃G',bD Try.prog (H++(G++[.cells [O U a] 3])) #[26,26] v (.slice (some ⟨H.length+G.length,0,none⟩) 1 1)=some (.slice (some ⟨H.length+(G.length+1),0,none⟩) (len+1) (unk+1),H++G')/\bA G' H.length 3 1 (.slice (some ⟨H.length+(G.length+1),0,none⟩) (len+1) (unk+1)) (len+1) (cont++[O U a])/\G'.length=G.length+2/\(∀j,j<G.length->bA.DJ H.length v j->at_ G' j=at_ G j):=by
 obtain⟨v',G',h1,h2,h3,h4,_,_,rfl,_⟩:=bA.append (P:=Try.prog) (H:=H) (G:=G) (v:=v) (cont:=cont) (e:=3) (ts:= #[26,26]) (t:=26) (el:=[O U a]) (it:=Try.t3) (z:=O U 0) (by simp[und26y]) info3 rfl rfl (by decide) rfl und26y (fun _ h=>nomatch h) rfl rfl (by rw[t3bytes];omega) (by omega) hg
 exact⟨G',h1,h2,h3,h4⟩
theorem app27{H G:AH}{v:Value}{len:Nat}{cont:List Value}{a b c d:Int}(hl:len<1000000)(hg:bA G H.length 39 4 v len cont):
 ∃G',bD Try.prog (H++(G++[.cells [O U a,O U b,O U c,O U d] 39])) #[27,27] v (.slice (some ⟨H.length+G.length,0,none⟩) 1 1)=some (.slice (some ⟨H.length+(G.length+1),0,none⟩) (len+1) (unk+4),H++G')/\bA G' H.length 39 4 (.slice (some ⟨H.length+(G.length+1),0,none⟩) (len+1) (unk+4)) (len+1) (cont++[O U a,O U b,O U c,O U d])/\G'.length=G.length+2/\(∀j,j<G.length->bA.DJ H.length v j->at_ G' j=at_ G j):=by
 obtain⟨v',G',h1,h2,h3,h4,_,_,rfl,_⟩:=bA.append (P:=Try.prog) (H:=H) (G:=G) (v:=v) (cont:=cont) (e:=39) (ts:= #[27,27]) (t:=27) (el:=[O U a,O U b,O U c,O U d]) (it:=Try.t39) (z:= .agg #[O U 0,O U 0,O U 0,O U 0]) (by simp[und27y]) info39 rfl rfl (by decide) rfl und27y (fun _ h=>nomatch h) rfl rfl (by rw[t39bytes];omega) (by omega) hg
 exact⟨G',h1,h2,h3,h4⟩
structure qS(b:Nat)(G:AH)(c:Nat)(T e1 z1 e2 z2:Nat)(v0 s1 s2:Value)(n1 n2:Nat)(c1 c2:List Value):Prop where
 ac:at_ G c= .cells [v0,s1,s2] T
 lt:c<G.length
 g1:bA G b e1 z1 s1 n1 c1
 g2:bA G b e2 z2 s2 n2 c2
 o1: ∀k,k<=c->bA.DJ b s1 k
 o2: ∀k,k<=c->bA.DJ b s2 k
 d1: ∀i l C,s2= .slice (some ⟨b+i,0,none⟩) l C->bA.DJ b s1 i
 d2: ∀i l C,s1= .slice (some ⟨b+i,0,none⟩) l C->bA.DJ b s2 i
theorem qS.app{b:Nat}{G:AH}{c T e1 z1 e2 z2:Nat}{v0 s1 s2:Value}{n1 n2:Nat}{c1 c2:List Value}(h:qS b G c T e1 z1 e2 z2 v0 s1 s2 n1 n2 c1 c2)(G':AH):qS b (G++G') c T e1 z1 e2 z2 v0 s1 s2 n1 n2 c1 c2:=⟨by rw[ag h.lt];exact h.ac,by have:=h.lt;simp;omega,h.g1.more G',h.g2.more G',h.o1,h.o2,h.d1,h.d2⟩
theorem sS{G:AH}{b e z:Nat}{s:Value}{n:Nat}{c:List Value}(h:bA G b e z s n c){i l C:Nat}(hs:s= .slice (some ⟨b+i,0,none⟩) l C):i<G.length:=by
 rcases h with ⟨h1,_⟩|⟨j,C',h1,h2,_⟩
 ·rw[h1]at hs;cases hs
 ·rw[h1]at hs
  simp only[Fw,ER,F3]at hs
  omega
theorem wM{G G':AH}{b e z:Nat}{s:Value}{n:Nat}{c:List Value}(h:bA G b e z s n c)(hl:G.length<=G'.length)(hk: ∀i l C,s= .slice (some ⟨b+i,0,none⟩) l C->i<G.length->at_ G' i=at_ G i):bA G' b e z s n c:=by
 rcases h with h|⟨i,C,h1,h2,h3,h4⟩
 ·exact .inl h
 ·exact .inr ⟨i,C,h1,by omega,by rw[hk i n C h1 h2];exact h3,h4⟩
theorem qS.push1{b:Nat}{G G':AH}{c T e1 z1 e2 z2:Nat}{v0 s1 s2:Value}{n1 n2 C:Nat}{c1 c2 el:List Value}(h:qS b G c T e1 z1 e2 z2 v0 s1 s2 n1 n2 c1 c2)(hg:bA G' b e1 z1 (.slice (some ⟨b+(G.length+1),0,none⟩) (n1+1) C) (n1+1) (c1++el))(hl:G'.length=G.length+2)(hk: ∀j,j<G.length->bA.DJ b s1 j->at_ G' j=at_ G j):
 at_ G' c= .cells [v0,s1,s2] T/\qS b (G'.set c (.cells [v0,.slice (some ⟨b+(G.length+1),0,none⟩) (n1+1) C,s2] T)) c T e1 z1 e2 z2 v0 (.slice (some ⟨b+(G.length+1),0,none⟩) (n1+1) C) s2 (n1+1) n2 (c1++el) c2/\(∀k,k<c->at_ (G'.set c (.cells [v0,.slice (some ⟨b+(G.length+1),0,none⟩) (n1+1) C,s2] T)) k=at_ G k):=by
 have hlt:=h.lt
 refine⟨by rw[hk c hlt (h.o1 c (EJ c))];exact h.ac,⟨au (by omega) _,by rw[EA];omega,hg.set (dv (by omega)) _,?_,fun k hk'=>dv (by omega),h.o2,fun i l C' hs=> ?_,fun i l C' hs len C2 he=> ?_⟩,fun k hk'=> ?_⟩
 ·refine wM h.g2 (by rw[EA];omega) fun i l C' hs hi=> ?_
  have hne:c≠i:=fun e=>h.o2 c (EJ c) l C' (by rw[hs,e])
  rw[af hne,hk i hi (h.d1 i l C' hs)]
 ·have:=sS h.g2 hs
  exact dv (by omega)
 ·simp only[Fw,ER,F3]at hs
  have:=sS h.g2 he
  omega
 ·rw[af (by omega),hk k (by omega) (h.o1 k (by omega))]
theorem qS.push2{b:Nat}{G G':AH}{c T e1 z1 e2 z2:Nat}{v0 s1 s2:Value}{n1 n2 C:Nat}{c1 c2 el:List Value}(h:qS b G c T e1 z1 e2 z2 v0 s1 s2 n1 n2 c1 c2)(hg:bA G' b e2 z2 (.slice (some ⟨b+(G.length+1),0,none⟩) (n2+1) C) (n2+1) (c2++el))(hl:G'.length=G.length+2)(hk: ∀j,j<G.length->bA.DJ b s2 j->at_ G' j=at_ G j):
 at_ G' c= .cells [v0,s1,s2] T/\qS b (G'.set c (.cells [v0,s1,.slice (some ⟨b+(G.length+1),0,none⟩) (n2+1) C] T)) c T e1 z1 e2 z2 v0 s1 (.slice (some ⟨b+(G.length+1),0,none⟩) (n2+1) C) n1 (n2+1) c1 (c2++el)/\(∀k,k<c->at_ (G'.set c (.cells [v0,s1,.slice (some ⟨b+(G.length+1),0,none⟩) (n2+1) C] T)) k=at_ G k):=by
 have hlt:=h.lt
 refine⟨by rw[hk c hlt (h.o2 c (EJ c))];exact h.ac,⟨au (by omega) _,by rw[EA];omega,?_,hg.set (dv (by omega)) _,h.o1,fun k hk'=>dv (by omega),fun i l C' hs len C2 he=> ?_,fun i l C' hs=> ?_⟩,fun k hk'=> ?_⟩
 ·refine wM h.g1 (by rw[EA];omega) fun i l C' hs hi=> ?_
  have hne:c≠i:=fun e=>h.o1 c (EJ c) l C' (by rw[hs,e])
  rw[af hne,hk i hi (h.d2 i l C' hs)]
 ·simp only[Fw,ER,F3]at hs
  have:=sS h.g1 he
  omega
 ·have:=sS h.g1 hs
  exact dv (by omega)
 ·rw[af (by omega),hk k (by omega) (h.o2 k (by omega))]
theorem sH{H G:AH}{s:Value}{l:List Int}(h:bA G H.length 3 1 s l.length (ints l)):cy (H++G) s l:=by
 rcases h with ⟨h1,h2,_⟩|⟨i,C,h1,h2,h3,h4,_⟩
 ·exact .inl ⟨Fr.1 h2,.inl h1⟩
 ·exact .inr ⟨H.length+i,0,C,h1,by rw[aF];exact ao h3 (by simp[ints])⟩
theorem wt: ∀g:List Pm,(jY g).length=g.length*4
 | []=>rfl
 |r::g=>by
  have:=wt g
  simp only[jY,FG,Ez,List.length_cons]at this⊢
  rw[this];show 4+_=_;omega
theorem vE(g h:List Pm):jY (g++h)=jY g++jY h:=by simp[jY]
theorem qc(g h:List Int):ints (g++h)=ints g++ints h:=by simp[ints]
theorem growPm{H G:AH}{s:Value}{l:List Pm}(h:bA G H.length 39 4 s l.length (jY l)):mv (H++G) s l:=by
 rcases h with ⟨h1,h2,_⟩|⟨i,C,h1,h2,h3,h4,_⟩
 ·exact .inl ⟨Fr.1 h2,.inl h1⟩
 ·exact .inr ⟨H.length+i,0,C,h1,by rw[aF];exact ao h3 (wt _).symm⟩
theorem space_id{a:List Row}(h:eX a=true):eD a a [] (gb a.length) (List.replicate a.length .one)=0:=by
 obtain⟨_,hv⟩:=(iR a).1 h
 unfold eD
 rw[if_pos ⟨h,h⟩,if_neg (by simp)]
 simp only[qm,ren_id hv]
 rw[if_pos ((qx a a).2 rfl)]
theorem Bm{a b:List Row}{ms:List Mv}{o1 o2:List Int}{p1 p2:List Pm}(h:eD a b ms o1 p1=0)(hr:jM b o2 p2=0){o3:List Int}{p3:List Pm}(hlo:o3.length=b.length)(hlp:p3.length=b.length)(ho: ∀i,i<b.length->o3[i]? =some ((bM o1 (bM o2 i):Nat):Int))(hp: ∀i,i<b.length->bY p3 i=(bY p1 (bM o2 i)).times (bY p2 i)):eD a (de b o2 p2) ms o3 p3=0:=by
 unfold jM at hr
 split at hr
 case isFalse=>cases hr
 rename_i hB
 split at hr
 case isFalse=>cases hr
 rename_i hI
 have h2:=(dF _ _ _).1 hI
 obtain⟨hbl,hbv⟩:=(iR b).1 hB
 have hK:eX (de b o2 p2)=true:=(iR _).2 ⟨by rw[cI];exact hbl,h2.vg hbv⟩
 unfold eD at h⊢
 split at h
 case isFalse=>cases h
 rename_i hAB
 rw[if_pos ⟨hAB.1,hK⟩]
 split at h
 case isTrue=>cases h
 rename_i hm
 rw[if_neg hm]
 obtain⟨hal,hav⟩:=(iR a).1 hAB.1
 have hlogv: ∀(ms:List Mv) (g g':List Row),VG g->qm ms g=some g'->VG g':=by
  intro ms
  induction ms with
  |nil=>intro g g' hg he;cases he;exact hg
  |cons m r ih=>
   intro g g' hg he
   simp only[qm,EN]at he
   obtain⟨g1,h1,h2⟩:=he
   exact ih g1 g' (yk hg h1).1 h2
 cases hl:qm ms a with
 |none=>rw[hl]at h;cases h
 |some g=>
  rw[hl]at h
  have hgv:=hlogv ms a g hav hl
  cases hR:kA g o1 p1 with
  |none=>simp only[hR]at h;cases h
  |some g'=>
   simp only[hR]at h
   split at h
   case isFalse=>cases h
   rename_i hE
   have hE:=(qx g' b).1 hE
   subst hE
   unfold kA at hR
   split at hR
   case isFalse=>cases hR
   rename_i hI1
   cases hR
   have h1:=(dF _ _ _).1 hI1
   rw[cI]at h2 hlo hlp ho hp
   simp only[ren_both hgv h1 h2 hlo hlp ho hp]
   rw[if_pos ((qx _ _).2 rfl)]
theorem DB{a b:List Row}{ms:List Mv}{o1:List Int}{p1:List Pm}(h:eD a b ms o1 p1=0):IsO o1 p1 b.length/\b.length<=1000:=by
 unfold eD at h
 split at h
 case isFalse=>cases h
 rename_i hAB
 split at h
 case isTrue=>cases h
 cases hl:qm ms a with
 |none=>rw[hl]at h;cases h
 |some g=>
  rw[hl]at h
  cases hR:kA g o1 p1 with
  |none=>simp only[hR]at h;cases h
  |some g'=>
   simp only[hR]at h
   split at h
   case isFalse=>cases h
   rename_i hE
   have hE:=(qx g' b).1 hE
   subst hE
   unfold kA at hR
   split at hR
   case isFalse=>cases hR
   rename_i hI1
   cases hR
   rw[cI]
   have:=((iR _).1 hAB.2).1
   rw[cI]at this
   exact⟨(dF _ _ _).1 hI1,this⟩
noncomputable def cc1:Code:=fstC (ek (Try.f3.body.getD .skip))
noncomputable def cc2:Code:=fstC (ek (ek (Try.f3.body.getD .skip)))
noncomputable def cc3:Code:=ek (ek (ek (Try.f3.body.getD .skip)))
structure Gv where
 (sa sb lv ov pv sd se rl ro ra o2 p2 cv av:Value)
 (nd ne:Int)
structure CB(G:AH)(V:Gv):Prop where
 a0:at_ G 0= .cells [V.sa] 24
 a1:at_ G 1= .cells [V.sb] 24
 a2:at_ G 2= .cells [V.lv,V.ov,V.pv] 29
 a3:at_ G 3= .cells [V.sd,O U V.nd] 32
 a4:at_ G 4= .cells [V.se,O U V.ne] 32
 a5:at_ G 5= .cells [V.rl,V.ro,V.ra] 35
 len:5<G.length
theorem CB.keep{G G':AH}{V:Gv}(h:CB G V)(hk: ∀k,k<6->at_ G' k=at_ G k)(hl:G.length<=G'.length):CB G' V:=⟨by rw[hk 0 (by omega)];exact h.a0,by rw[hk 1 (by omega)];exact h.a1,by rw[hk 2 (by omega)];exact h.a2,by rw[hk 3 (by omega)];exact h.a3,by rw[hk 4 (by omega)];exact h.a4,by rw[hk 5 (by omega)];exact h.a5,by have:=h.len;omega⟩
theorem CB.app{G:AH}{V:Gv}(h:CB G V)(K:AH):CB (G++K) V:=h.keep (fun k hk=>ag (by have:=h.len;omega)) (by simp)
structure CE(E:Env)(b:Nat)(V:Gv):Prop where
 e3:ae E 3=V.o2
 e4:ae E 4=V.p2
 e8:ae E 8=V.cv
 e9:ae E 9=V.av
 e10:ae E 10= .pointer (some ⟨b,0,none⟩)
 e11:ae E 11= .pointer (some ⟨b+1,0,none⟩)
 e12:ae E 12= .pointer (some ⟨b+2,0,none⟩)
 e15:ae E 15= .pointer (some ⟨b+3,0,none⟩)
 e16:ae E 16= .pointer (some ⟨b+4,0,none⟩)
 e17:ae E 17= .pointer (some ⟨b+5,0,none⟩)
theorem CE.of{E E':Env}{b:Nat}{V:Gv}(h:CE E b V)(h0: ∀t∈[3,4,8,9,10,11,12,15,16,17],ae E' t=ae E t):CE E' b V:=⟨(h0 3 (by simp)).trans h.e3,(h0 4 (by simp)).trans h.e4,(h0 8 (by simp)).trans h.e8,(h0 9 (by simp)).trans h.e9,(h0 10 (by simp)).trans h.e10,(h0 11 (by simp)).trans h.e11,(h0 12 (by simp)).trans h.e12,(h0 15 (by simp)).trans h.e15,(h0 16 (by simp)).trans h.e16,(h0 17 (by simp)).trans h.e17⟩
theorem AT(n:Nat):gb (n+1)=gb n++[((n:Nat):Int)]:=by
 unfold gb;rw[Fq,Gd];rfl
theorem cc1_ok{H:AH}{D:List Deferred}{σ:Ren}{w:World}{G:AH}{E:Env}{V:Gv}{a:List Row}(hsa:SlG H V.sa a)(hG:CB G V)(he:CE E H.length V):
 W ⟨Try.prog,203,D,σ,H,w⟩ cc1 (fun x E' h=>x= .normal/\CE E' H.length V/\ ∃G',h=H++G'/\CB G' V) E (H++G):=by
 have hck:=fun X=>tv (H++X) V.sa a hsa.app
 unfold glV at hck
 have e10:=he.e10
 have r0:=ao (k:=1) hG.a0 rfl
 cases hA:eX a
 ·rw[hA,if_neg (by simp)]at hck
  refine W.seq (W.region (Wl.s ?_ (by simp[go_sem,e10,r0];rfl)))
  refine Wl.o (Sc b4 (hck _)) ?_
  refine Wl.s (Wl.nil ?_)
  refine W.cf (W.skip ?_)
  exact⟨rfl,he.of (fun t ht=>by simp only[EG,EK,or_false]at ht;rcases ht with rfl|rfl|rfl|rfl|rfl|rfl|rfl|rfl|rfl|rfl<;>simp[ae,aB]),G,rfl,hG⟩
 obtain⟨hal,hav⟩:=(iR a).1 hA
 obtain⟨ba,ka,hsae⟩:=hsa.len
 rw[hA,if_pos rfl]at hck
 refine W.seq (W.region (Wl.s ?_ (by simp[go_sem,e10,r0];rfl)))
 refine Wl.o (Sc b4 (hck _)) ?_
 refine Wl.s (Wl.nil ?_)
 refine W.ct ?_
 refine W.seq (W.g ?_)
 have r01: ∀Y,aj (G++Y) 0 0=some (.slice ba a.length ka):=fun Y=>by rw[ah,(hG.app Y).a0];simp[hsae]
 refine W.seq (W.seq (W.g ?_ (by simp[go_sem,aB,e10,r01];rfl)))
 refine W.block ?_
 have hlen:=hG.len
 refine W.loop (fun m E' h=> ∃(j:Nat) (G':AH) (so sp:Value),m=a.length-j/\j<=a.length/\CE E' H.length V/\ae E' 21= .pointer (some ⟨H.length+G.length,0,none⟩)/\ae E' 39=O U a.length/\ae E' 40=O U j/\h=H++G'/\CB G' V/\qS H.length G' G.length 29 3 1 39 4 (.slice none 0 0) so sp j j (ints (gb j)) (jY (List.replicate j .one))) a.length
  ⟨0,_,.slice none 0 0,.slice none 0 0,by omega,by omega,he.of (fun t ht=>by simp only[EG,EK,or_false]at ht;rcases ht with rfl|rfl|rfl|rfl|rfl|rfl|rfl|rfl|rfl|rfl<;>simp[ae,aB]),by simp[ae,aB],by simp[ae,aB],by simp[ae,aB],rfl,hG.app _,⟨aL _ _,by simp,.inl ⟨rfl,rfl,rfl⟩,.inl ⟨rfl,rfl,rfl⟩,fun _ _ _ _ h=>(by cases h),fun _ _ _ _ h=>(by cases h),fun _ _ _ h=>(by cases h),fun _ _ _ h=>(by cases h)⟩⟩ ?_
 clear he e10 r0 r01 E
 rintro m E h ⟨j,G',so,sp,rfl,hj,he,e21,e39,e40,rfl,hB,hT⟩
 have hjj:IntKind.i64.wrap ((j:Int)+1)=((j+1:Nat):Int):=aA (by omega)
 by_cases hlt:j<a.length
 ·have hlt':(j:Int)<(a.length:Int):=by omega
  have r1:aj G' G.length 1=some so:=by rw[ah,hT.ac];rfl
  obtain⟨G1,ha1,hg1,hl1,hk1⟩:=app26 (a:=(j:Int)) (by omega) hT.g1
  obtain⟨hac1,hT1,hkk1⟩:=hT.push1 hg1 hl1 hk1
  have hle1:G'.length+1<=G1.length:=by omega
  have hB1:CB (G1.set G.length (.cells [.slice none 0 0,.slice (some ⟨H.length+(G'.length+1),0,none⟩) (j+1) (unk+1),sp] 29)) V:=hB.keep (fun k hk=>hkk1 k (by omega)) (by rw[EA];omega)
  refine W.seq (W.g ?_ (by simp[go_sem,e39,e40,hlt'];rfl))
  refine W.seq (W.ct (W.skip ?_))
  refine W.seq (W.block ?_)
  refine W.seq (W.g ?_ (by simp[go_sem,e40];rfl))
  refine W.seq (W.g ?_ (by simp[go_sem,e21,r1,bs26,ha1,hac1,hle1];rfl))
  generalize G1.set G.length (.cells [.slice none 0 0,.slice (some ⟨H.length+(G'.length+1),0,none⟩) (j+1) (unk+1),sp] 29)=G2 at hT1 hB1
  have r2:aj G2 G.length 2=some sp:=by rw[ah,hT1.ac];rfl
  obtain⟨G3,ha2,hg2,hl2,hk2⟩:=app27 (a:=0) (b:=1) (c:=2) (d:=3) (by omega) hT1.g2
  obtain⟨hac2,hT2,hkk2⟩:=hT1.push2 hg2 hl2 hk2
  have hle2:G2.length+1<=G3.length:=by omega
  have hB2:CB (G3.set G.length (.cells [.slice none 0 0,.slice (some ⟨H.length+(G'.length+1),0,none⟩) (j+1) (unk+1),.slice (some ⟨H.length+(G2.length+1),0,none⟩) (j+1) (unk+4)] 29)) V:=hB1.keep (fun k hk=>hkk2 k (by omega)) (by rw[EA];omega)
  have hid: ∀H,AC Try.prog 5 [] H (.val (.agg #[O U 0,O U 1,O U 2,O U 3]) H):=fun H=>yP H
  refine W.drawnBy (fun i=>i==2) follows (by decide+kernel) (Dl.s ?_ (by simp[go_sem,e21,r2];rfl))
  refine Dl.t (Sc b5 (hid _)) ?_
  refine Dl.s (Dl.nil ?_) (by simp[go_sem,e21,bs27,ha2,hac2,hle2];rfl)
  refine W.g ?_ (by simp[go_sem,e40];rfl)
  refine⟨a.length-(j+1),by omega,j+1,_,.slice (some ⟨H.length+(G'.length+1),0,none⟩) (j+1) (unk+1),.slice (some ⟨H.length+(G2.length+1),0,none⟩) (j+1) (unk+4),rfl,by omega,he.of (fun t ht=>by simp only[EG,EK,or_false]at ht;rcases ht with rfl|rfl|rfl|rfl|rfl|rfl|rfl|rfl|rfl|rfl<;>simp[ae,aB]),by simp[ae,aB,e21],by simp[ae,aB,e39],by simp[ae,aB,hjj],rfl,hB2,?_⟩
  rw[AT,qc,List.replicate_succ',vE]
  exact hT2
 ·have hjl:j=a.length:=by omega
  subst hjl
  refine W.seq (W.g ?_ (by simp[go_sem,e39,e40];rfl))
  refine W.seq (W.cf (W.exit ?_))
  simp only[AX.then,AX.inBlock,if_true]
  have hil:(gb a.length).length=a.length:=by simp[gb]
  have hg1:=hT.g1
  have hg2:=hT.g2
  have hso:cy (H++G') so (gb a.length):=sH (by rw[hil];exact hg1)
  have hsp:mv (H++G') sp (List.replicate a.length .one):=growPm (by rw[Fy];exact hg2)
  have hsp0:=uT (H++G') V.sa V.sa (.slice none 0 0) so sp a a [] (gb a.length) (List.replicate a.length .one) hsa.app hsa.app (.inl ⟨rfl,.inl rfl⟩) hso hsp
  rw[space_id hA]at hsp0
  unfold glV at hsp0
  have e10:=he.e10
  have r0:=ao (k:=1) hB.a0 rfl
  have r6:=ao (k:=3) hT.ac rfl
  refine W.seq (W.region (Wl.s ?_ (by simp[go_sem,e10,e21,r0,r6];rfl)))
  refine Wl.o (Sc b6 hsp0) ?_
  refine Wl.s (Wl.nil ?_)
  refine W.cf (W.skip ?_)
  exact⟨rfl,he.of (fun t ht=>by simp only[EG,EK,or_false]at ht;rcases ht with rfl|rfl|rfl|rfl|rfl|rfl|rfl|rfl|rfl|rfl<;>simp[ae,aB]),G',rfl,hB⟩
end Go.Proofs.Ytjcomcgpjjianaa
