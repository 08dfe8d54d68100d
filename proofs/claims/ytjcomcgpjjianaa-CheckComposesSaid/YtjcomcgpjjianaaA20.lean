import Derived.Test.YtjcomcgpjjianaaA1
import Derived.Test.YtjcomcgpjjianaaA8
import Derived.Test.YtjcomcgpjjianaaA19
set_option linter.all false
set_option maxHeartbeats 16000000
set_option maxRecDepth 8000
open Go.Value renaming int→O
open Go.IntKind renaming i64→U
namespace Go.Ev
open Go.ChangeShapes Go.WideShapes Go.RowKit Go.Deep Go.Joins
inductive Lk where
 |int (k:IntKind)
 |bool
def Lk.has:Lk->Value->Prop
 | .int k,v=> ∃n,v= .int k n
 | .bool,v=> ∃b,v= .bool b
def leaves(P:Program):Nat->TypeId->List (Nat×Lk)
 | 0,_=>[]
 |f+1,t=>match P.underlying t with
  |some .bool=>[(0,.bool)]
  |some (.int k)=>[(0,.int k)]
  |some (.struct fs)=>fs.toList.flatMap fun x=>(leaves P f x.type).map fun y=>(x.offset+y.1,y.2)
  |some (.array n e)=>(List.range n).flatMap fun i=>(leaves P f e).map fun y=>(i*P.cellsOf e+y.1,y.2)
  |_=>[]
section
variable {H:Type}{enc:TypeId×Value->H}{P:Program}{w:World}{base:Nat}{spare:Nat->Bool}{held:Bool}
theorem wj{cs:List Value}{o n i:Nat}{v:Value}(h:((cs.drop o).take n)[i]? =some v):cs[o+i]? =some v:=by
 rw[GC]at h
 split at h
 ·rwa [GD]at h
 ·cases h
theorem jR: ∀(g fuel:Nat) (t:TypeId) (cs:List Value) (x:DataW H×List MemPlace),DataW.trod enc P w base spare held fuel t cs=some x-> ∀i K,(i,K)∈leaves P g t-> ∃v,cs[i]? =some v/\K.has v
 | 0,_,_,_,_,_,i,K,hm=>by simp[leaves]at hm
 |g+1,fuel,t,cs,x,h,i,K,hm=>by
  unfold leaves at hm
  split at hm
  ·rename_i ht
   obtain⟨b,rfl,_⟩:=DataW.trod_bool ht h
   simp only[FS,Fe]at hm
   obtain⟨rfl,rfl⟩:=hm
   exact⟨_,rfl,b,rfl⟩
  ·rename_i k ht
   obtain⟨n,rfl,_⟩:=DataW.trod_int ht h
   simp only[FS,Fe]at hm
   obtain⟨rfl,rfl⟩:=hm
   exact⟨_,rfl,n,rfl⟩
  ·rename_i fs ht
   obtain⟨xs,n,_,_,_,hlen,hf⟩:=DataW.trod_struct ht h
   simp only[Fi,E9]at hm
   obtain⟨f,hfm,y,hy,he⟩:=hm
   obtain⟨j,hj⟩:=List.mem_iff_getElem?.1 hfm
   have hj':fs[j]? =some f:=by simpa using hj
   have hjl:j<xs.length:=by
    rw[hlen];obtain⟨a,_⟩:=Fh.1 hj';exact a
   have:=hf j f hj'
   rw[Ex hjl]at this
   obtain⟨v,h1,h2⟩:=jR g _ _ _ _ this y.1 y.2 hy
   cases he
   exact⟨v,wj h1,h2⟩
  ·rename_i n e ht
   obtain⟨xs,m,_,_,_,hlen,hf⟩:=DataW.trod_array ht h
   simp only[Fi,E9,ET]at hm
   obtain⟨j,hj,y,hy,he⟩:=hm
   have:=hf j hj
   rw[Ex (by omega)]at this
   obtain⟨v,h1,h2⟩:=jR g _ _ _ _ this y.1 y.2 hy
   cases he
   exact⟨v,wj h1,h2⟩
  ·simp at hm
def Sl{α:Type}(F:α->List Value)(k:Nat)(H:AH)(v:Value)(l:List α):Prop:=(l=[]/\(v= .slice none 0 0\/ ∃i c,v= .slice (some ⟨0,i,some 0⟩) 0 c))\/(∃n i c,v= .slice (some ⟨n,i,none⟩) l.length c/\ak H n i (l.length*k)=some (l.flatMap F))
structure iw{α:Type}(w:World)(F:α->List Value)(k:Nat)(v:Value)(l:List α)(o:Option Loc)(c:List Value)(av:Nat->Value):Prop where
 loc: ∀x,o=some x->x.1<w.heap.size
 cells: ∀x,o=some x-> ∀i u,c[i]? =some u->w.cell? ⟨x.1,x.2.1+i,none⟩=some u/\ ∀σ,VR σ u u
 vr: ∀(σ:Ren) n,σ n=o->VR σ (av n) v
 rd: ∀H n,at_ H n= .ro c->Sl F k H (av n) l
 cap: ∀n b len c,av n= .slice b len c->c<unk
theorem Addr_eta{a:Addr}(h:a.spot=none):a=⟨a.block,a.off,none⟩:=by cases a;simp_all
theorem chunks{α:Type}{F:α->List Value}{k:Nat}{f:Nat->Option Value}: ∀(len off:Nat),(∀i,i<len-> ∃a,(F a).length=k/\ ∀j,j<k->f (off+i*k+j)=(F a)[j]?)-> ∃l:List α,l.length=len/\(l.flatMap F).length=len*k/\ ∀j,j<len*k->f (off+j)=(l.flatMap F)[j]?
 | 0,off,_=>⟨[],rfl,by simp,fun j hj=>by omega⟩
 |len+1,off,h=>by
  obtain⟨a,ha,hv⟩:=h 0 (by omega)
  obtain⟨l,hl,hll,hr⟩:=chunks len (off+k) (fun i hi=>by
   obtain⟨b,hb,hb'⟩:=h (i+1) (by omega)
   refine⟨b,hb,fun j hj=> ?_⟩
   have:=hb' j hj
   rw[FX,Hj]at this
   rw[<-this];congr 1;omega)
  refine⟨a::l,by simp[hl],by simp[ha,hll,FX];omega,fun j hj=> ?_⟩
  rw[FG,FI]
  split
  ·rename_i hlt
   have:=hv j (by omega)
   simpa using this
  ·rename_i hge
   rw[ha]at hge⊢
   have:=hr (j-k) (by rw[FX]at hj;omega)
   rw[<-this];congr 1;omega
theorem qQ{α:Type}{F:α->List Value}{k:Nat}(hk:0<k){t e:TypeId}(hc:P.cellsOf e=k)(ht:P.underlying t=some (.slice e))(hv: ∀a,∀u∈F a,∀σ,VR σ u u)(hF: ∀n cs x,cs.length=k->DataW.trod enc P w 0 spare held n e cs=some x-> ∃a,cs=F a){fuel:Nat}{v:Value}{x:DataW H×List MemPlace}(h:DataW.trod enc P w 0 spare held fuel t [v]=some x):
 ∃(l:List α) (o:Option Loc) (c:List Value) (av:Nat->Value),iw w F k v l o c av/\sliceLen x.1=l.length:=by
 rcases open_slice ht h with ⟨hcs,rfl⟩|⟨a,len,cap,m,n,D,Pl,hcs,_,hl,hm,hmm,rfl,hx⟩
 ·simp only[Gc,and_true]at hcs
  subst hcs
  exact⟨[],none,[],fun _=> .slice none 0 0,⟨nofun,nofun,fun _ _ _=> .slNil,fun _ _ _=> .inl ⟨rfl,.inl rfl⟩,fun _ b len c h=>by cases h;decide⟩,rfl⟩
 ·simp only[Gc,and_true]at hcs
  subst hcs
  have hcap:cap<unk:=by unfold maxLen at hm;unfold unk;omega
  have hlm:len<=m:=by rw[hmm];split<;>omega
  by_cases h0:len=0
  ·subst h0
   exact⟨[],none,[],fun _=> .slice (some ⟨0,0,some 0⟩) 0 cap,⟨nofun,nofun,fun _ _ _=> .slE,fun _ _ _=> .inl ⟨rfl,.inr ⟨_,_,rfl⟩⟩,fun _ b len c h=>by cases h;exact hcap⟩,by simp[sliceLen]⟩
  ·have hsp:a.spot=none:=by
    obtain⟨cs',h1,_⟩:=hx 0 (by omega)
    obtain⟨_,hcl,hg⟩:=World.cells?_some h1
    have:=hg 0 (by omega)
    rw[Hu]at this
    have e0:(a.add 0).add 0=a:=by simp[Addr.add]
    rw[e0,Ex (by omega)]at this
    unfold World.cell? at this
    split at this
    ·split at this
     ·cases this
     ·rename_i hs;simpa using hs
    ·cases this
   have ha:=Addr_eta hsp
   obtain⟨l,hl1,hl2,hl3⟩:=chunks (F:=F) (k:=k) (f:=fun i=>w.cell? ⟨a.block,a.off+i,none⟩) len 0 (fun i hi=>by
    obtain⟨cs',h1,h2⟩:=hx i (by omega)
    obtain⟨_,hcl,hg⟩:=World.cells?_some h1
    rw[hc]at hcl hg
    obtain⟨r,rfl⟩:=hF _ _ _ hcl h2
    refine⟨r,hcl,fun j hj=> ?_⟩
    have:=hg j hj
    rw[ha,eP,eP]at this
    rw[<-this];show w.cell? _=w.cell? _;congr 2;omega)
   simp only[EU]at hl3
   have hpos:0<len*k:=Nat.mul_pos (by omega) hk
   refine⟨l,some (a.block,a.off,0),l.flatMap F,fun n=> .slice (some ⟨n,0,none⟩) l.length cap,⟨?_,?_,?_,?_,?_⟩,by simp[sliceLen,hl1]⟩
   ·rintro x ⟨⟩
    have:=hl3 0 hpos
    rw[Ex (by omega)]at this
    unfold World.cell? at this
    split at this
    ·rename_i hb;obtain⟨hb,_⟩:=Fh.1 hb;exact hb
    ·cases this
   ·rintro x ⟨⟩ i u hu
    obtain⟨hi,_⟩:=Ey.1 hu
    refine⟨(hl3 i (by omega)).trans hu,fun σ=> ?_⟩
    obtain⟨r,_,hr⟩:=Fi.1 (EE hu)
    exact hv r u hr σ
   ·intro σ n hn
    have:VR σ (.slice (some ⟨n,0,none⟩) len cap) (.slice (some ⟨a.block,a.off+0,none⟩) len cap):= .sl hn ⟨hl,.inl ⟨hcap,rfl⟩⟩
    rw[hl1,ha];simpa using this
   ·intro H n hH
    refine .inr ⟨n,0,cap,rfl,?_⟩
    unfold ak aP
    rw[hH]
    simp only[Option.bind_some,EU]
    rw[if_pos (by rw[hl1,hl2];exact EJ _),F4,GE (by rw[hl1,hl2];exact EJ _)]
   ·rintro n b len' c' h
    cases h;exact hcap
theorem HR.Eu(w:World)(L:List (Option Loc×List Value))(h: ∀(n:Nat) (o:Option Loc) (c:List Value),L[n]? =some (o,c)-> ∀x:Loc,o=some x->x.1<w.heap.size/\ ∀i u,c[i]? =some u->w.cell? ⟨x.1,x.2.1+i,none⟩=some u/\ ∀σ,VR σ u u):
 HR (fun n=>(L[n]?).bind (·.1)) (L.map fun x=> .ro x.2) w where
 dom n x hn:=by
  simp only[EN]at hn
  obtain⟨⟨o,c⟩,h1,h2⟩:=hn
  obtain⟨hl,_⟩:=Ey.1 h1
  exact⟨by simpa using hl,(h n o c h1 x h2).1⟩
 obj n x hn:=by
  simp only[EN]at hn
  obtain⟨⟨o,c⟩,h1,h2⟩:=hn
  unfold at_
  rw[EM,h1]
  intro i v hv
  obtain⟨h3,h4⟩:=(h n o c h1 x h2).2 i v hv
  exact⟨v,h3,h4 _⟩
 inj n m x y hn _ _ hr _:=by
  simp only[EN]at hn
  obtain⟨⟨o,c⟩,h1,h2⟩:=hn
  unfold at_ at hr
  rw[EM,h1]at hr
  simp[AO.rw]at hr
theorem Ext.below{σ σ':Ren}{A A':AH}{w w':World}(h:Ext σ A w σ' A' w')(hr: ∀n,(at_ A n).rw=false):Below w.heap.size w w':=⟨h.os,h.tape,h.output,h.size,fun k hk=>h.frame k hk fun n x _ hn=>by rw[hr]at hn;cases hn⟩
theorem ox(hl:laidOutB P=true){W W':World}{sp':Nat->Bool}: ∀{ts:List TypeId} {vs:List Value} {ds:List (DataW H)} {ps:List MemPlace},(∀t∈ts,P.readableRec t=true/\t<P.types.size)->DataW.TrodAll enc P W 0 (fun _=>true) true ts vs ds ps->(∀p∈ps,W.sameAt W' p)->(∀p∈ps,sp' p.block=true)->DataW.TrodAll enc P W' 0 sp' true ts vs ds ps
 | [],_,_,_,_,h,_,_=>by
   obtain⟨rfl,rfl,rfl⟩:=trodAll_nil h
   rfl
 |t::ts,_,_,_,ht,h,hs,hp=>by
  obtain⟨v,vs,d,ds,p,q,rfl,rfl,rfl,h1,h2⟩:=trodAll_cons h
  exact⟨p,q,WideElems.Trod_stays hl (ht t (by simp)).1 (ht t (by simp)).2 h1 (fun x hx=>hs x (by simp[hx])) (fun x hx=>hp x (by simp[hx])),ox hl (fun t h=>ht t (by simp[h])) h2 (fun x hx=>hs x (by simp[hx])) (fun x hx=>hp x (by simp[hx])),rfl⟩
end
end Go.Ev
namespace Go.Proofs.Ytjcomcgpjjianaa
open Go.Ev
structure Cr where
 a0:Int
 a1:Int
 a2:Int
 a3:Int
 s:Int
def Cr.cells(x:Cr):List Value:=[O U x.a0,O U x.a1,O U x.a2,O U x.a3,O U x.s]
def Cr.val(x:Cr):Value:= .agg #[O U x.a0,O U x.a1,O U x.a2,O U x.a3,O U x.s]
def cS(s p:Int):Bool:=p==0||p==IntKind.i64.wrap (2+s)
theorem pB(H:AH)(x:Cr)(p:Int):AC Try.prog 64 [x.val,O U p] H (.val (.bool (cS x.s p)) H):=by
 refine AC.o 14 f64 fun σ w hr=> ?_
 refine W.seq (W.g ?_ (by simp[go_sem,Cr.val];rfl))
 cases hp:p==0
 ·refine W.seq (W.g ?_ (by simp[go_sem,hp];rfl))
  exact W.ret (Ends.quiet (by simp[go_sem,cS,hp]) rfl)
 ·refine W.seq (W.g ?_ (by simp[go_sem,hp];rfl))
  exact W.ret (Ends.quiet (by simp[go_sem,cS,hp]) rfl)
theorem fK(H:AH)(c p:Int):AC Try.prog 82 [.agg #[O U c,O U p]] H (.val (.agg #[O U c,O U ((IntKind.i64.wrap (p+2)).tmod 4)]) H):=by
 refine AC.o 10 f82 fun σ w hr=> ?_
 refine W.seq (W.g ?_)
 refine W.seq (W.g ?_)
 exact W.ret (Ends.quiet (by simp[go_sem]<;>first|rfl|exact⟨rfl,rfl⟩) rfl)
def aE(l:List Cr):List Value:=l.flatMap Cr.cells
theorem iq(x:Cr)(l:List Cr):aE (x::l)=x.cells++aE l:=rfl
theorem dy: ∀l:List Cr,(aE l).length=l.length*5
 | []=>rfl
 |x::l=>by
  rw[iq,Ez,dy l]
  simp only[Cr.cells,List.length_cons,List.length_nil]
  omega
theorem mV: ∀(l:List Cr) (j:Nat) (x:Cr),l[j]? =some x->(aE l).drop (j*5)=x.cells++aE (l.drop (j+1))
 | [],j,x,h=>by simp at h
 |y::l,0,x,h=>by simp at h;subst h;simp[iq]
 |y::l,j+1,x,h=>by
  have:=mV l j x (by simpa using h)
  rw[Hh,<-this,iq,show(j+1)*5=y.cells.length+j*5 by simp[Cr.cells];omega,List.drop_length_add_append]
def jK(H:AH)(v:Value)(l:List Cr):Prop:=(l=[]/\(v= .slice none 0 0\/ ∃i c,v= .slice (some ⟨0,i,some 0⟩) 0 c))\/(∃n i c,v= .slice (some ⟨n,i,none⟩) l.length c/\ak H n i (l.length*5)=some (aE l))
def ig(H:AH)(v:Value)(l:List Cr)(loops:Int):Prop:= ∃n i s,v= .pointer (some ⟨n,i,none⟩)/\ak H n i 2=some [s,O U loops]/\jK H s l
theorem ig.two{H:AH}{n i:Nat}{s:Value}{loops:Int}(h:ak H n i 2=some [s,O U loops]):aj H n i=some s/\aj H n (i+1)=some (O U loops):=⟨by simpa using cG h (j:=0) (by omega),by simpa using cG h (j:=1) (by omega)⟩
theorem jK.len{H:AH}{v:Value}{l:List Cr}(h:jK H v l): ∃b c,v= .slice b l.length c:=by
 rcases h with ⟨rfl,h|⟨i,c,h⟩⟩|⟨n,i,c,h,_⟩
 ·exact⟨_,_,h⟩
 ·exact⟨_,_,h⟩
 ·exact⟨_,c,h⟩
def atB(l:List Cr)(c p:Int):Bool:=decide (0<=c)&&decide (c<l.length)&&decide (0<=p)&&decide (p<=3)
theorem at_ok(H:AH)(d:Value)(l:List Cr)(loops:Int)(hd:ig H d l loops)(c p:Int):AC Try.prog 71 [d,.agg #[O U c,O U p]] H (.val (.bool (atB l c p)) H):=by
 obtain⟨n,i,s,rfl,h2,hs⟩:=hd
 obtain⟨b,k,rfl⟩:=hs.len
 obtain⟨r0,r1⟩:=ig.two h2
 refine AC.o 29 f71 fun σ w hr=> ?_
 refine W.seq (W.g ?_)
 cases g1:decide (0<=c)<;>cases g2:decide (c<(l.length:Int))<;>cases g3:decide (0<=p)<;>cases g4:decide (p<=3)<;>
  exact W.seq (W.drawnBy (fun _=>false) follows (by decide+kernel) (Dl.seg (by simp[go_sem,g1,g2,g3,g4,aw r0]<;>first|rfl|exact⟨rfl,rfl⟩)
   (Dl.nil (W.ret (Ends.quiet (by simp[go_sem,atB,g1,g2,g3,g4]) rfl)))))
def Cr.arc(x:Cr)(p:Nat):Int:=match p with| 0=>x.a0| 1=>x.a1| 2=>x.a2|_=>x.a3
theorem jK.read{H:AH}{v:Value}{l:List Cr}(h:jK H v l){j:Nat}{x:Cr}(hx:l[j]? =some x):
 ∃n i c,v= .slice (some ⟨n,i,none⟩) l.length c/\ak H n (i+j*5) 5=some x.cells:=by
 rcases h with ⟨rfl,_⟩|⟨n,i,c,h,hr⟩
 ·simp at hx
 ·refine⟨n,i,c,h,?_⟩
  have hj:j<l.length:=(Ey.1 hx).1
  rw[bL hr (j:=j*5) (m:=5) (by omega),mV l j x hx]
  simp[Cr.cells]
theorem Ds(x:Cr){q:Nat}(hq:q<4):x.cells[q]? =some (O U (x.arc q)):=by
 match q,hq with
 | 0,_=>rfl
 | 1,_=>rfl
 | 2,_=>rfl
 | 3,_=>rfl
theorem j8(H:AH)(d:Value)(l:List Cr)(loops:Int)(hd:ig H d l loops)(j q:Nat)(x:Cr)(hx:l[j]? =some x)(hq:q<4):
 AC Try.prog 73 [d,.agg #[O U j,O U q]] H (.val (O U (x.arc q)) H):=by
 obtain⟨n,i,s,rfl,h2,hs⟩:=hd
 obtain⟨n',i',k,rfl,h3⟩:=hs.read hx
 obtain⟨r0,r1⟩:=ig.two h2
 have hj:j<l.length:=(Ey.1 hx).1
 have hq':(q:Int)<4:=by omega
 have r3:aj H n' (i'+j*5+q)=some (O U (x.arc q)):=by rw[cG h3 (j:=q) (by omega),Ds x hq]
 refine AC.o 18 f73 fun σ w hr=> ?_
 refine W.seq (W.g ?_)
 refine W.seq (W.drawnBy (fun _=>false) follows (by decide+kernel) (Dl.s (Dl.nil ?_) (by simp[go_sem,aw r0,aw r3,hj,hq'];rfl)))
 exact W.ret (Ends.quiet (by simp[go_sem]) rfl)
theorem aA{n:Nat}(h:n<4611686018427387904):IntKind.i64.wrap ((n:Int)+1)=((n+1:Nat):Int):=by rw[EP];omega
def hit(x:Cr)(a:Int)(e:Bool)(q:Nat):Bool:=x.arc q==a&&cS x.s q==e
def bi(a:Int)(e:Bool):Nat->List Cr->Int×Int
 |_,[]=>(-1,0)
 |j,x::r=>match (List.range' 0 4).find? (hit x a e)with
  |some q=>(j,q)
  |none=>bi a e (j+1) r
def gZ(e:Int×Int):Value:= .agg #[O U e.1,O U e.2]
theorem Cr.arr(x:Cr){q:Nat}(hq:q<4):(#[O U x.a0,O U x.a1,O U x.a2,O U x.a3]:Array Value)[q]? =some (O U (x.arc q)):=by
 match q,hq with
 | 0,_=>rfl
 | 1,_=>rfl
 | 2,_=>rfl
 | 3,_=>rfl
theorem dk(H:AH)(d:Value)(l:List Cr)(loops:Int)(hd:ig H d l loops)(a:Int)(e:Bool)(hl:l.length<4611686018427387904):
 AC Try.prog 68 [d,O U a,.bool e] H (.val (gZ (bi a e 0 l)) H):=by
 obtain⟨n,i,s,rfl,h2,hs⟩:=hd
 obtain⟨r0,r1⟩:=ig.two h2
 obtain⟨b,k,rfl⟩:=hs.len
 refine AC.o 44 f68 fun σ w hr=> ?_
 refine W.seq (W.g ?_)
 refine W.seq ?_
 refine W.seq (W.g ?_ (by simp[go_sem,aw r0];rfl))
 refine W.block ?_
 refine W.loop (fun m E h=> ∃j G,m=l.length-j/\j<=l.length/\ae E 1=O U a/\ae E 2= .bool e/\ae E 6= .pointer (some ⟨H.length,0,none⟩)/\ae E 15= .slice b l.length k/\ae E 16=O U l.length/\ae E 17=O U j/\h=H++ .cells [O U 0,O U 0] 77::G/\bi a e 0 l=bi a e j (l.drop j)) l.length
  ⟨0,[],by omega,by omega,rfl,rfl,rfl,rfl,rfl,rfl,rfl,rfl⟩ ?_
 rintro m E h ⟨j,G,rfl,hj,e1,e2,e6,e15,e16,e17,rfl,hpl⟩
 by_cases hlt:j<l.length
 ·have hx:l[j]? =some l[j]:=Ex hlt
  generalize l[j]=x at hx
  obtain⟨n',i',c',hb,h3⟩:=hs.read hx
  cases hb
  have hh: ∃h2,h2=H++AO.cells [Value.int IntKind.i64 0,Value.int IntKind.i64 0] 77::G:=⟨_,rfl⟩
  obtain⟨h2',hh⟩:=hh
  rw[<-hh]
  have r3:ak h2' n' (i'+j*5) 5=some x.cells:=by rw[hh];exact aD h3
  refine W.seq (W.g ?_ (by simp[go_sem,e16,e17,hlt];rfl))
  refine W.seq (W.ct (W.skip ?_))
  refine W.seq (W.block ?_)
  refine W.seq (W.g ?_ (by simp[go_sem,e15,e17,hlt,r3,Cr.cells];rfl))
  refine W.seq (W.g ?_)
  refine W.block ?_
  refine W.loop (fun m' E' h'=> ∃q,m'=4-q/\q<=4/\ae E' 1=O U a/\ae E' 2= .bool e/\ae E' 6= .pointer (some ⟨H.length,0,none⟩)/\ae E' 15= .slice (some ⟨n',i',none⟩) l.length k/\ae E' 16=O U l.length/\ae E' 17=O U j/\ae E' 7=O U j/\ae E' 8= .pointer (some ⟨h2'.length,0,none⟩)/\ae E' 23= .agg #[O U x.a0,O U x.a1,O U x.a2,O U x.a3]/\ae E' 24=O U q/\h'=h2'++[.cells [O U x.a0,O U x.a1,O U x.a2,O U x.a3,O U x.s] 73]/\(List.range' 0 4).find? (hit x a e)=(List.range' q (4-q)).find? (hit x a e)) 4
   ⟨0,rfl,by omega,by simp[ae,e1],by simp[ae,e2],by simp[ae,e6],by simp[ae,e15],by simp[ae,e16],by simp[ae,e17],by simp[ae],by simp[ae],by simp[ae],by simp[ae],rfl,rfl⟩ ?_
  rintro m' E' h' ⟨q,rfl,hq,d1,d2,d6,d15,d16,d17,d7,d8,d23,d24,rfl,hfi⟩
  by_cases hq4:q<4
  ·have hq':(q:Int)<4:=by omega
   have har:=x.arr hq4
   refine W.seq (W.g ?_ (by simp[go_sem,d24,hq'];rfl))
   refine W.seq (W.ct (W.skip ?_))
   refine W.seq (W.block ?_)
   refine W.seq (W.g ?_ (by simp[go_sem,d23,d24,hq',ix38,har];rfl))
   have hr4:List.range' q (4-q)=q::List.range' (q+1) (4-(q+1)):=by
    rw[show 4-q=(4-(q+1))+1 by omega,GM]
   cases g:x.arc q==a
   ·refine W.seq (W.g ?_ (by simp[go_sem,d1,g];rfl))
    refine W.cf (W.skip ?_)
    refine W.g ?_ (by simp[go_sem,d24];rfl)
    refine⟨4-(q+1),by omega,q+1,rfl,by omega,by simp[ae,d1],by simp[ae,d2],by simp[ae,d6],by simp[ae,d15],by simp[ae,d16],by simp[ae,d17],by simp[ae,d7],by simp[ae,d8],by simp[ae,d23],?_,rfl,?_⟩
    ·simp only[ae,if_true];rw[aA (by omega)]
    ·rw[hfi,hr4,List.find?_cons];simp[hit,g]
   ·refine W.seq (W.region (Wl.s ?_ (by simp[go_sem,d1,d8,g];rfl)))
    refine Wl.o (Sc b64 (pB _ x q)) ?_
    refine Wl.s (Wl.nil ?_) (by simp[go_sem,d2];rfl)
    cases g2:cS x.s q==e
    ·refine W.cf (W.skip ?_) (by simp[go_sem,g2])
     refine W.g ?_ (by simp[go_sem,d24];rfl)
     refine⟨4-(q+1),by omega,q+1,rfl,by omega,by simp[ae,d1],by simp[ae,d2],by simp[ae,d6],by simp[ae,d15],by simp[ae,d16],by simp[ae,d17],by simp[ae,d7],by simp[ae,d8],by simp[ae,d23],?_,rfl,?_⟩
     ·simp only[ae,if_true];rw[aA (by omega)]
     ·rw[hfi,hr4,List.find?_cons];simp[hit,g,g2]
    ·refine W.ct ?_ (by simp[go_sem,g2])
     have hst:at_ (h2'++[AO.cells [O U x.a0,O U x.a1,O U x.a2,O U x.a3,O U x.s] 73]) H.length= .cells [O U 0,O U 0] 77:=by
      rw[hh,EH,List.cons_append];exact bF _ _ _
     refine W.seq (W.g ?_ (by simp[go_sem,d6,d7,hst];rfl))
     have hset:(h2'++[AO.cells [O U x.a0,O U x.a1,O U x.a2,O U x.a3,O U x.s] 73]).set H.length (.cells [O U j,O U q] 77)=H++(.cells [O U j,O U q] 77::(G++[.cells [O U x.a0,O U x.a1,O U x.a2,O U x.a3,O U x.s] 73])):=by
      rw[hh,EH,List.cons_append];exact g9 _ _ _ _
     have hres:bi a e 0 l=((j:Int),(q:Int)):=by
      rw[hpl,E7 hlt]
      have:l[j]=x:=by rw[Ex hlt]at hx;exact Fj hx
      rw[this]
      simp only[bi]
      rw[hfi,hr4,List.find?_cons]
      simp[hit,g,g2]
     rw[hset,hres]
     exact W.ret (Ends.quiet (by simp[go_sem,d6,gZ]) rfl)
  ·have hq4':q=4:=by omega
   subst hq4'
   refine W.seq (W.g ?_ (by simp[go_sem,d24];rfl))
   refine W.seq (W.cf (W.exit ?_))
   simp only[AX.then,AX.inBlock,if_true]
   refine W.g ?_ (by simp[go_sem,d17];rfl)
   refine⟨l.length-(j+1),by omega,j+1,G++[.cells [O U x.a0,O U x.a1,O U x.a2,O U x.a3,O U x.s] 73],rfl,by omega,by simp[ae,d1],by simp[ae,d2],by simp[ae,d6],by simp[ae,d15],by simp[ae,d16],?_,by rw[hh];simp,?_⟩
   ·simp only[ae,if_true];rw[aA (by omega)]
   ·rw[hpl,E7 hlt]
    have:l[j]=x:=by rw[Ex hlt]at hx;exact Fj hx
    rw[this]
    simp only[bi]
    rw[hfi];rfl
 ·have hjl:j=l.length:=by omega
  subst hjl
  refine W.seq (W.g ?_ (by simp[go_sem,e16,e17];rfl))
  refine W.seq (W.cf (W.exit ?_))
  simp only[AX.then,AX.inBlock,if_true]
  refine W.seq (W.g ?_ (by simp[go_sem,e6];rfl))
  rw[hpl,Fu]
  exact W.ret (Ends.quiet (by simp[go_sem,e6,gZ,bi]) rfl)
theorem jK.app{H G:AH}{v:Value}{l:List Cr}(h:jK H v l):jK (H++G) v l:=by
 rcases h with ⟨h1,h2⟩|⟨n,i,c,h1,h2⟩
 ·exact .inl ⟨h1,h2⟩
 ·exact .inr ⟨n,i,c,h1,aD h2⟩
theorem ig.app{H G:AH}{v:Value}{l:List Cr}{loops:Int}(h:ig H v l loops):ig (H++G) v l loops:=by
 obtain⟨n,i,s,h1,h2,h3⟩:=h
 exact⟨n,i,s,h1,aD h2,h3.app⟩
def jX(l:List Cr)(x:Cr)(q:Nat):Int×Int:=bi (x.arc q) (!cS x.s q) 0 l
theorem zb(H:AH)(d:Value)(l:List Cr)(loops:Int)(hd:ig H d l loops)(hl:l.length<4611686018427387904)(j q:Nat)(x:Cr)(hx:l[j]? =some x)(hq:q<4):
 AC Try.prog 94 [d,.agg #[O U j,O U q]] H (.val (gZ (jX l x q)) H):=by
 have hd0:=hd
 obtain⟨n,i,s,rfl,h2,hs⟩:=hd
 obtain⟨n',i',k,rfl,h3⟩:=hs.read hx
 obtain⟨r0,r1⟩:=ig.two h2
 have hj:j<l.length:=(Ey.1 hx).1
 refine AC.o 23 f94 fun σ w hr=> ?_
 refine W.seq (W.g ?_)
 refine W.seq (W.drawnBy (fun i=>i==3||i==15||i==17) follows (by decide+kernel) (Dl.s ?_))
 refine Dl.t (Sc b73 (j8 _ _ l loops hd0.app j q x hx hq)) ?_
 refine Dl.s ?_ (by simp[go_sem,aw r0,aD h3,hj,Cr.cells];rfl)
 refine Dl.t (Sc b64 (pB _ x q)) ?_
 refine Dl.s ?_
 refine Dl.t (Sc b68 (dk _ _ l loops hd0.app (x.arc q) (!cS x.s q) hl)) ?_
 refine Dl.s (Dl.nil ?_) (by simp[go_sem,gZ];rfl)
 exact W.ret (Ends.quiet (by simp[go_sem,gZ,jX]) rfl)
def sW(l:List Cr)(x:Cr)(q:Nat):Bool:=(IntKind.i64.wrap ((q:Int)+(jX l x q).2)).tmod 2==0
theorem level_ok(H:AH)(d:Value)(l:List Cr)(loops:Int)(hd:ig H d l loops)(hl:l.length<4611686018427387904)(j q:Nat)(x:Cr)(hx:l[j]? =some x)(hq:q<4):
 AC Try.prog 77 [d,.agg #[O U j,O U q]] H (.val (.bool (sW l x q)) H):=by
 refine AC.o 14 f77 fun σ w hr=> ?_
 refine W.seq (W.g ?_)
 refine W.seq (W.drawnBy (fun i=>i==4) follows (by decide+kernel) (Dl.s ?_))
 refine Dl.t (Sc b94 (zb _ d l loops hd.app hl j q x hx hq)) ?_
 refine Dl.s (Dl.nil ?_) (by simp[go_sem,gZ];rfl)
 exact W.ret (Ends.quiet (by simp[go_sem,sW]) rfl)
def cy(H:AH)(v:Value)(l:List Int):Prop:=(l=[]/\(v= .slice none 0 0\/ ∃i c,v= .slice (some ⟨0,i,some 0⟩) 0 c))\/(∃n i c,v= .slice (some ⟨n,i,none⟩) l.length c/\ak H n i l.length=some (l.map (O U)))
theorem cy.len{H:AH}{v:Value}{l:List Int}(h:cy H v l): ∃b c,v= .slice b l.length c:=by
 rcases h with ⟨rfl,h|⟨i,c,h⟩⟩|⟨n,i,c,h,_⟩
 ·exact⟨_,_,h⟩
 ·exact⟨_,_,h⟩
 ·exact⟨_,c,h⟩
theorem cy.read{H:AH}{v:Value}{l:List Int}(h:cy H v l){j:Nat}{x:Int}(hx:l[j]? =some x):
 ∃n i c,v= .slice (some ⟨n,i,none⟩) l.length c/\aj H n (i+j)=some (O U x):=by
 rcases h with ⟨rfl,_⟩|⟨n,i,c,h,hr⟩
 ·simp at hx
 ·refine⟨n,i,c,h,?_⟩
  have hj:j<l.length:=(Ey.1 hx).1
  rw[cG hr hj,EM,hx];rfl
theorem yy(v:Value)(k:Nat):(madeCells #[v] k).toList=List.replicate k v:=by
 apply FM
 intro i
 simp only[madeCells,Ht,EM,FD]
 by_cases h:i<k
 ·rw[if_pos h]
  have:(Array.range k).toList[i]? =some i:=by simp[h]
  rw[this];simp[Nat.mod_one]
 ·rw[if_neg h]
  have:(Array.range k).toList[i]? =none:=by simp;omega
  rw[this];rfl
theorem mk113(H:AH)(n:Nat)(hn:n<=140737488355328):
 cF Try.prog H 113 (O U n) (O U n)=some (.slice (some ⟨H.length,0,none⟩) n n,H++[.cells (List.replicate n (.bool false)) 4]):=by
 have key: ∀m:Int,cF Try.prog H 113 (O U m) (O U m)=if plain (.bool false)=true/\0<=m/\m<=m/\((1:Nat):Int)*m<=281474976710656/\m<=9223372036854775807 then
  some (.slice (some ⟨H.length,0,none⟩) m.toNat m.toNat,H++[.cells (madeCells #[.bool false] (m.toNat*1)).toList 4])else none:=fun m=>by kernel_rfl
 rw[key,if_pos ⟨rfl,by omega,by omega,by omega,by omega⟩,Hl,yy];simp
def eg(bs:List Bool):List Int->Bool
 | []=>true
 |x::r=>if x<0 then false else if(bs.length:Int)<=x then false else if bs.getD x.toNat false=true then false else eg (bs.set x.toNat true) r
def cM(l:List Int):Bool:=eg (List.replicate l.length false) l
theorem ja(H:AH)(v:Value)(l:List Int)(hs:cy H v l)(hl:l.length<=140737488355328):AC Try.prog 26 [v] H (.val (.bool (cM l)) H):=by
 obtain⟨b,k,rfl⟩:=hs.len
 refine AC.o 33 f26 fun σ w hr=> ?_
 refine W.seq (W.g ?_)
 refine W.seq (W.g ?_ (by simp[go_sem,mk113 _ _ hl];rfl))
 refine W.seq ?_
 refine W.seq (W.g ?_)
 refine W.block ?_
 refine W.loop (fun m E h=> ∃j bs,m=l.length-j/\j<=l.length/\bs.length=l.length/\ae E 0= .slice b l.length k/\ae E 9= .slice b l.length k/\ae E 10=O U l.length/\ae E 3= .slice (some ⟨H.length,0,none⟩) l.length l.length/\ae E 11=O U j/\h=H++[.cells (bs.map .bool) 4]/\cM l=eg bs (l.drop j)) l.length
  ⟨0,List.replicate l.length false,by omega,by omega,by simp,rfl,rfl,rfl,rfl,rfl,by simp,rfl⟩ ?_
 rintro m E h ⟨j,bs,rfl,hj,hbs,e0,e9,e10,e3,e11,rfl,hpl⟩
 by_cases hlt:j<l.length
 ·have hx:l[j]? =some l[j]:=Ex hlt
  have hdr:=E7 hlt
  generalize l[j]=x at hx hdr
  obtain⟨n',i',c',hb,h3⟩:=hs.read hx
  cases hb
  refine W.seq (W.g ?_ (by simp[go_sem,e10,e11,hlt];rfl))
  refine W.seq (W.ct (W.skip ?_))
  refine W.seq (W.block ?_)
  refine W.seq (W.g ?_ (by simp[go_sem,e9,e11,hlt,aw h3];rfl))
  rw[hdr]at hpl
  refine W.seq (W.seq ?_)
  cases g1:decide (x<0)
  ·cases g2:decide ((l.length:Int)<=x)
   ·have hx0:0<=x:=by simpa using g1
    have hxl:x<l.length:=by simpa using g2
    have hxn:x.toNat<bs.length:=by omega
    have hxn':x.toNat+1<=bs.length:=by omega
    have hb:bs[x.toNat]? =some bs[x.toNat]:=Ex hxn
    have hbm:(bs.map Value.bool)[x.toNat]? =some (.bool bs[x.toNat]):=by rw[EM,hb];rfl
    cases g3:bs[x.toNat]
    ·rw[g3]at hb hbm
     refine W.g ?_ (by simp[go_sem,e0,e3,g1,g2,hx0,hxl,hbm];rfl)
     refine W.cf (W.skip ?_)
     refine W.g ?_ (by simp[go_sem,e3,hx0,hxl,hxn,hxn'];rfl)
     refine W.g ?_ (by simp[go_sem,e11];rfl)
     refine⟨l.length-(j+1),by omega,j+1,bs.set x.toNat true,rfl,by omega,by simp[hbs],by simp[ae,e0],by simp[ae,e9],by simp[ae,e10],by simp[ae,e3],?_,?_,?_⟩
     ·simp only[ae,if_true];rw[aA (by omega)]
     ·rw[Gz]
     ·rw[hpl];simp only[eg]
      rw[if_neg (by omega),if_neg (by omega),EF,hb];simp
    ·rw[g3]at hb hbm
     refine W.g ?_ (by simp[go_sem,e0,e3,g1,g2,hx0,hxl,hbm];rfl)
     refine W.ct ?_
     refine W.seq (W.g ?_)
     have hf:cM l=false:=by
      rw[hpl];simp only[eg]
      rw[if_neg (by omega),if_neg (by omega),EF,hb];simp
     rw[hf]
     exact W.ret (Ends.quiet (by simp[go_sem]) rfl)
   ·refine W.g ?_ (by simp[go_sem,e0,g1,g2];rfl)
    refine W.ct ?_
    refine W.seq (W.g ?_)
    have hf:cM l=false:=by
     have h1: ¬x<0:=by simpa using g1
     have h2:(l.length:Int)<=x:=by simpa using g2
     rw[hpl];simp only[eg]
     rw[if_neg h1,if_pos (by omega)]
    rw[hf]
    exact W.ret (Ends.quiet (by simp[go_sem]) rfl)
  ·refine W.g ?_ (by simp[go_sem,e0,g1];rfl)
   refine W.ct ?_
   refine W.seq (W.g ?_)
   have hf:cM l=false:=by
    have h1:x<0:=by simpa using g1
    rw[hpl];simp only[eg]
    rw[if_pos h1]
   rw[hf]
   exact W.ret (Ends.quiet (by simp[go_sem]) rfl)
 ·have hjl:j=l.length:=by omega
  subst hjl
  refine W.seq (W.g ?_ (by simp[go_sem,e10,e11];rfl))
  refine W.seq (W.cf (W.exit ?_))
  simp only[AX.then,AX.inBlock,if_true]
  refine W.seq (W.g ?_)
  rw[hpl,Fu]
  exact W.ret (Ends.quiet (by simp[go_sem,eg]) rfl)
def bf(e:Int):Value:= .iface 92 (.agg #[O U e])
theorem aZ(H:AH)(e:Int):AC Try.prog 16 [.bool true,O U e] H (.val (.tuple #[]) H):=by
 refine AC.o 9 f16 fun σ w hr=> ?_
 refine W.seq (W.g ?_)
 exact W.cf (W.skip ⟨.tuple #[],H,[],rfl,rfl,by simp,EJ _,Bel.junk _,fun n hn=> .inl ⟨hn,rfl⟩⟩)
theorem aM(H:AH)(e:Int):AC Try.prog 16 [.bool false,O U e] H (.pan (bf e) H):=by
 refine AC.o 9 f16 fun σ w hr=> ?_
 refine W.seq (W.g ?_)
 refine W.ct ?_
 refine W.region (Wl.s ?_ (by simp[go_sem,pI];rfl))
 exact Wl.pan rfl (bO.ev (by simp[go_sem]<;>first|rfl|exact⟨rfl,rfl⟩)) (Ends.Ef rfl)
structure Pm where
 p0:Int
 p1:Int
 p2:Int
 p3:Int
def Pm.val(p:Pm):Value:= .agg #[O U p.p0,O U p.p1,O U p.p2,O U p.p3]
def Pm.at(p:Pm)(i:Int):Int:=if i=0 then p.p0 else if i=1 then p.p1 else if i=2 then p.p2 else p.p3
def Pm.inside(p:Pm):Prop:=(0<=p.p0/\p.p0<4)/\(0<=p.p1/\p.p1<4)/\(0<=p.p2/\p.p2<4)/\(0<=p.p3/\p.p3<4)
theorem Pm.get(p:Pm){i:Int}(h:0<=i/\i<4):([O U p.p0,O U p.p1,O U p.p2,O U p.p3]:List Value)[i.toNat]? =some (O U (p.at i)):=by
 have:i=0\/i=1\/i=2\/i=3:=by omega
 rcases this with rfl|rfl|rfl|rfl<;>rfl
theorem Pm.get'(p:Pm){i:Int}(h:0<=i/\i<4)(hl:i.toNat<([O U p.p0,O U p.p1,O U p.p2,O U p.p3]:List Value).length):
 ([O U p.p0,O U p.p1,O U p.p2,O U p.p3]:List Value)[i.toNat]=O U (p.at i):=by
 have:=p.get h
 rw[Ex hl]at this
 exact Fj this
def Pm.times(p q:Pm):Pm:=⟨p.at q.p0,p.at q.p1,p.at q.p2,p.at q.p3⟩
theorem eA(H:AH)(p q:Pm)(hq:q.inside):AC Try.prog 37 [p.val,q.val] H (.val (p.times q).val H):=by
 obtain⟨h0,h1,h2,h3⟩:=hq
 refine AC.o 22 f37 fun σ w hr=> ?_
 refine W.seq (W.g ?_ (by simp[go_sem,Pm.val];rfl))
 refine W.seq (W.drawnBy (fun _=>false) follows (by decide+kernel) (Dl.s (Dl.nil ?_) (by simp[go_sem,h0,h1,h2,h3,Pm.get' p h0,Pm.get' p h1,Pm.get' p h2,Pm.get' p h3];rfl)))
 exact W.ret (Ends.quiet (by simp[go_sem,Pm.val,Pm.times]) rfl)
theorem rI:Try.prog.underlying 30=some (.slice 73):=by kernel_rfl
theorem xw:Try.prog.info? 73=some Try.t73:=by kernel_rfl
theorem bs30(H:AH):aQ Try.prog H 30 0 []=some (.slice (some ⟨H.length,0,none⟩) 0 0,H++[.cells [] 73]):=by kernel_rfl
theorem Be(l:List Cr):(aE l).all one=true:=by
 rw[EI]
 intro v hv
 simp only[aE,Fi]at hv
 obtain⟨x,_,hx⟩:=hv
 simp only[Cr.cells,EG,EK,or_false]at hx
 rcases hx with rfl|rfl|rfl|rfl|rfl<;>rfl
theorem cq(l:List Cr):(aE l).all plain=true:=by
 rw[EI]
 intro v hv
 simp only[aE,Fi]at hv
 obtain⟨x,_,hx⟩:=hv
 simp only[Cr.cells,EG,EK,or_false]at hx
 rcases hx with rfl|rfl|rfl|rfl|rfl<;>rfl
theorem qn(H G:AH)(k:Nat)(hG: ∀m,m<G.length->bC k (at_ G m)): ∀n,n<(H++G).length->(n<H.length/\at_ (H++G) n=at_ H n)\/bC k (at_ (H++G) n):=by
 intro n hn
 by_cases h:n<H.length
 ·exact .inl ⟨h,ag h⟩
 ·refine .inr ?_
  have:n=H.length+(n-H.length):=by omega
  rw[this,aq]
  exact hG _ (by rw[Ez]at hn;omega)
theorem hunk:0<unk:=by rw[mK];omega
theorem lS:Try.t73.size=5:=rfl
theorem ve:Try.t73.bytes=40:=rfl
theorem vp(H:AH)(v:Value)(hn:aC Try.prog (H++[.cells [] 73]) Try.t73 (some 30) v=some (0,[])):
 bD Try.prog (H++[.cells [] 73]) #[30,30] (.slice (some ⟨H.length,0,none⟩) 0 0) v=some (.slice (some ⟨H.length,0,none⟩) 0 0,H++[.cells [] 73]):=by
 rw[oH (ts:= #[30,30]) (by simp[rI]) xw (z:= .agg #[O U 0,O U 0,O U 0,O U 0,O U 0]) rfl rfl (by decide) hn hunk (bF _ _ _) (FT _),g9]
theorem aeq73(x0 y0:Int)(x1 y1:Int)(x2 y2:Int)(x3 y3:Int)(x4 y4:Int):bZ Try.prog 10000 73 (.agg #[O U x0,O U x1,O U x2,O U x3,O U x4]) (.agg #[O U y0,O U y1,O U y2,O U y3,O U y4])=some (x0==y0&&x1==y1&&x2==y2&&x3==y3&&x4==y4):=by
 have key:bZ Try.prog 10000 73 (.agg #[O U x0,O U x1,O U x2,O U x3,O U x4]) (.agg #[O U y0,O U y1,O U y2,O U y3,O U y4])=(match (match some (x0==y0)with|some true=>(match some (x1==y1)with|some true=>(match some (x2==y2)with|some true=>(match some (x3==y3)with|some true=>some true|some false=>some false|none=>none)|some false=>some false|none=>none)|some false=>some false|none=>none)|some false=>some false|none=>none)with|some true=>(match some (x4==y4)with|some true=>some true|some false=>some false|none=>none)|some false=>some false|none=>none):=by kernel_rfl
 rw[key]
 cases x0==y0<;>cases x1==y1<;>cases x2==y2<;>cases x3==y3<;>cases x4==y4<;>rfl
theorem eql73(x0 y0:Int)(x1 y1:Int)(x2 y2:Int)(x3 y3:Int)(x4 y4:Int):dx Try.prog .eql 73 (.agg #[O U x0,O U x1,O U x2,O U x3,O U x4]) (.agg #[O U y0,O U y1,O U y2,O U y3,O U y4])=some (.bool (x0==y0&&x1==y1&&x2==y2&&x3==y3&&x4==y4)):=by
 have key:dx Try.prog .eql 73 (.agg #[O U x0,O U x1,O U x2,O U x3,O U x4]) (.agg #[O U y0,O U y1,O U y2,O U y3,O U y4])=(bZ Try.prog 10000 73 (.agg #[O U x0,O U x1,O U x2,O U x3,O U x4]) (.agg #[O U y0,O U y1,O U y2,O U y3,O U y4])).map .bool:=by kernel_rfl
 rw[key,aeq73];rfl
attribute [go_sem] eql73
theorem neq73(x0 y0:Int)(x1 y1:Int)(x2 y2:Int)(x3 y3:Int)(x4 y4:Int):dx Try.prog .neq 73 (.agg #[O U x0,O U x1,O U x2,O U x3,O U x4]) (.agg #[O U y0,O U y1,O U y2,O U y3,O U y4])=some (.bool (!(x0==y0&&x1==y1&&x2==y2&&x3==y3&&x4==y4))):=by
 have key:dx Try.prog .neq 73 (.agg #[O U x0,O U x1,O U x2,O U x3,O U x4]) (.agg #[O U y0,O U y1,O U y2,O U y3,O U y4])=(bZ Try.prog 10000 73 (.agg #[O U x0,O U x1,O U x2,O U x3,O U x4]) (.agg #[O U y0,O U y1,O U y2,O U y3,O U y4])).map fun b=> .bool !b:=by kernel_rfl
 rw[key,aeq73];rfl
attribute [go_sem] neq73
def Cr.eq(x y:Cr):Bool:=x.a0==y.a0&&x.a1==y.a1&&x.a2==y.a2&&x.a3==y.a3&&x.s==y.s
def kX:List Cr->List Cr->Bool
 | [],[]=>true
 |x::l,y::m=>x.eq y&&kX l m
 |_,_=>false
theorem rO: ∀l m:List Cr,l.length≠m.length->kX l m=false
 | [],[],h=>absurd rfl h
 | [],_::_,_=>rfl
 |_::_,[],_=>rfl
 |x::l,y::m,h=>by
  have:=rO l m (by simpa using h)
  simp only[kX,this,Bool.and_false]
theorem Bi(H:AH)(u v:Value)(l m:List Cr)(hu:jK H u l)(hv:jK H v m)(hl:l.length<4611686018427387904):AC Try.prog 27 [u,v] H (.val (.bool (kX l m)) H):=by
 obtain⟨b,k,rfl⟩:=hu.len
 obtain⟨b',k',rfl⟩:=hv.len
 refine AC.o 26 f27 fun σ w hr=> ?_
 refine W.seq (W.g ?_)
 by_cases hlen:l.length=m.length
 ·refine W.seq (W.seq (W.g ?_ (by simp[go_sem,hlen];rfl)))
  refine W.cf (W.skip ?_)
  refine W.seq ?_
  refine W.seq (W.g ?_)
  refine W.block ?_
  refine W.loop (fun q E h=> ∃j,q=l.length-j/\j<=l.length/\ae E 0= .slice b l.length k/\ae E 1= .slice b' m.length k'/\ae E 12=O U l.length/\ae E 13=O U j/\h=H/\kX l m=kX (l.drop j) (m.drop j)) l.length ⟨0,by omega,by omega,by simp[ae,hlen],by simp[ae,hlen],by simp[ae,hlen],by simp[ae],rfl,rfl⟩ ?_
  rintro q E h ⟨j,rfl,hj,e0,e1,e12,e13,rfl,hpl⟩
  by_cases hlt:j<l.length
  ·have hlt':j<m.length:=by omega
   have hx:l[j]? =some l[j]:=Ex hlt
   have hy:m[j]? =some m[j]:=Ex hlt'
   rw[E7 hlt,E7 hlt']at hpl
   generalize l[j]=x at hx hpl
   generalize m[j]=y at hy hpl
   obtain⟨n1,i1,c1,hb,h3⟩:=hu.read hx
   obtain⟨n2,i2,c2,hb',h4⟩:=hv.read hy
   cases hb;cases hb'
   refine W.seq (W.g ?_ (by simp[go_sem,e12,e13,hlt];rfl))
   refine W.seq (W.ct (W.skip ?_))
   refine W.seq (W.block ?_)
   refine W.seq (W.g ?_ (by simp[go_sem,e13];rfl))
   refine W.seq (W.drawnBy (fun _=>false) follows (by decide+kernel) (Dl.s (Dl.nil ?_) (by simp[go_sem,e0,e1,hlt,hlt',h3,h4,Cr.cells];rfl)))
   have hval: ∀t,x.eq y=t->Value.bool (!x.a0==y.a0|| !x.a1==y.a1|| !x.a2==y.a2|| !x.a3==y.a3|| !x.s==y.s)= .bool (!t):=fun t h=>by rw[<-h];simp[Cr.eq]
   cases g:x.eq y
   ·refine W.cond (t:=true) (hval _ g) ?_
    refine W.seq (W.g ?_)
    have hf:kX l m=false:=by rw[hpl];simp only[kX,g,G7]
    rw[hf]
    exact W.ret (Ends.still (by simp[go_sem]) rfl)
   ·refine W.cond (t:=false) (hval _ g) (W.skip ?_)
    refine W.g ?_ (by simp[go_sem,e13];rfl)
    refine⟨l.length-(j+1),by omega,j+1,rfl,by omega,by simp[ae,e0],by simp[ae,e1],by simp[ae,e12],?_,rfl,?_⟩
    ·simp only[ae,if_true];rw[aA (by omega)]
    ·rw[hpl];simp only[kX,g,F0]
  ·have hjl:j=l.length:=by omega
   subst hjl
   refine W.seq (W.g ?_ (by simp[go_sem,e12,e13];rfl))
   refine W.seq (W.cf (W.exit ?_))
   simp only[AX.then,AX.inBlock,if_true]
   refine W.seq (W.g ?_)
   rw[hpl,Fu,hlen,Fu]
   exact W.ret (Ends.still (by simp[go_sem,kX]) rfl)
 ·refine W.seq (W.seq (W.g ?_ (by simp[go_sem,hlen];rfl)))
  have hne: ¬((l.length:Int)=(m.length:Int)):=by omega
  refine W.ct ?_ (by simp[go_sem,hlen,hne])
  refine W.seq (W.g ?_)
  rw[rO l m hlen]
  exact W.ret (Ends.still (by simp[go_sem]) rfl)
def Pm.one:Pm:=⟨0,1,2,3⟩
theorem yP(H:AH):AC Try.prog 5 [] H (.val Pm.one.val H):=by
 refine AC.o 2 f5 fun σ w hr=> ?_
 refine W.seq (W.g ?_)
 refine W.seq (W.g ?_)
 exact W.ret (Ends.quiet (by simp[go_sem,Pm.val,Pm.one]) rfl)
def qL(i j k:Int):Int:=if k=j then i else if k=i then j else k
def Pm.swap(i j:Int):Pm:=⟨qL i j 0,qL i j 1,qL i j 2,qL i j 3⟩
theorem nR(H:AH)(i j:Int)(hi:0<=i/\i<4)(hj:0<=j/\j<4):AC Try.prog 57 [O U i,O U j] H (.val (Pm.swap i j).val H):=by
 refine AC.o 14 f57 fun σ w hr=> ?_
 refine W.seq (W.g ?_)
 refine W.seq (W.g ?_)
 have h1:i=0\/i=1\/i=2\/i=3:=by omega
 have h2:j=0\/j=1\/j=2\/j=3:=by omega
 rcases h1 with rfl|rfl|rfl|rfl<;>rcases h2 with rfl|rfl|rfl|rfl<;>
 ·refine W.seq (W.g ?_)
  refine W.seq (W.g ?_)
  exact W.ret (Ends.quiet (by simp[go_sem,Pm.val,Pm.swap,qL]) rfl)
def ju(p:Pm)(k:Int):Int:=if p.p3=k then 3 else if p.p2=k then 2 else if p.p1=k then 1 else 0
def Pm.undo(p:Pm):Pm:=⟨ju p 0,ju p 1,ju p 2,ju p 3⟩
def vR(p:Pm):Nat->List Value
 | 0=>[O U 0,O U 0,O U 0,O U 0]
 |q+1=>(vR p q).set (p.at q).toNat (O U q)
theorem ln(p:Pm): ∀q,(vR p q).length=4
 | 0=>rfl
 |q+1=>by simp only[vR,EA,ln p q]
theorem wA(p:Pm)(hp:p.inside):vR p 4=[O U (ju p 0),O U (ju p 1),O U (ju p 2),O U (ju p 3)]:=by
 obtain⟨a,b,c,d⟩:=p
 obtain⟨h0,h1,h2,h3⟩:=hp
 simp only at h0 h1 h2 h3
 have g0:a=0\/a=1\/a=2\/a=3:=by omega
 have g1:b=0\/b=1\/b=2\/b=3:=by omega
 have g2:c=0\/c=1\/c=2\/c=3:=by omega
 have g3:d=0\/d=1\/d=2\/d=3:=by omega
 rcases g0 with rfl|rfl|rfl|rfl<;>rcases g1 with rfl|rfl|rfl|rfl<;>rcases g2 with rfl|rfl|rfl|rfl<;>rcases g3 with rfl|rfl|rfl|rfl<;>rfl
theorem Pm.at_inside(p:Pm)(hp:p.inside){q:Int}(hq:0<=q/\q<4):0<=p.at q/\p.at q<4:=by
 obtain⟨h0,h1,h2,h3⟩:=hp
 have:q=0\/q=1\/q=2\/q=3:=by omega
 rcases this with rfl|rfl|rfl|rfl
 ·exact h0
 ·exact h1
 ·exact h2
 ·exact h3
theorem Pm.arr(p:Pm){q:Nat}(hq:q<4):(#[O U p.p0,O U p.p1,O U p.p2,O U p.p3]:Array Value)[q]? =some (O U (p.at q)):=by
 match q,hq with
 | 0,_=>rfl
 | 1,_=>rfl
 | 2,_=>rfl
 | 3,_=>rfl
theorem gp(H:AH)(p:Pm)(hp:p.inside):AC Try.prog 32 [p.val] H (.val p.undo.val H):=by
 refine AC.o 16 f32 fun σ w hr=> ?_
 refine W.seq (W.g ?_ (by simp[go_sem,Pm.val];rfl))
 refine W.seq (W.g ?_)
 refine W.seq (W.seq (W.g ?_))
 refine W.block ?_
 refine W.loop (fun m E h=> ∃q,m=4-q/\q<=4/\ae E 2= .pointer (some ⟨H.length+1,0,none⟩)/\ae E 3= .pointer (some ⟨H.length+2,0,none⟩)/\ae E 6= .agg #[O U p.p0,O U p.p1,O U p.p2,O U p.p3]/\ae E 7=O U q/\h=H++[.cells [O U p.p0,O U p.p1,O U p.p2,O U p.p3] 39,.cells [O U 0,O U 0,O U 0,O U 0] 39,.cells (vR p q) 39]) 4
  ⟨0,rfl,by omega,by simp[ae],by simp[ae],by simp[ae],by simp[ae],rfl⟩ ?_
 rintro m E h ⟨q,rfl,hq,e2,e3,e6,e7,rfl⟩
 by_cases hq4:q<4
 ·have hq':(q:Int)<4:=by omega
  have har:=p.arr hq4
  have hin:=p.at_inside hp (q:=q) ⟨by omega,hq'⟩
  have hlen:=ln p q
  have hle:(p.at q).toNat+1<=4:=by omega
  refine W.seq (W.g ?_ (by simp[go_sem,e7,hq'];rfl))
  refine W.seq (W.ct (W.skip ?_))
  refine W.seq (W.block ?_)
  refine W.seq (W.g ?_ (by simp[go_sem,e6,e7,hq',har];rfl))
  refine W.g ?_ (by simp[go_sem,e3,hin,hlen,hle];rfl)
  refine W.g ?_ (by simp[go_sem,e7];rfl)
  refine⟨4-(q+1),by omega,q+1,rfl,by omega,by simp[ae,e2],by simp[ae,e3],by simp[ae,e6],?_,rfl⟩
  simp only[ae,if_true];rw[aA (by omega)]
 ·have hqq:q=4:=by omega
  subst hqq
  refine W.seq (W.g ?_ (by simp[go_sem,e7];rfl))
  refine W.seq (W.cf (W.exit ?_))
  simp only[AX.then,AX.inBlock,if_true]
  rw[wA p hp]
  refine W.seq (W.g ?_ (by simp[go_sem,e2,e3];rfl))
  exact W.ret (Ends.quiet (by simp[go_sem,e2,Pm.val,Pm.undo]) rfl)
end Go.Proofs.Ytjcomcgpjjianaa
