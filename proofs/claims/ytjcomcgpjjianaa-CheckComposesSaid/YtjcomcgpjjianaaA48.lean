/-
  CheckComposes, PROVED: for every input that reads as data the call returns true, and each argument reads afterwards as it read before.
  Conditions: none.
-/
import Derived.Test.YtjcomcgpjjianaaA47
import Derived.Test.YtjcomcgpjjianaaRows
set_option linter.all false
set_option maxHeartbeats 16000000
set_option maxRecDepth 8000
open Go.Value renaming int→O
open Go.IntKind renaming i64→U
namespace Go.Proofs.Ytjcomcgpjjianaa
open Go.Ev Go.Joins Go.Deep Go.ChangeShapes Go.WideShapes Go.RowKit Go.ChangeAt
theorem own_:ownKnob Try.prog.godebug=none:=by kernel_rfl
theorem laidOut_:laidOutB Try.prog=true:=by kernel_rfl
theorem cl24:Try.prog.cellsOf 24=1:=by kernel_rfl
theorem cl22:Try.prog.cellsOf 22=1:=by kernel_rfl
theorem cl29:Try.prog.cellsOf 29=3:=by kernel_rfl
theorem cl32:Try.prog.cellsOf 32=2:=by kernel_rfl
theorem cl35:Try.prog.cellsOf 35=3:=by kernel_rfl
theorem by3:Try.prog.bytesOf 3=8:=by kernel_rfl
theorem yv{v:Value}(k:Nat)(h: ∀b len c,v= .slice b len c->c<unk):uK v k:=fun b len c e hc=>by have:=h b len c e;omega
section
variable {H:Type}{enc:TypeId×Value->H}{w:World}{base:Nat}
set_option maxRecDepth 100000 in
theorem op24{v:Value}{d:DataW H}{p:List MemPlace}(hv:Value.okWide Try.prog w .any base 24 v)(h:DataW.Trod enc Try.prog w 0 (fun _=>true) true 24 v d p):
 ∃s l o c av,v= .agg #[s]/\iw w Row.cells 20 s l o c av:=by
 obtain⟨cs,rfl,hsz⟩:=okWide_struct Try.underlying24 hv
 rw[cl24]at hsz
 obtain⟨s,rfl⟩:=Array.size_eq_one_iff.1 hsz
 obtain⟨fuel,hf⟩:=h
 obtain⟨y0,n,_,_,h0⟩:=trod_struct1 Try.underlying24 hf
 obtain⟨l,o,c,av,ha,_⟩:=ar22 (by simpa[Value.cells,cl22]using h0)
 exact⟨s,l,o,c,av,rfl,ha⟩
set_option maxRecDepth 100000 in
theorem op29{v:Value}{d:DataW H}{p:List MemPlace}(hv:Value.okWide Try.prog w .any base 29 v)(h:DataW.Trod enc Try.prog w 0 (fun _=>true) true 29 v d p):
 ∃s1 l1 o1 c1 av1 s2 l2 o2 c2 av2 s3 l3 o3 c3 av3,v= .agg #[s1,s2,s3]/\iw w Mv.cells 6 s1 l1 o1 c1 av1/\iw w inC 1 s2 l2 o2 c2 av2/\iw w Pm.cells 4 s3 l3 o3 c3 av3:=by
 obtain⟨s1,s2,s3,y0,y1,y2,n,rfl,_,_,h0,h1,h2⟩:=open_agg3 Try.underlying29 (by kernel_rfl) cl29 hv h
 obtain⟨l1,o1,c1,av1,ha1,_⟩:=ar25 h0
 obtain⟨l2,o2,c2,av2,ha2,_⟩:=ar26 h1
 obtain⟨l3,o3,c3,av3,ha3,_⟩:=ar27 h2
 exact⟨s1,l1,o1,c1,av1,s2,l2,o2,c2,av2,s3,l3,o3,c3,av3,rfl,ha1,ha2,ha3⟩
set_option maxRecDepth 100000 in
theorem op32{v:Value}{d:DataW H}{p:List MemPlace}(hv:Value.okWide Try.prog w .any base 32 v)(h:DataW.Trod enc Try.prog w 0 (fun _=>true) true 32 v d p):
 ∃s l o c av z,v= .agg #[s,.int .i64 z]/\iw w Cr.cells 5 s l o c av:=by
 obtain⟨s1,s2,y0,y1,n,rfl,_,_,h0,h1⟩:=open_agg2 Try.underlying32 (by kernel_rfl) cl32 hv h
 obtain⟨l1,o1,c1,av1,ha1,_⟩:=ar30 h0
 obtain⟨z,hz,_⟩:=DataW.trod_int Try.underlying3 h1
 cases hz
 exact⟨s1,l1,o1,c1,av1,z,rfl,ha1⟩
set_option maxRecDepth 100000 in
theorem op35{v:Value}{d:DataW H}{p:List MemPlace}(hv:Value.okWide Try.prog w .any base 35 v)(h:DataW.Trod enc Try.prog w 0 (fun _=>true) true 35 v d p):
 ∃s1 l1 o1 c1 av1 s2 l2 o2 c2 av2 s3 l3 o3 c3 av3,v= .agg #[s1,s2,s3]/\iw w Rd.cells 8 s1 l1 o1 c1 av1/\iw w inC 1 s2 l2 o2 c2 av2/\iw w inC 1 s3 l3 o3 c3 av3:=by
 obtain⟨s1,s2,s3,y0,y1,y2,n,rfl,_,_,h0,h1,h2⟩:=open_agg3 Try.underlying35 (by kernel_rfl) cl35 hv h
 obtain⟨l1,o1,c1,av1,ha1,_⟩:=ar33 h0
 obtain⟨l2,o2,c2,av2,ha2,_⟩:=ar26 h1
 obtain⟨l3,o3,c3,av3,ha3,_⟩:=ar26 h2
 exact⟨s1,l1,o1,c1,av1,s2,l2,o2,c2,av2,s3,l3,o3,c3,av3,rfl,ha1,ha2,ha3⟩
set_option maxRecDepth 100000 in
theorem op26{v:Value}{d:DataW H}{p:List MemPlace}(hv:Value.okWide Try.prog w .any base 26 v)(h:DataW.Trod enc Try.prog w 0 (fun _=>true) true 26 v d p): ∃l o c av,iw w inC 1 v l o c av/\sliceLen d=l.length:=by
 obtain⟨a,len,cap,rfl⟩:=okWide_slice Try.underlying26 hv
 obtain⟨fuel,hf⟩:=h
 exact ar26 (x:=(d,p)) hf
set_option maxRecDepth 100000 in
theorem op27{v:Value}{d:DataW H}{p:List MemPlace}(hv:Value.okWide Try.prog w .any base 27 v)(h:DataW.Trod enc Try.prog w 0 (fun _=>true) true 27 v d p): ∃l o c av,iw w Pm.cells 4 v l o c av:=by
 obtain⟨a,len,cap,rfl⟩:=okWide_slice Try.underlying27 hv
 obtain⟨fuel,hf⟩:=h
 obtain⟨l,o,c,av,ha,_⟩:=ar27 (x:=(d,p)) hf
 exact⟨l,o,c,av,ha⟩
end
theorem B6{H:Type}{ts:List TypeId}{ds:List (DataW H)}(h:(DataW.weightsEach Try.prog ts ds).all (· <=reachBytes)=true){j:Nat}{d:DataW H}(ht:ts[j]? =some 26)(hd:ds[j]? =some d){n:Nat}(hn:sliceLen d=n):n<4611686018427387904:=by
 subst hn
 cases d with
 |slice el sp=>
  have:=sized_slice h ht hd Try.underlying26
  rw[by3]at this
  have h47:=reachBytes_lt
  simp only[sliceLen]
  omega
 |_=>simp[sliceLen]
set_option maxRecDepth 100000 in
theorem sC(os:Os)(started:os.Started)(H:Type)(enc:TypeId×Value->H):
 ReturnsInHanded {} Try.checked os 3 .any (Rows.checkComposesSpec.pre6 enc Try.prog Try.f3 Rows.checkComposesRow.domain false) (Rows.checkComposesSpec.post enc Try.prog Try.f3 false true false false):=by
 refine returnsInHanded_of_change_sized (C:=Try.checked) own_ started (by kernel_rfl) Try.func3
  (ChangeSpec.witness6 (enc:=enc) (C:=Try.checked) false ⟨#[],#[.agg #[.slice none 0 0],.agg #[.slice none 0 0],.agg #[.slice none 0 0,.slice none 0 0,.slice none 0 0],.slice none 0 0,.slice none 0 0,.agg #[.slice none 0 0,.int .i64 0],.agg #[.slice none 0 0,.int .i64 0],
   .agg #[.slice none 0 0,.slice none 0 0,.slice none 0 0],.slice none 0 0,.slice none 0 0],[]⟩ 8 (by kernel_rfl) (by kernel_rfl) (by kernel_rfl) (by kernel_rfl)) ?_
 intro W base args ds gs before hval0 hW _ hsz0 _
 have hval: ∀(j:Nat) t v,Try.f3.params[j]? =some t->args[j]? =some v->Value.okWide Try.prog W .any base t v:=hval0
 have hsz:(DataW.weightsEach Try.prog (Try.f3.params.toList++Rows.checkComposesSpec.plain.varTypes Try.prog) (ds++gs)).all (· <=reachBytes)=true:=hsz0
 have hW':=hW
 obtain⟨p,q,hA0,hV,rfl,hfz,hnd⟩:=hW
 have hA:DataW.TrodAll enc Try.prog W 0 (fun _=>true) true Try.f3.params.toList args.toList ds p:=hA0
 obtain⟨rfl,rfl⟩:=trodVars_none hV
 have hAll:=hA
 rw[Try.params3]at hA hval hsz
 obtain⟨args⟩:=args
 obtain⟨v0,args,d0,ds,p0,p,rfl,rfl,rfl,t0,hA⟩:=trodAll_cons hA
 obtain⟨v1,args,d1,ds,p1,p,rfl,rfl,rfl,t1,hA⟩:=trodAll_cons hA
 obtain⟨v2,args,d2,ds,p2,p,rfl,rfl,rfl,t2,hA⟩:=trodAll_cons hA
 obtain⟨v3,args,d3,ds,p3,p,rfl,rfl,rfl,t3,hA⟩:=trodAll_cons hA
 obtain⟨v4,args,d4,ds,p4,p,rfl,rfl,rfl,t4,hA⟩:=trodAll_cons hA
 obtain⟨v5,args,d5,ds,p5,p,rfl,rfl,rfl,t5,hA⟩:=trodAll_cons hA
 obtain⟨v6,args,d6,ds,p6,p,rfl,rfl,rfl,t6,hA⟩:=trodAll_cons hA
 obtain⟨v7,args,d7,ds,p7,p,rfl,rfl,rfl,t7,hA⟩:=trodAll_cons hA
 obtain⟨v8,args,d8,ds,p8,p,rfl,rfl,rfl,t8,hA⟩:=trodAll_cons hA
 obtain⟨v9,args,d9,ds,p9,p,rfl,rfl,rfl,t9,hA⟩:=trodAll_cons hA
 obtain⟨rfl,rfl,rfl⟩:=trodAll_nil hA
 obtain⟨s0,l0,o0,c0,a0,rfl,A0⟩:=op24 (hval 0 24 v0 rfl rfl) t0
 obtain⟨s1,l1,o1,c1,a1,rfl,A1⟩:=op24 (hval 1 24 v1 rfl rfl) t1
 obtain⟨s2,l2,o2,c2,a2,s3,l3,o3,c3,a3,s4,l4,o4,c4,a4,rfl,A2,A3,A4⟩:=op29 (hval 2 29 v2 rfl rfl) t2
 obtain⟨l5,o5,c5,a5,A5,_⟩:=op26 (hval 3 26 v3 rfl rfl) t3
 obtain⟨l6,o6,c6,a6,A6⟩:=op27 (hval 4 27 v4 rfl rfl) t4
 obtain⟨s7,l7,o7,c7,a7,z7,rfl,A7⟩:=op32 (hval 5 32 v5 rfl rfl) t5
 obtain⟨s8,l8,o8,c8,a8,z8,rfl,A8⟩:=op32 (hval 6 32 v6 rfl rfl) t6
 obtain⟨s9,l9,o9,c9,a9,s10,l10,o10,c10,a10,s11,l11,o11,c11,a11,rfl,A9,A10,A11⟩:=op35 (hval 7 35 v7 rfl rfl) t7
 obtain⟨l12,o12,c12,a12,A12,n12⟩:=op26 (hval 8 26 v8 rfl rfl) t8
 obtain⟨l13,o13,c13,a13,A13,n13⟩:=op26 (hval 9 26 v9 rfl rfl) t9
 have m12:=B6 hsz (j:=8) rfl rfl n12
 have m13:=B6 hsz (j:=9) rfl rfl n13
 let L:List (Option Ev.Loc×List Value):=[(o0,c0),(o1,c1),(o2,c2),(o3,c3),(o4,c4),(o5,c5),(o6,c6),(o7,c7),(o8,c8),(o9,c9),(o10,c10),(o11,c11),(o12,c12),(o13,c13)]
 have hr:HR (fun n=>(L[n]?).bind (·.1)) (L.map fun x=>AO.ro x.2) W:=HR.Eu W L fun n o c hn x hx=>by
  match n,hn with
  | 0,hn=>cases hn;exact⟨A0.loc x hx,A0.cells x hx⟩
  | 1,hn=>cases hn;exact⟨A1.loc x hx,A1.cells x hx⟩
  | 2,hn=>cases hn;exact⟨A2.loc x hx,A2.cells x hx⟩
  | 3,hn=>cases hn;exact⟨A3.loc x hx,A3.cells x hx⟩
  | 4,hn=>cases hn;exact⟨A4.loc x hx,A4.cells x hx⟩
  | 5,hn=>cases hn;exact⟨A5.loc x hx,A5.cells x hx⟩
  | 6,hn=>cases hn;exact⟨A6.loc x hx,A6.cells x hx⟩
  | 7,hn=>cases hn;exact⟨A7.loc x hx,A7.cells x hx⟩
  | 8,hn=>cases hn;exact⟨A8.loc x hx,A8.cells x hx⟩
  | 9,hn=>cases hn;exact⟨A9.loc x hx,A9.cells x hx⟩
  | 10,hn=>cases hn;exact⟨A10.loc x hx,A10.cells x hx⟩
  | 11,hn=>cases hn;exact⟨A11.loc x hx,A11.cells x hx⟩
  | 12,hn=>cases hn;exact⟨A12.loc x hx,A12.cells x hx⟩
  | 13,hn=>cases hn;exact⟨A13.loc x hx,A13.cells x hx⟩
  |n+14,hn=>simp[L]at hn
 let V:Gv:={sa:=a0 0,sb:=a1 1,lv:=a2 2,ov:=a3 3,pv:=a4 4,o2:=a5 5,p2:=a6 6,sd:=a7 7,nd:=z7,se:=a8 8,ne:=z8,rl:=a9 9,ro:=a10 10,ra:=a11 11,cv:=a12 12,av:=a13 13}
 have hcall:=yx (L.map fun x=>AO.ro x.2) V (A0.rd _ 0 rfl) (A1.rd _ 1 rfl) (A2.rd _ 2 rfl) (Sl.ints (A3.rd _ 3 rfl)) (A4.rd _ 4 rfl) (Sl.ints (A5.rd _ 5 rfl)) (A6.rd _ 6 rfl) (A7.rd _ 7 rfl) (A8.rd _ 8 rfl) (A9.rd _ 9 rfl) (Sl.ints (A10.rd _ 10 rfl)) (Sl.ints (A11.rd _ 11 rfl))
  (Sl.ints (A12.rd _ 12 rfl)) (Sl.ints (A13.rd _ 13 rfl)) (yv 1 (A12.cap 12)) (yv 1 (A13.cap 13)) m12 m13
 have hargs:Rs (fun n=>(L[n]?).bind (·.1)) [glV V.sa,glV V.sb,.agg #[V.lv,V.ov,V.pv],V.o2,V.p2,dgV V.sd V.nd,dgV V.se V.ne,.agg #[V.rl,V.ro,V.ra],V.cv,V.av]
  [.agg #[s0],.agg #[s1],.agg #[s2,s3,s4],v3,v4,.agg #[s7,.int .i64 z7],.agg #[s8,.int .i64 z8],.agg #[s9,s10,s11],v8,v9]:=Rs.cons (Rs.cons (A0.vr _ 0 rfl) (Rs.nil _)).agg<|Rs.cons (Rs.cons (A1.vr _ 1 rfl) (Rs.nil _)).agg<|Rs.cons (Rs.cons (A2.vr _ 2 rfl) (Rs.cons (A3.vr _ 3 rfl) (Rs.cons (A4.vr _ 4 rfl) (Rs.nil _)))).agg<|Rs.cons (A5.vr _ 5 rfl)<|Rs.cons (A6.vr _ 6 rfl)<|
  Rs.cons (Rs.cons (A7.vr _ 7 rfl) (Rs.cons (.int _ _) (Rs.nil _))).agg<|Rs.cons (Rs.cons (A8.vr _ 8 rfl) (Rs.cons (.int _ _) (Rs.nil _))).agg<|Rs.cons (Rs.cons (A9.vr _ 9 rfl) (Rs.cons (A10.vr _ 10 rfl) (Rs.cons (A11.vr _ 11 rfl) (Rs.nil _)))).agg<|
  Rs.cons (A12.vr _ 12 rfl)<|Rs.cons (A13.vr _ 13 rfl)<|Rs.nil _
 refine(hcall _ W _ hargs hr).mono fun e W' ⟨σ',he,_,hx⟩=> ?_
 cases e with
 |returned v=>
  cases he
  have hb:Below W.heap.size W W':=hx.below fun n=>by
   unfold at_
   rw[EM]
   cases L[n]? <;>rfl
  have hlt:=hW'.lt
  refine⟨_,rfl,_,_,_,[],_,[],hW',trodAll_mk1 (shut_bool Try.underlying4 true),ox laidOut_ ?_ hAll (fun x hx=>hb.same (hlt x (by simpa using hx))) (fun x hx=>by simpa using hlt x (by simpa using hx)),rfl,hb.frame _,fun h=>by cases h⟩
  rw[Try.params3]
  intro t ht
  have: ∀t∈[24,29,26,27,32,35],Try.prog.readableRec t=true/\t<Try.prog.types.size:=by
   intro t ht
   simp only[EG,EK,or_false]at ht
   rcases ht with rfl|rfl|rfl|rfl|rfl|rfl<;>exact⟨by kernel_rfl,of_decide_eq_true (by kernel_rfl)⟩
  have hm:t∈[24,24,29,26,27,32,32,35,26,26]:=ht
  simp only[EG,EK,or_false]at hm
  exact this t (by simp only[EG,EK,or_false];rcases hm with h|h|h|h|h|h|h|h|h|h<;>simp[h])
 |_=>exact False.elim he
theorem composes_holds:Rows.CheckComposesSaid:=OpenClaim.holds_of_wide 3 Try.f3 rfl rfl rfl rfl rfl rfl rfl ⟨rfl,rfl,rfl,rfl,rfl⟩ rfl rfl rfl rfl rfl (by kernel_rfl) Try.func3 (by kernel_rfl)
 (of_decide_eq_true (by kernel_rfl)) (by unfold Func.isWrapper;first| (rw[if_pos (by decide+kernel)];kernel_rfl)| (rw[if_neg (by decide+kernel)];exact⟨rfl,rfl⟩))
 (fun os started H enc _=>sC os started H enc)
end Go.Proofs.Ytjcomcgpjjianaa
