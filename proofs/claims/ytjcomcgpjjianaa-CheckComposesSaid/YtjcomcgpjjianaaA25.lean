import Derived.Test.YtjcomcgpjjianaaA19
import Derived.Test.YtjcomcgpjjianaaA24
set_option linter.all false
set_option maxHeartbeats 16000000
set_option maxRecDepth 8000
open Go.Value renaming int→O
open Go.IntKind renaming i64→U
namespace Go.Proofs.Ytjcomcgpjjianaa
open Go.Ev
theorem rv(H:AH)(v:Value)(l:List Cr)(hs:jK H v l)(hl:l.length<1000000):
 ∃v' G na,AC Try.prog 24 [v] H (.val v' (H++G))/\nF (H++G) na 73 5 v' l.length (aE l)/\H.length<=na/\cP G:=by
 have hempty: ∀k,bC k (at_ [AO.cells [] 73] 0):=fun k=>bC.plain rfl
 have happ:v≠ .slice none 0 0-> ∃v' G na,bD Try.prog (H++[.cells [] 73]) #[30,30] (.slice (some ⟨H.length,0,none⟩) 0 0) v=some (v',H++G)/\nF (H++G) na 73 5 v' l.length (aE l)/\H.length<=na/\cP G/\Bel (H++G).length v'/\ ∀n,n<(H++G).length->(n<H.length/\at_ (H++G) n=at_ H n)\/bC (H++G).length (at_ (H++G) n):=by
  intro hv
  have hsame:l=[]->aC Try.prog (H++[.cells [] 73]) Try.t73 (some 30) v=some (0,[])-> ∃v' G na,bD Try.prog (H++[.cells [] 73]) #[30,30] (.slice (some ⟨H.length,0,none⟩) 0 0) v=some (v',H++G)/\nF (H++G) na 73 5 v' l.length (aE l)/\H.length<=na/\cP G/\Bel (H++G).length v'/\ ∀n,n<(H++G).length->(n<H.length/\at_ (H++G) n=at_ H n)\/bC (H++G).length (at_ (H++G) n):=by
   intro h0 hn
   subst h0
   refine⟨_,_,H.length,vp H v hn,.inr ⟨0,rfl,by simp,bF _ _ _,rfl,.inl ⟨rfl,hunk⟩⟩,EJ _,rfl,Bel.sl (by simp),qn _ _ _ fun m hm=> ?_⟩
   have:m=0:=by simp at hm;omega
   subst this;exact hempty _
  rcases hs with ⟨h0,h|⟨i,c,h⟩⟩|⟨n,i,c,h,hr⟩
  ·exact absurd h hv
  ·exact hsame h0 (by rw[h];simp[aC,rI])
  ·subst h
   have hn:=lJ (P:=Try.prog) (H:=H++[.cells [] 73]) (it:=Try.t73) (t:=30) rI (fun _ h=>nomatch h) (c:=c) (k:=l.length) (cs:=aE l) (by rw[lS];exact aD hr)
   cases hle:l with
   |nil=>
    rw[<-hle]
    refine hsame hle ?_
    have q0:l.length=0:=by rw[hle];rfl
    have q1:aE l=[]:=by rw[hle];rfl
    rw[q0,q1]at hn
    rw[q0];exact hn
   |cons x r=>
    rw[<-hle]
    have hpos:0<l.length:=by rw[hle];simp
    have hsz:Try.t73.zero=some (.agg #[O U 0,O U 0,O U 0,O U 0,O U 0]):=rfl
    have hz5:(Value.agg #[O U 0,O U 0,O U 0,O U 0,O U 0]).cells.size=Try.t73.size:=rfl
    have hs0:0<Try.t73.size:=by rw[lS];omega
    have hbytes:(0+l.length)*Try.t73.bytes<=140737488355328:=by rw[ve];omega
    have hold:ak (H++[AO.cells [] 73]) H.length 0 (0*Try.t73.size)=some []:=by rw[ed];rfl
    have hu0:(#[30,30]:Array TypeId)[0]?.bind Try.prog.underlying=some (.slice 73):=by simp[rI]
    have hn':aC Try.prog (H++[AO.cells [] 73]) Try.t73 (#[30,30]:Array TypeId)[1]? (.slice (some ⟨n,i,none⟩) l.length c)=some (l.length,aE l):=hn
    have:=fk hu0 xw hsz hz5 hs0 hn' (Be l) hbytes (by omega) hunk (EJ _) (by omega) hold
    rw[EH,List.nil_append,EU]at this
    have hlen1:(H++[AO.cells [] 73]).length=H.length+1:=by simp
    rw[hlen1,lS]at this
    refine⟨_,_,H.length+1,this,.inr ⟨unk+5,rfl,by simp,?_,dy l,.inr rfl⟩,by omega,?_,Bel.sl (by simp),qn _ _ _ fun m hm=> ?_⟩
    ·have:=aq H ([AO.cells [] 73]++[AO.cells (aE l) 73]) 1
     rw[this];rfl
    ·unfold cP
     simp only[List.cons_append,List.nil_append,List.all_cons,List.all_nil,dS,cq,Ha,Hn]
    ·match m,hm with
     | 0,_=>exact hempty _
     | 1,_=>exact bC.plain (cq l)
     |m+2,hm=>exact absurd hm (by simp)
 by_cases hv:v= .slice none 0 0
 ·subst hv
  refine⟨.slice none 0 0,[],H.length,?_,?_,EJ _,rfl⟩
  ·rw[Ft]
   refine AC.o 8 f24 fun σ w hr=> ?_
   refine W.seq (W.g ?_)
   refine W.seq (W.seq (W.g ?_))
   refine W.ct ?_
   refine W.seq (W.g ?_)
   exact W.ret (Ends.still (by simp[go_sem]) rfl)
  ·have hnil:l=[]:=by
    rcases hs with ⟨h,_⟩|⟨n,i,c,h,_⟩
    ·exact h
    ·cases h
   subst hnil
   exact .inl ⟨rfl,rfl,rfl⟩
 ·obtain⟨v',G,na,h1,h2,k1,k2,h3,h4⟩:=happ hv
  refine⟨v',G,na,?_,h2,k1,k2⟩
  obtain⟨b,c,hb⟩:=hs.len
  have hnil:dx Try.prog .eql 30 v (.slice none 0 0)=some (.bool false):=by
   subst hb
   cases b with
   |none=>
    rcases hs with ⟨_,h|⟨i,c,h⟩⟩|⟨n,i,c,h,hr⟩
    ·exact absurd h hv
    ·cases h
    ·cases h
   |some b=>exact eql30 _ _ _
  refine AC.o 8 f24 fun σ w hr=> ?_
  refine W.seq (W.g ?_)
  refine W.seq (W.seq (W.g ?_ (by simp[go_sem,hnil];rfl)))
  refine W.cf (W.skip ?_)
  refine W.seq (W.g ?_ (by simp[go_sem,bs30,h1];rfl))
  exact W.ret ⟨v',H++G,[],by simp[go_sem],rfl,by simp,by simp,h3,h4⟩
def jU(a:Int):Nat->List Int->Int
 |_,[]=> -1
 |j,x::r=>if a==x then(j:Int)else jU a (j+1) r
theorem sq(a:Int): ∀(l:List Int) (j:Nat),decide (0<=jU a j l)=l.contains a
 | [],_=>rfl
 |x::l,j=>by
  rw[jU,Hm]
  cases h:a==x
  ·rw[Gm,<-sq a l (j+1)];rfl
  ·simp
theorem index_ok(H:AH)(v:Value)(l:List Int)(hs:cy H v l)(y:Int)(hl:l.length<1000000000):AC Try.prog 93 [v,O U y] H (.val (O U (jU y 0 l)) H):=by
 obtain⟨b,k,rfl⟩:=hs.len
 refine AC.o 19 f93 fun σ w hr=> ?_
 refine W.seq (W.g ?_)
 refine W.seq (W.seq (W.g ?_))
 refine W.block ?_
 refine W.loop (fun m E h=> ∃j,m=l.length-j/\j<=l.length/\ae E 0= .slice b l.length k/\ae E 1=O U y/\ae E 7=O U l.length/\ae E 8=O U j/\h=H/\jU y 0 l=jU y j (l.drop j)) l.length
  ⟨0,by omega,by omega,by simp[ae],by simp[ae],by simp[ae],by simp[ae],rfl,rfl⟩ ?_
 rintro m E h ⟨j,rfl,hj,e0,e1,e7,e8,rfl,hpl⟩
 by_cases hlt:j<l.length
 ·have hx:l[j]? =some l[j]:=Ex hlt
  rw[E7 hlt]at hpl
  generalize l[j]=x at hx hpl
  obtain⟨n',i',c',hb,h3⟩:=hs.read hx
  cases hb
  refine W.seq (W.g ?_ (by simp[go_sem,e7,e8,hlt];rfl))
  refine W.seq (W.ct (W.skip ?_))
  refine W.seq (W.block ?_)
  refine W.seq (W.g ?_ (by simp[go_sem,e8];rfl))
  rw[jU]at hpl
  cases g:y==x
  ·refine W.seq (W.g ?_ (by simp[go_sem,e0,e1,hlt,h3,g];rfl))
   refine W.cf (W.skip ?_) (by simp[go_sem,g])
   refine W.g ?_ (by simp[go_sem,e8];rfl)
   refine⟨l.length-(j+1),by omega,j+1,rfl,by omega,by simp[ae,e0],by simp[ae,e1],by simp[ae,e7],?_,rfl,?_⟩
   ·simp only[ae,if_true];rw[aA (by omega)]
   ·rw[hpl,g];rfl
  ·refine W.seq (W.g ?_ (by simp[go_sem,e0,e1,hlt,h3,g];rfl))
   refine W.ct ?_ (by simp[go_sem,g])
   refine W.seq (W.g ?_)
   rw[hpl,g]
   exact W.ret (Ends.still (by simp[go_sem]) rfl)
 ·have hjl:j=l.length:=by omega
  subst hjl
  refine W.seq (W.g ?_ (by simp[go_sem,e7,e8];rfl))
  refine W.seq (W.cf (W.exit ?_))
  simp only[AX.then,AX.inBlock,if_true]
  refine W.seq (W.g ?_)
  rw[hpl,Fu,jU]
  exact W.ret (Ends.still (by simp[go_sem]) rfl)
theorem xN(H:AH)(v:Value)(l:List Int)(hs:cy H v l)(y:Int)(hl:l.length<1000000000):AC Try.prog 95 [v,O U y] H (.val (.bool (l.contains y)) H):=by
 refine AC.o 9 f95 fun σ w hr=> ?_
 refine W.seq (W.g ?_)
 refine W.seq (W.region (Wl.s ?_))
 refine Wl.o (Sc b93 (index_ok _ _ l hs y hl)) ?_
 refine Wl.s (Wl.nil ?_)
 rw[<-sq y l 0]
 exact W.ret (Ends.still (by simp[go_sem]) rfl)
theorem Ends.unit{fn:Func}{S G:AH}{a:Env}(hres:fn.results= #[]):Ev.Ends Try.prog fn S (.val (.tuple #[]) S) .ret a (S++G):=⟨.tuple #[],S,G,by simp only[fg,hres],rfl,rfl,EJ _,Bel.junk _,fun n hn=> .inl ⟨hn,rfl⟩⟩
def kY(l:List Cr)(m:Rd):Bool:=(m.arc==0&&m.sign==0&&(!m.up)&&m.tc==0&&m.tp==0)&&atB l m.ac m.ap
def oB(S:AH)(b:Bool)(r:OpR):Prop:=if b=true then r= .val (.tuple #[]) S else r= .pan (bf 5) S
theorem xx(S:AH)(d:Value)(l:List Cr)(loops:Int)(hd:ig S d l loops)(m:Rd):ACE Try.prog 69 [d,m.val] S (oB S (kY l m)):=by
 obtain⟨kind,arc,sign,up,ac,ap,tc,tp⟩:=m
 refine ACE.o 18 f69 ?_
 refine X.seq (X.g ?_ (by simp[go_sem,Rd.val];rfl))
 cases g:(arc==0&&sign==0&&(!up)&&tc==0&&tp==0)
 ·have hb:kY l ⟨kind,arc,sign,up,ac,ap,tc,tp⟩=false:=by simp only[kY,g];rfl
  rw[hb]
  refine X.region (Xl.s ?_ (by simp[go_sem,g];rfl))
  exact Xl.p (Sc b16 (aM _ _)) ⟨.pan (bf 5) S,by simp[oB],Ends.DL rfl⟩
 ·refine X.region (Xl.s ?_ (by simp[go_sem,g];rfl))
  refine Xl.o (Sc b71 (at_ok _ d l loops hd.app ac ap)) ?_
  have hb:kY l ⟨kind,arc,sign,up,ac,ap,tc,tp⟩=atB l ac ap:=by simp only[kY,g];rfl
  rw[hb]
  cases g2:atB l ac ap
  ·refine Xl.s ?_
   exact Xl.p (Sc b16 (aM _ _)) ⟨.pan (bf 5) S,by simp[oB],Ends.DL rfl⟩
  ·refine Xl.s ?_
   refine Xl.o (Sc b16 (aZ _ _)) ?_
   refine Xl.nil ?_
   exact⟨.val (.tuple #[]) S,by simp[oB],Ends.unit rfl⟩
end Go.Proofs.Ytjcomcgpjjianaa
