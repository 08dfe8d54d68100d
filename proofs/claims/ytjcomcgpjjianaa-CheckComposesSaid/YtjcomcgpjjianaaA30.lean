import Derived.Test.YtjcomcgpjjianaaA19
import Derived.Test.YtjcomcgpjjianaaA29
set_option linter.all false
set_option maxHeartbeats 16000000
set_option maxRecDepth 8000
open Go.Value renaming int→O
open Go.IntKind renaming i64→U
namespace Go.Proofs.Ytjcomcgpjjianaa
open Go.Ev
theorem cP.D5{G:AH}(h:cP G){c:List Value}{e:TypeId}(hc:c.all Ev.plain=true):cP (G++[.cells c e]):=h.app (by unfold cP;simp only[List.all_cons,List.all_nil,dS,hc,Ha])
open Classical in
noncomputable def mN(l:List Cr)(p0 p1:Nat×Nat):Bool:=(ay l p0 !=ay l p1)&&(fj (bz l (2*l.length)) p0.1 !=fj (bz l (2*l.length)) p1.1||(fh l p0 (perOf l p0)).any fun x=>decide (p1=x))
noncomputable def dU(l:List Cr)(loops:Int)(m:Rd):Option (List Cr×Int):=if dL l m.ac m.ap=true then if dL l m.tc m.tp=true then
 if((m.arc==0)&&decide ((l.length:Int)<=198)&&decide (-1<=m.sign)&&decide (m.sign<=1))=true then
  if m.sign=0 then
   if((bQ m.ac+bQ m.tc:Nat):Int)<=loops then
    if bQ m.ac+bQ m.tc≠0\/mN l (m.ac.toNat,m.ap.toNat) (m.tc.toNat,m.tp.toNat)=true then
     let s:=aK l loops m.ac m.ap (2*l.length)
     let t:=aK s.1 s.2.1 m.tc m.tp (2*l.length+2)
     some (t.1++[ng s.2.2 t.2.2 m.up]++[iE s.2.2 t.2.2 m.up],t.2.1)
    else none
   else none
  else
   if((m.ac==m.tc&&m.ap==m.tp)&&(bQ m.ac+bQ m.tc==0||(decide (0<loops)&&m.sign==1)))=true then
    let s:=bB l loops m.ac m.ap (2*l.length)
    let a:=if m.sign<0 then s.2.2.2 else s.2.2.1
    let b:=if m.sign<0 then s.2.2.1 else s.2.2.2
    some (s.1++[ng a b m.up]++[iE a b m.up],s.2.1)
   else none
 else none
 else none else none
theorem rW(l:List Cr)(loops c q:Int)(f:Nat):(bB l loops c q f).1.length=l.length:=by
 unfold bB;split
 ·rfl
 ·simp only[aU]
theorem eu(l:List Cr)(loops c q:Int)(f:Nat):(aK l loops c q f).1.length=l.length:=by
 unfold aK;split
 ·rfl
 ·simp only[aU]
theorem poke_ok(S:AH)(n na:Nat)(l:List Cr)(loops:Int)(hd:DrO S n na l loops)(hs:ax l)(hl:l.length<=200)(hlo:0<=loops/\loops<=200)(m:Rd):
 ACE Try.prog 44 [.pointer (some ⟨n,0,none⟩),m.val] S (cd S n na (dU l loops m)):=by
 obtain⟨s,bb,C0,hsb,hat,hsl⟩:=hd.sl
 have r0:aj S n 0=some s:=by rw[ah,hat];rfl
 have r1:aj S n 1=some (O U loops):=by rw[ah,hat];rfl
 have hw2:=jz (n:=l.length) (by omega)
 have hw4:IntKind.i64.wrap (2*(l.length:Int)+2)=2*(l.length:Int)+2:=by rw[EP];omega
 have hn:=hd.1
 obtain⟨kind,arc,sign,up,ac,ap,tc,tp⟩:=m
 have fail: ∀(E:Env) (G:AH),dU l loops ⟨kind,arc,sign,up,ac,ap,tc,tp⟩=none->ij Try.prog Try.f44 S (cd S n na (dU l loops ⟨kind,arc,sign,up,ac,ap,tc,tp⟩)) (.panic (bf 5)) E (S++G):=by
  intro E G hk
  rw[hk];exact⟨.pan (bf 5) S,rfl,Ends.DL rfl⟩
 refine ACE.o 197 f44 ?_
 refine X.seq (X.g ?_ (by simp[go_sem,Rd.val];rfl))
 refine X.seq (X.g ?_ (by simp[go_sem,aw r0,hsb];rfl))
 refine X.seq (X.g ?_)
 refine X.seq (X.seq (X.g ?_ (by simp[go_sem,bs151_2];rfl)))
 refine X.block ?_
 refine X.loop (fun k E h=> ∃j G,k=2-j/\j<=2/\ae E 0= .pointer (some ⟨n,0,none⟩)/\ae E 3= .pointer (some ⟨S.length,0,none⟩)/\ae E 4=O U l.length/\ae E 5=O U ((if 1<=j then bQ ac else 0)+(if 2<=j then bQ tc else 0):Nat)/\ae E 21= .slice (some ⟨S.length+1,0,none⟩) 2 2/\ae E 22=O U 2/\ae E 23=O U j/\h=S++(.cells [O U kind,O U arc,O U sign,.bool up,O U ac,O U ap,O U tc,O U tp] 79:: .cells [O U ac,O U ap,O U tc,O U tp] 77::G)/\cP G/\(1<=j->dL l ac ap=true)/\(2<=j->dL l tc tp=true)) 2
  ⟨0,[],rfl,by omega,by simp[ae],by simp[ae],by simp[ae],by simp[ae],by simp[ae],by simp[ae],by simp[ae],rfl,rfl,by omega,by omega⟩ ?_
 rintro k E h ⟨j,G,rfl,hj,e0,e3,e4,e5,e21,e22,e23,rfl,hG,ok1,ok2⟩
 have w12:IntKind.i64.wrap 1=1:=by decide
 have w22:IntKind.i64.wrap 2=2:=by decide
 match j,hj with
 | 0,_=>
   simp only[Nat.reduceLeDiff,if_true,if_false,EU,Nat.add_zero]at e5
   have hok:=True.intro
   refine X.seq (X.g ?_ (by simp[go_sem,e22,e23];rfl))
   refine X.seq (X.ct (X.skip ?_))
   refine X.seq (X.block ?_)
   refine X.seq (X.g ?_ (by simp[go_sem,e21,e23];rfl))
   refine X.seq (X.region (Xl.s ?_ (by simp[go_sem,e0];rfl)))
   refine Xl.o (Sc b71 (at_ok _ _ l loops hd.is.app ac ap)) ?_
   cases gat:atB l ac ap
   ·by_cases gc:ac= -1
    ·subst gc
     by_cases gq:ap=0
     ·subst gq
      have hk:dL l (-1) 0=true:=by unfold dL;rw[gat];rfl
      refine Xl.s ?_
      refine Xl.o (Sc b16 (aZ _ _)) ?_
      refine Xl.nil ?_
      refine X.seq (X.g ?_)
      refine X.ct ?_
      refine X.g ?_ (by simp[go_sem,e5,w12];rfl)
      refine X.g ?_ (by simp[go_sem,e23,w12];rfl)
      exact⟨1,by omega,0+1,G++[.cells [O U (-1),O U 0] 77],rfl,by omega,by simp[ae,e0],by simp[ae,e3],by simp[ae,e4],by simp[ae,bQ],by simp[ae,e21],by simp[ae,e22],by simp[ae],by simp,cP.D5 hG rfl,(fun _=>hk),(by omega)⟩
     ·by_cases gq1:ap=1
      ·subst gq1
       have hk:dL l (-1) 1=true:=by unfold dL;rw[gat];rfl
       refine Xl.s ?_
       refine Xl.o (Sc b16 (aZ _ _)) ?_
       refine Xl.nil ?_
       refine X.seq (X.g ?_)
       refine X.ct ?_
       refine X.g ?_ (by simp[go_sem,e5,w12];rfl)
       refine X.g ?_ (by simp[go_sem,e23,w12];rfl)
       exact⟨1,by omega,0+1,G++[.cells [O U (-1),O U 1] 77],rfl,by omega,by simp[ae,e0],by simp[ae,e3],by simp[ae,e4],by simp[ae,bQ],by simp[ae,e21],by simp[ae,e22],by simp[ae],by simp,cP.D5 hG rfl,(fun _=>hk),(by omega)⟩
      ·have hk:dL l (-1) ap=false:=by unfold dL;rw[gat];simp[gq,gq1]
       have b0:(ap==0)=false:=by simpa using gq
       have b1:(ap==1)=false:=by simpa using gq1
       refine Xl.s ?_ (by simp[go_sem,b0,b1];rfl)
       exact Xl.p (Sc b16 (aM _ _)) (fail _ _ (by unfold dU;rw[hk];rfl))
    ·have hk:dL l ac ap=false:=by unfold dL;rw[gat];simp[gc]
     have b0:(ac== -1)=false:=by simpa using gc
     refine Xl.s ?_ (by simp[go_sem,b0];rfl)
     exact Xl.p (Sc b16 (aM _ _)) (fail _ _ (by unfold dU;rw[hk];rfl))
   ·have hk:dL l ac ap=true:=by unfold dL;rw[gat];rfl
    have hC0:0<=ac:=by unfold atB at gat;simp only[EC,decide_eq_true_eq]at gat;exact gat.1.1.1
    have hC1: ¬ac<0:=by omega
    have hil:bQ ac=0:=by unfold bQ;rw[if_neg hC1]
    refine Xl.s ?_
    refine Xl.o (Sc b16 (aZ _ _)) ?_
    refine Xl.nil ?_
    refine X.seq (X.g ?_)
    refine X.cf (X.skip ?_) (by simp[go_sem,hC1])
    refine X.g ?_ (by simp[go_sem,e23,w12];rfl)
    exact⟨1,by omega,0+1,G++[.cells [O U ac,O U ap] 77],rfl,by omega,by simp[ae,e0],by simp[ae,e3],by simp[ae,e4],by simp[ae,e5,hil],by simp[ae,e21],by simp[ae,e22],by simp[ae],by simp,cP.D5 hG rfl,(fun _=>hk),(by omega)⟩
 | 1,_=>
   simp only[Nat.reduceLeDiff,if_true,if_false,EU,Nat.add_zero]at e5
   have hok:=ok1 (by omega)
   have hil2:bQ ac<=1:=by unfold bQ;split<;>omega
   have hwl1:IntKind.i64.wrap ((bQ ac:Int)+1)=(bQ ac:Int)+1:=by rw[EP];omega
   refine X.seq (X.g ?_ (by simp[go_sem,e22,e23];rfl))
   refine X.seq (X.ct (X.skip ?_))
   refine X.seq (X.block ?_)
   refine X.seq (X.g ?_ (by simp[go_sem,e21,e23];rfl))
   refine X.seq (X.region (Xl.s ?_ (by simp[go_sem,e0];rfl)))
   refine Xl.o (Sc b71 (at_ok _ _ l loops hd.is.app tc tp)) ?_
   cases gat:atB l tc tp
   ·by_cases gc:tc= -1
    ·subst gc
     by_cases gq:tp=0
     ·subst gq
      have hk:dL l (-1) 0=true:=by unfold dL;rw[gat];rfl
      refine Xl.s ?_
      refine Xl.o (Sc b16 (aZ _ _)) ?_
      refine Xl.nil ?_
      refine X.seq (X.g ?_)
      refine X.ct ?_
      refine X.g ?_ (by simp[go_sem,e5,hwl1];rfl)
      refine X.g ?_ (by simp[go_sem,e23,w22];rfl)
      exact⟨0,by omega,1+1,G++[.cells [O U (-1),O U 0] 77],rfl,by omega,by simp[ae,e0],by simp[ae,e3],by simp[ae,e4],by simp[ae,bQ],by simp[ae,e21],by simp[ae,e22],by simp[ae],by simp,cP.D5 hG rfl,(fun _=>hok),(fun _=>hk)⟩
     ·by_cases gq1:tp=1
      ·subst gq1
       have hk:dL l (-1) 1=true:=by unfold dL;rw[gat];rfl
       refine Xl.s ?_
       refine Xl.o (Sc b16 (aZ _ _)) ?_
       refine Xl.nil ?_
       refine X.seq (X.g ?_)
       refine X.ct ?_
       refine X.g ?_ (by simp[go_sem,e5,hwl1];rfl)
       refine X.g ?_ (by simp[go_sem,e23,w22];rfl)
       exact⟨0,by omega,1+1,G++[.cells [O U (-1),O U 1] 77],rfl,by omega,by simp[ae,e0],by simp[ae,e3],by simp[ae,e4],by simp[ae,bQ],by simp[ae,e21],by simp[ae,e22],by simp[ae],by simp,cP.D5 hG rfl,(fun _=>hok),(fun _=>hk)⟩
      ·have hk:dL l (-1) tp=false:=by unfold dL;rw[gat];simp[gq,gq1]
       have b0:(tp==0)=false:=by simpa using gq
       have b1:(tp==1)=false:=by simpa using gq1
       refine Xl.s ?_ (by simp[go_sem,b0,b1];rfl)
       exact Xl.p (Sc b16 (aM _ _)) (fail _ _ (by unfold dU;rw[hok,hk];rfl))
    ·have hk:dL l tc tp=false:=by unfold dL;rw[gat];simp[gc]
     have b0:(tc== -1)=false:=by simpa using gc
     refine Xl.s ?_ (by simp[go_sem,b0];rfl)
     exact Xl.p (Sc b16 (aM _ _)) (fail _ _ (by unfold dU;rw[hok,hk];rfl))
   ·have hk:dL l tc tp=true:=by unfold dL;rw[gat];rfl
    have hC0:0<=tc:=by unfold atB at gat;simp only[EC,decide_eq_true_eq]at gat;exact gat.1.1.1
    have hC1: ¬tc<0:=by omega
    have hil:bQ tc=0:=by unfold bQ;rw[if_neg hC1]
    refine Xl.s ?_
    refine Xl.o (Sc b16 (aZ _ _)) ?_
    refine Xl.nil ?_
    refine X.seq (X.g ?_)
    refine X.cf (X.skip ?_) (by simp[go_sem,hC1])
    refine X.g ?_ (by simp[go_sem,e23,w22];rfl)
    exact⟨0,by omega,1+1,G++[.cells [O U tc,O U tp] 77],rfl,by omega,by simp[ae,e0],by simp[ae,e3],by simp[ae,e4],by simp[ae,e5,hil],by simp[ae,e21],by simp[ae,e22],by simp[ae],by simp,cP.D5 hG rfl,(fun _=>hok),(fun _=>hk)⟩
 | 2,_=>
   simp only[Nat.reduceLeDiff,if_true]at e5
   have hok1:=ok1 (by omega)
   have hok2:=ok2 (by omega)
   have hil1:bQ ac<=1:=by unfold bQ;split<;>omega
   have hil2:bQ tc<=1:=by unfold bQ;split<;>omega
   refine X.seq (X.g ?_ (by simp[go_sem,e22,e23];rfl))
   refine X.seq (X.cf (X.exit ?_))
   simp only[AX.then,AX.inBlock,if_true]
   cases g1:arc==0
   ·refine X.seq (X.region (Xl.s ?_ (by simp[go_sem,e3,g1];rfl)))
    exact Xl.p (Sc b16 (aM _ _)) (fail _ _ (by unfold dU;simp only[hok1,hok2,g1];rfl))
   cases g2:decide ((l.length:Int)<=198)
   ·refine X.seq (X.region (Xl.s ?_ (by simp[go_sem,e3,e4,g1,g2];rfl)))
    exact Xl.p (Sc b16 (aM _ _)) (fail _ _ (by unfold dU;simp only[hok1,hok2,g1,g2];rfl))
   cases g3:decide (-1<=sign)
   ·refine X.seq (X.region (Xl.s ?_ (by simp[go_sem,e3,e4,g1,g2,g3];rfl)))
    exact Xl.p (Sc b16 (aM _ _)) (fail _ _ (by unfold dU;simp only[hok1,hok2,g1,g2,g3];rfl))
   cases g4:decide (sign<=1)
   ·refine X.seq (X.region (Xl.s ?_ (by simp[go_sem,e3,e4,g1,g2,g3,g4];rfl)))
    exact Xl.p (Sc b16 (aM _ _)) (fail _ _ (by unfold dU;simp only[hok1,hok2,g1,g2,g3,g4];rfl))
   have hgs:((arc==0)&&decide ((l.length:Int)<=198)&&decide (-1<=sign)&&decide (sign<=1))=true:=by simp only[g1,g2,g3,g4];rfl
   refine X.seq (X.region (Xl.s ?_ (by simp[go_sem,e3,e4,g1,g2,g3,g4];rfl)))
   refine Xl.o (Sc b16 (aZ _ _)) ?_
   refine Xl.nil ?_
   refine X.seq (X.g ?_)
   have hGG:cP (G++[AO.cells [O U 0,O U 0,O U 0,.bool false] 159,AO.cells [O U 0,O U 0,O U 0,.bool false] 159]):=hG.app rfl
   have mT0:at_ (S++(AO.cells [O U kind,O U arc,O U sign,.bool up,O U ac,O U ap,O U tc,O U tp] 79::AO.cells [O U ac,O U ap,O U tc,O U tp] 77::
    (G++[AO.cells [O U 0,O U 0,O U 0,.bool false] 159,AO.cells [O U 0,O U 0,O U 0,.bool false] 159]))) S.length= .cells [O U kind,O U arc,O U sign,.bool up,O U ac,O U ap,O U tc,O U tp] 79:=bF _ _ _
   have aT0:at_ (S++(AO.cells [O U kind,O U arc,O U sign,.bool up,O U ac,O U ap,O U tc,O U tp] 79::AO.cells [O U ac,O U ap,O U tc,O U tp] 77::
    (G++[AO.cells [O U 0,O U 0,O U 0,.bool false] 159,AO.cells [O U 0,O U 0,O U 0,.bool false] 159]))) (S.length+(G.length+2))= .cells [O U 0,O U 0,O U 0,.bool false] 159:=by
    rw[aq,lF,lF,bF]
   have bT0:at_ (S++(AO.cells [O U kind,O U arc,O U sign,.bool up,O U ac,O U ap,O U tc,O U tp] 79::AO.cells [O U ac,O U ap,O U tc,O U tp] 77::
    (G++[AO.cells [O U 0,O U 0,O U 0,.bool false] 159,AO.cells [O U 0,O U 0,O U 0,.bool false] 159]))) (S.length+(G.length+3))= .cells [O U 0,O U 0,O U 0,.bool false] 159:=by
    rw[aq,lF,lF,aq];rfl
   have hOT0:=Ow.junk S n na (G:= .cells [O U kind,O U arc,O U sign,.bool up,O U ac,O U ap,O U tc,O U tp] 79::AO.cells [O U ac,O U ap,O U tc,O U tp] 77::
    (G++[AO.cells [O U 0,O U 0,O U 0,.bool false] 159,AO.cells [O U 0,O U 0,O U 0,.bool false] 159])) (cP.app (G:=[AO.cells [O U kind,O U arc,O U sign,.bool up,O U ac,O U ap,O U tc,O U tp] 79,AO.cells [O U ac,O U ap,O U tc,O U tp] 77]) rfl hGG)
   have hDT0:=hd.more (AO.cells [O U kind,O U arc,O U sign,.bool up,O U ac,O U ap,O U tc,O U tp] 79::AO.cells [O U ac,O U ap,O U tc,O U tp] 77::
    (G++[AO.cells [O U 0,O U 0,O U 0,.bool false] 159,AO.cells [O U 0,O U 0,O U 0,.bool false] 159]))
   have hTl0:(S++(AO.cells [O U kind,O U arc,O U sign,.bool up,O U ac,O U ap,O U tc,O U tp] 79::AO.cells [O U ac,O U ap,O U tc,O U tp] 77::
    (G++[AO.cells [O U 0,O U 0,O U 0,.bool false] 159,AO.cells [O U 0,O U 0,O U 0,.bool false] 159]))).length=S.length+(G.length+4):=by simp
   have fail2: ∀(E:Env) (G':AH),dU l loops ⟨kind,arc,sign,up,ac,ap,tc,tp⟩=none->ij Try.prog Try.f44 S (cd S n na (dU l loops ⟨kind,arc,sign,up,ac,ap,tc,tp⟩)) (.panic (bf 5)) E ((S++(AO.cells [O U kind,O U arc,O U sign,.bool up,O U ac,O U ap,O U tc,O U tp] 79::AO.cells [O U ac,O U ap,O U tc,O U tp] 77::
    (G++[AO.cells [O U 0,O U 0,O U 0,.bool false] 159,AO.cells [O U 0,O U 0,O U 0,.bool false] 159])))++G'):=fun E G' h=>by rw[EH];exact fail E _ h
   have hna:na<S.length:=by
    obtain⟨_,⟨h,_⟩|⟨_,_,h,_⟩⟩:=hd
    ·omega
    ·exact h
   generalize S++(AO.cells [O U kind,O U arc,O U sign,.bool up,O U ac,O U ap,O U tc,O U tp] 79::AO.cells [O U ac,O U ap,O U tc,O U tp] 77::
    (G++[AO.cells [O U 0,O U 0,O U 0,.bool false] 159,AO.cells [O U 0,O U 0,O U 0,.bool false] 159]))=T0 at*
   generalize hia:S.length+(G.length+2)=ia at*
   generalize hib:S.length+(G.length+3)=ib at*
   have fail3: ∀(E:Env),dU l loops ⟨kind,arc,sign,up,ac,ap,tc,tp⟩=none->ij Try.prog Try.f44 S (cd S n na (dU l loops ⟨kind,arc,sign,up,ac,ap,tc,tp⟩)) (.panic (bf 5)) E T0:=fun E h=>by have:=fail2 E [] h;rwa [Ft]at this
   have m0: ∀i,aj T0 S.length i=([O U kind,O U arc,O U sign,.bool up,O U ac,O U ap,O U tc,O U tp]:List Value)[i]? :=fun i=>by rw[ah,mT0]
   have m4:ak T0 S.length 4 2=some [O U ac,O U ap]:=by unfold ak aP;rw[mT0];rfl
   have m6:ak T0 S.length 6 2=some [O U tc,O U tp]:=by unfold ak aP;rw[mT0];rfl
   have d1:aj T0 n 1=some (O U loops):=by
    obtain⟨s',b',C',_,h,_⟩:=hDT0.sl
    rw[ah,h];rfl
   cases gs:sign==0
   ·have hs0: ¬sign=0:=by simpa using gs
    have gs':(sign !=0)=true:=by simpa using hs0
    refine X.seq (X.seq (X.g ?_ (by simp[go_sem,e3,m0,gs'];rfl)))
    refine X.ct ?_
    obtain⟨kk,hkk⟩: ∃kk,bQ ac+bQ tc=kk:=⟨_,rfl⟩
    rw[hkk]at e5
    have hF:dU l loops ⟨kind,arc,sign,up,ac,ap,tc,tp⟩=if((ac==tc&&ap==tp)&&(kk==0||(decide (0<loops)&&sign==1)))=true then
     some ((bB l loops ac ap (2*l.length)).1++[ng (if sign<0 then(bB l loops ac ap (2*l.length)).2.2.2 else(bB l loops ac ap (2*l.length)).2.2.1) (if sign<0 then(bB l loops ac ap (2*l.length)).2.2.1 else(bB l loops ac ap (2*l.length)).2.2.2) up]++[iE (if sign<0 then(bB l loops ac ap (2*l.length)).2.2.2 else(bB l loops ac ap (2*l.length)).2.2.1) (if sign<0 then(bB l loops ac ap (2*l.length)).2.2.1 else(bB l loops ac ap (2*l.length)).2.2.2) up],(bB l loops ac ap (2*l.length)).2.1)else none:=by
     unfold dU
     simp only[hok1,hok2,hgs,if_true,if_neg hs0,hkk]
    cases q1:(ac==tc&&ap==tp)
    ·refine X.seq (X.region (Xl.s ?_ (by simp[go_sem,e3,m4,m6,q1];rfl)))
     exact Xl.p (Sc b16 (aM _ _)) (fail3 _ (by rw[hF,q1];rfl))
    have hk0:((kk:Int)==0)=(kk==0):=by rw[FU];simp
    have hcond:(kk==0||(decide (0<loops)&&sign==1))=true\/(kk==0||(decide (0<loops)&&sign==1))=false:=by cases (kk==0||(decide (0<loops)&&sign==1))<;>simp
    rcases hcond with hcd|hcd
    rotate_left
    ·have hF0:dU l loops ⟨kind,arc,sign,up,ac,ap,tc,tp⟩=none:=by rw[hF,q1,hcd];rfl
     rw[Ga]at hcd
     obtain⟨z1,z2⟩:=hcd
     rw[z1]at hk0
     cases z3:decide (0<loops)
     ·refine X.seq (X.region (Xl.s ?_ (by simp[go_sem,e0,e3,e5,m0,m4,m6,q1,hk0,d1,z3];rfl)))
      exact Xl.p (Sc b16 (aM _ _)) (fail3 _ hF0)
     ·rw[z3,F0]at z2
      refine X.seq (X.region (Xl.s ?_ (by simp[go_sem,e0,e3,e5,m0,m4,m6,q1,hk0,d1,z3,z2];rfl)))
      exact Xl.p (Sc b16 (aM _ _)) (fail3 _ hF0)
    rw[q1,hcd]at hF
    simp only[Ha,if_true]at hF
    rw[hF]
    clear fail fail2 fail3
    have hEnd:qy l loops ac ap:=by
     refine hs.endOk hok1 fun h=> ?_
     have: ¬kk=0:=by omega
     simp only[E8,EC,decide_eq_true_eq,beq_iff_eq]at hcd
     rcases hcd with h|h
     ·exact absurd h this
     ·exact h.1
    have hpass: ∀(Q:AX->Env->AH->Prop),True:=fun _=>trivial
    have hcs:(((kk:Int)==0)=true/\True/\True)\/(((kk:Int)==0)=false/\decide (0<loops)=true/\(sign==1)=true):=by
     rw[hk0]
     simp only[E8,EC]at hcd
     cases z:kk==0
     ·rw[z]at hcd
      rcases hcd with h|h
      ·cases h
      ·exact .inr ⟨rfl,h⟩
     ·exact .inl ⟨rfl,trivial,trivial⟩
    obtain⟨T1,hacI,hTl1,hDT1,hOw1⟩:=DC T0 n na l loops hDT0 (by omega) hlo ac ap hEnd (2*l.length) (by omega)
    have hL1:=rW l loops ac ap (2*l.length)
    generalize bB l loops ac ap (2*l.length)=rr at hacI hDT1 hL1⊢
    obtain⟨L1,LP,⟨xb,xm,xa,xl⟩,⟨yb,ym,ya,yl⟩⟩:=rr
    simp only at hacI hDT1 hL1
    have zA:at_ T1 ia= .cells [O U 0,O U 0,O U 0,.bool false] 159:=by rw[hOw1.keep ia (by omega) (by omega) (by omega)];exact aT0
    have zB:at_ T1 ib= .cells [O U 0,O U 0,O U 0,.bool false] 159:=by rw[hOw1.keep ib (by omega) (by omega) (by omega)];exact bT0
    have zM:at_ T1 S.length= .cells [O U kind,O U arc,O U sign,.bool up,O U ac,O U ap,O U tc,O U tp] 79:=by rw[hOw1.keep S.length (by omega) (by omega) (by omega)];exact mT0
    have zB': ∀o,at_ (T1.set ia o) ib= .cells [O U 0,O U 0,O U 0,.bool false] 159:=fun o=>by rw[af (by omega)];exact zB
    have hlen2: ∀o o',((T1.set ia o).set ib o').length=T0.length:=fun o o'=>by simp[hTl1]
    have hOT1:=hOT0.trans hOw1 hn
    rcases hcs with ⟨y1,y2,y3⟩|⟨y1,y2,y3⟩
    all_goals
     refine X.seq (X.region (Xl.s ?_ (by simp[go_sem,e0,e3,e5,m0,m4,m6,q1,y1,d1,y2,y3];rfl)))
     refine Xl.o (Sc b16 (aZ _ _)) ?_
     refine Xl.nil ?_
     refine X.seq (X.region (Xl.s ?_ (by simp[go_sem,e0,e3,e4,m4,hw2];rfl)))
     refine Xl.o (Sc b72 hacI) ?_
     refine Xl.s (Xl.nil ?_) (by simp[go_sem,dP,zA,zB'];rfl)
     have mT2:aj ((T1.set ia (.cells [O U xb,O U xm,O U xa,.bool xl] 159)).set ib (.cells [O U yb,O U ym,O U ya,.bool yl] 159)) S.length 2=some (O U sign):=by
      rw[ah,af (by omega),af (by omega),zM];rfl
     refine X.seq (X.g ?_ (by simp[go_sem,e3,mT2];rfl))
     clear mT2
     have aT2:at_ ((T1.set ia (.cells [O U xb,O U xm,O U xa,.bool xl] 159)).set ib (.cells [O U yb,O U ym,O U ya,.bool yl] 159)) ia= .cells (bj ⟨xb,xm,xa,xl⟩) 159:=by
      rw[af (by omega),au (by omega)];rfl
     have bT2:at_ ((T1.set ia (.cells [O U xb,O U xm,O U xa,.bool xl] 159)).set ib (.cells [O U yb,O U ym,O U ya,.bool yl] 159)) ib= .cells (bj ⟨yb,ym,ya,yl⟩) 159:=by
      rw[au (by rw[EA];omega)];rfl
     have mT2:at_ ((T1.set ia (.cells [O U xb,O U xm,O U xa,.bool xl] 159)).set ib (.cells [O U yb,O U ym,O U ya,.bool yl] 159)) S.length= .cells [O U kind,O U arc,O U sign,.bool up,O U ac,O U ap,O U tc,O U tp] 79:=by
      rw[af (by omega),af (by omega)];exact zM
     have hDT2:DrO ((T1.set ia (.cells [O U xb,O U xm,O U xa,.bool xl] 159)).set ib (.cells [O U yb,O U ym,O U ya,.bool yl] 159)) n na L1 LP:=hDT1.moved (by simp) (by rw[af (by omega),af (by omega)]) (by rw[af (by omega),af (by omega)])
     have hOT2:Ow S n na ((T1.set ia (.cells [O U xb,O U xm,O U xa,.bool xl] 159)).set ib (.cells [O U yb,O U ym,O U ya,.bool yl] 159)) na:=(hOT1.setJ (by omega) rfl).setJ (by omega) rfl
     have hTlT:=hlen2 (.cells [O U xb,O U xm,O U xa,.bool xl] 159) (.cells [O U yb,O U ym,O U ya,.bool yl] 159)
     generalize (T1.set ia (.cells [O U xb,O U xm,O U xa,.bool xl] 159)).set ib (.cells [O U yb,O U ym,O U ya,.bool yl] 159)=T2 at aT2 bT2 mT2 hDT2 hOT2 hTlT⊢
     by_cases hsg:sign<0
     ·refine X.ct ?_ (by simp[go_sem,hsg])
      have aN2:ak T2 ia 0 4=some [O U xb,O U xm,O U xa,.bool xl]:=ao aT2 rfl
      have bN2:ak T2 ib 0 4=some [O U yb,O U ym,O U ya,.bool yl]:=ao bT2 rfl
      have bT2': ∀o,at_ (T2.set ia o) ib= .cells (bj ⟨yb,ym,ya,yl⟩) 159:=fun o=>by rw[af (by omega)];exact bT2
      refine X.g ?_ (by simp[go_sem,aN2,bN2,aT2,bT2',bj];rfl)
      simp only[if_pos hsg]
      have aT:at_ ((T2.set ia (.cells [O U yb,O U ym,O U ya,.bool yl] 159)).set ib (.cells [O U xb,O U xm,O U xa,.bool xl] 159)) ia= .cells (bj ⟨yb,ym,ya,yl⟩) 159:=by
       rw[af (by omega),au (by omega)];rfl
      have bT:at_ ((T2.set ia (.cells [O U yb,O U ym,O U ya,.bool yl] 159)).set ib (.cells [O U xb,O U xm,O U xa,.bool xl] 159)) ib= .cells (bj ⟨xb,xm,xa,xl⟩) 159:=by
       rw[au (by rw[EA];omega)];rfl
      have mT:at_ ((T2.set ia (.cells [O U yb,O U ym,O U ya,.bool yl] 159)).set ib (.cells [O U xb,O U xm,O U xa,.bool xl] 159)) S.length= .cells [O U kind,O U arc,O U sign,.bool up,O U ac,O U ap,O U tc,O U tp] 79:=by
       rw[af (by omega),af (by omega)];exact mT2
      have hDT:DrO ((T2.set ia (.cells [O U yb,O U ym,O U ya,.bool yl] 159)).set ib (.cells [O U xb,O U xm,O U xa,.bool xl] 159)) n na L1 LP:=hDT2.moved (by simp) (by rw[af (by omega),af (by omega)]) (by rw[af (by omega),af (by omega)])
      have hOT:Ow S n na ((T2.set ia (.cells [O U yb,O U ym,O U ya,.bool yl] 159)).set ib (.cells [O U xb,O U xm,O U xa,.bool xl] 159)) na:=(hOT2.setJ (by omega) rfl).setJ (by omega) rfl
      have hTlT3:((T2.set ia (.cells [O U yb,O U ym,O U ya,.bool yl] 159)).set ib (.cells [O U xb,O U xm,O U xa,.bool xl] 159)).length=T2.length:=by simp
      generalize (T2.set ia (.cells [O U yb,O U ym,O U ya,.bool yl] 159)).set ib (.cells [O U xb,O U xm,O U xa,.bool xl] 159)=T3 at aT bT mT hDT hOT hTlT3⊢
      have hiaT:ia<T3.length:=by omega
      have hibT:ib<T3.length:=by omega
      have aR: ∀i,aj T3 ia i=(bj (aI.mk yb ym ya yl))[i]? :=fun i=>by rw[ah,aT]
      have bR: ∀i,aj T3 ib i=(bj (aI.mk xb xm xa xl))[i]? :=fun i=>by rw[ah,bT]
      have mR:aj T3 S.length 3=some (.bool up):=by rw[ah,mT];rfl
      have aN:ak T3 ia 0 4=some (bj (aI.mk yb ym ya yl)):=ao aT rfl
      have bN:ak T3 ib 0 4=some (bj (aI.mk xb xm xa xl)):=ao bT rfl
      obtain⟨r1,hr1,hac1⟩:=gQ T3 n na L1 LP hDT (by omega) ((aI.mk xb xm xa xl)).m ((aI.mk yb ym ya yl)).m ((aI.mk xb xm xa xl)).a ((aI.mk yb ym ya yl)).b (aI.mk yb ym ya yl) (aI.mk xb xm xa xl) 3 (by omega) up
      obtain⟨S1,na1,hv1,hD1,hkeep1,hlen1,hfin⟩:=kF (fn:=Try.f44) (y:=iE (aI.mk yb ym ya yl) (aI.mk xb xm xa xl) up) rfl hn hOT hr1
      have aT1:at_ S1 ia= .cells (bj (aI.mk yb ym ya yl)) 159:=by rw[hkeep1 ia hiaT (by omega) (by omega)];exact aT
      have bT1:at_ S1 ib= .cells (bj (aI.mk xb xm xa xl)) 159:=by rw[hkeep1 ib hibT (by omega) (by omega)];exact bT
      have mT1:at_ S1 S.length= .cells [O U kind,O U arc,O U sign,.bool up,O U ac,O U ap,O U tc,O U tp] 79:=by rw[hkeep1 S.length (by omega) (by omega) (by omega)];exact mT
      have aR1: ∀i,aj S1 ia i=(bj (aI.mk yb ym ya yl))[i]? :=fun i=>by rw[ah,aT1]
      have bR1: ∀i,aj S1 ib i=(bj (aI.mk xb xm xa xl))[i]? :=fun i=>by rw[ah,bT1]
      have mR1:aj S1 S.length 3=some (.bool up):=by rw[ah,mT1];rfl
      have aN1:ak S1 ia 0 4=some (bj (aI.mk yb ym ya yl)):=ao aT1 rfl
      have bN1:ak S1 ib 0 4=some (bj (aI.mk xb xm xa xl)):=ao bT1 rfl
      obtain⟨r2,hr2,hac2⟩:=gQ S1 n na1 _ LP hD1 (by simp only[Ez,List.length_cons,List.length_nil];omega) ((aI.mk xb xm xa xl)).b ((aI.mk yb ym ya yl)).m ((aI.mk xb xm xa xl)).m ((aI.mk yb ym ya yl)).a (aI.mk yb ym ya yl) (aI.mk xb xm xa xl) 1 (by omega) up
      obtain⟨S2,hv2,hlen2,hends⟩:=hfin r2 hr2
      subst hv1
      subst hv2
      refine X.seq (X.region (Xl.s ?_ (by simp[go_sem,e0,e3,aR,bR,mR,aN,bN,bj];rfl)))
      refine Xl.o (Sc b76 hac1) ?_
      refine Xl.nil ?_
      refine X.region (Xl.s ?_ (by simp[go_sem,e0,e3,aR1,bR1,mR1,aN1,bN1,bj];rfl))
      refine Xl.o (Sc b76 hac2) ?_
      refine Xl.nil ?_
      exact hends _
     ·refine X.cf (X.skip ?_) (by simp[go_sem,hsg])
      simp only[if_neg hsg]
      have aT:=aT2
      have bT:=bT2
      have mT:=mT2
      have hDT:=hDT2
      have hOT:=hOT2
      have hiaT:ia<T2.length:=by omega
      have hibT:ib<T2.length:=by omega
      have aR: ∀i,aj T2 ia i=(bj (aI.mk xb xm xa xl))[i]? :=fun i=>by rw[ah,aT]
      have bR: ∀i,aj T2 ib i=(bj (aI.mk yb ym ya yl))[i]? :=fun i=>by rw[ah,bT]
      have mR:aj T2 S.length 3=some (.bool up):=by rw[ah,mT];rfl
      have aN:ak T2 ia 0 4=some (bj (aI.mk xb xm xa xl)):=ao aT rfl
      have bN:ak T2 ib 0 4=some (bj (aI.mk yb ym ya yl)):=ao bT rfl
      obtain⟨r1,hr1,hac1⟩:=gQ T2 n na L1 LP hDT (by omega) ((aI.mk yb ym ya yl)).m ((aI.mk xb xm xa xl)).m ((aI.mk yb ym ya yl)).a ((aI.mk xb xm xa xl)).b (aI.mk xb xm xa xl) (aI.mk yb ym ya yl) 3 (by omega) up
      obtain⟨S1,na1,hv1,hD1,hkeep1,hlen1,hfin⟩:=kF (fn:=Try.f44) (y:=iE (aI.mk xb xm xa xl) (aI.mk yb ym ya yl) up) rfl hn hOT hr1
      have aT1:at_ S1 ia= .cells (bj (aI.mk xb xm xa xl)) 159:=by rw[hkeep1 ia hiaT (by omega) (by omega)];exact aT
      have bT1:at_ S1 ib= .cells (bj (aI.mk yb ym ya yl)) 159:=by rw[hkeep1 ib hibT (by omega) (by omega)];exact bT
      have mT1:at_ S1 S.length= .cells [O U kind,O U arc,O U sign,.bool up,O U ac,O U ap,O U tc,O U tp] 79:=by rw[hkeep1 S.length (by omega) (by omega) (by omega)];exact mT
      have aR1: ∀i,aj S1 ia i=(bj (aI.mk xb xm xa xl))[i]? :=fun i=>by rw[ah,aT1]
      have bR1: ∀i,aj S1 ib i=(bj (aI.mk yb ym ya yl))[i]? :=fun i=>by rw[ah,bT1]
      have mR1:aj S1 S.length 3=some (.bool up):=by rw[ah,mT1];rfl
      have aN1:ak S1 ia 0 4=some (bj (aI.mk xb xm xa xl)):=ao aT1 rfl
      have bN1:ak S1 ib 0 4=some (bj (aI.mk yb ym ya yl)):=ao bT1 rfl
      obtain⟨r2,hr2,hac2⟩:=gQ S1 n na1 _ LP hD1 (by simp only[Ez,List.length_cons,List.length_nil];omega) ((aI.mk yb ym ya yl)).b ((aI.mk xb xm xa xl)).m ((aI.mk yb ym ya yl)).m ((aI.mk xb xm xa xl)).a (aI.mk xb xm xa xl) (aI.mk yb ym ya yl) 1 (by omega) up
      obtain⟨S2,hv2,hlen2,hends⟩:=hfin r2 hr2
      subst hv1
      subst hv2
      refine X.seq (X.region (Xl.s ?_ (by simp[go_sem,e0,e3,aR,bR,mR,aN,bN,bj];rfl)))
      refine Xl.o (Sc b76 hac1) ?_
      refine Xl.nil ?_
      refine X.region (Xl.s ?_ (by simp[go_sem,e0,e3,aR1,bR1,mR1,aN1,bN1,bj];rfl))
      refine Xl.o (Sc b76 hac2) ?_
      refine Xl.nil ?_
      exact hends _
   ·have hs0:sign=0:=by simpa using gs
    have gs':(sign !=0)=false:=by simpa using hs0
    refine X.seq (X.seq (X.g ?_ (by simp[go_sem,e3,m0,gs'];rfl)))
    refine X.cf ?_
    obtain⟨kk,hkk⟩: ∃kk,bQ ac+bQ tc=kk:=⟨_,rfl⟩
    rw[hkk]at e5
    have hF:dU l loops ⟨kind,arc,sign,up,ac,ap,tc,tp⟩=if((kk:Nat):Int)<=loops then if kk≠0\/mN l (ac.toNat,ap.toNat) (tc.toNat,tp.toNat)=true then
     some ((aK (aK l loops ac ap (2*l.length)).1 (aK l loops ac ap (2*l.length)).2.1 tc tp (2*l.length+2)).1++[ng (aK l loops ac ap (2*l.length)).2.2 (aK (aK l loops ac ap (2*l.length)).1 (aK l loops ac ap (2*l.length)).2.1 tc tp (2*l.length+2)).2.2 up]++[iE (aK l loops ac ap (2*l.length)).2.2 (aK (aK l loops ac ap (2*l.length)).1 (aK l loops ac ap (2*l.length)).2.1 tc tp (2*l.length+2)).2.2 up],(aK (aK l loops ac ap (2*l.length)).1 (aK l loops ac ap (2*l.length)).2.1 tc tp (2*l.length+2)).2.1)else none else none:=by
     unfold dU
     simp only[hok1,hok2,hgs,if_true,if_pos hs0,hkk]
    by_cases hle:((kk:Nat):Int)<=loops
    rotate_left
    ·refine X.seq (X.region (Xl.s ?_ (by simp[go_sem,e0,e5,d1,hle];rfl)))
     exact Xl.p (Sc b16 (aM _ _)) (fail3 _ (by rw[hF,if_neg hle]))
    rw[if_pos hle]at hF
    refine X.seq (X.region (Xl.s ?_ (by simp[go_sem,e0,e5,d1,hle];rfl)))
    refine Xl.o (Sc b16 (aZ _ _)) ?_
    refine Xl.nil ?_
    by_cases hk0:kk=0
    ·have hkb:((kk:Int)==0)=true:=by rw[hk0];rfl
     refine X.seq (X.seq (X.g ?_ (by simp[go_sem,e5,hkb];rfl)))
     refine X.ct ?_ (by simp[go_sem,hkb])
     obtain⟨u1,u2,hp0⟩:0<=ac/\0<=ap/\bt l (ac.toNat,ap.toNat):=by
      rcases jC hok1 with ⟨_,h⟩|⟨h1,h2,h3,_⟩
      ·omega
      ·exact⟨h1,h2,h3⟩
     obtain⟨u3,u4,hp1⟩:0<=tc/\0<=tp/\bt l (tc.toNat,tp.toNat):=by
      rcases jC hok2 with ⟨_,h⟩|⟨h1,h2,h3,_⟩
      ·omega
      ·exact⟨h1,h2,h3⟩
     have v1:((ac.toNat:Nat):Int)=ac:=by omega
     have v2:((ap.toNat:Nat):Int)=ap:=by omega
     have v3:((tc.toNat:Nat):Int)=tc:=by omega
     have v4:((tp.toNat:Nat):Int)=tp:=by omega
     have arc0: ∀H,ig H (.pointer (some ⟨n,0,none⟩)) l loops->AC Try.prog 73 [.pointer (some ⟨n,0,none⟩),.agg #[O U ac,O U ap]] H (.val (O U (ay l (ac.toNat,ap.toNat))) H):=fun H hD=>by
      obtain⟨x,hx,_⟩:=ax.mem hp0
      have:=j8 H _ l loops hD ac.toNat ap.toNat x hx hp0.2
      rw[v1,v2]at this
      have e:ay l (ac.toNat,ap.toNat)=x.arc ap.toNat:=by simp only[ay,hx]
      rw[e];exact this
     have arc1: ∀H,ig H (.pointer (some ⟨n,0,none⟩)) l loops->AC Try.prog 73 [.pointer (some ⟨n,0,none⟩),.agg #[O U tc,O U tp]] H (.val (O U (ay l (tc.toNat,tp.toNat))) H):=fun H hD=>by
      obtain⟨x,hx,_⟩:=ax.mem hp1
      have:=j8 H _ l loops hD tc.toNat tp.toNat x hx hp1.2
      rw[v3,v4]at this
      have e:ay l (tc.toNat,tp.toNat)=x.arc tp.toNat:=by simp only[ay,hx]
      rw[e];exact this
     have hpc:=vJ T0 _ l loops hDT0.is (by omega)
     have hcl:IsCl (T0++[.map (cx (bz l (2*l.length))),.cells [.map (some T0.length)] 136]) (.pointer (some ⟨T0.length+1,0,none⟩)) (bz l (2*l.length)):=⟨T0.length+1,0,T0.length,rfl,by rw[bU];rfl,bF _ _ _⟩
     obtain⟨f0,hf0⟩:=ef (dd l (2*l.length)) ac
     obtain⟨f1,hf1⟩:=ef (dd l (2*l.length)) tc
     have hJ:mN l (ac.toNat,ap.toNat) (tc.toNat,tp.toNat)=((ay l (ac.toNat,ap.toNat)!=ay l (tc.toNat,tp.toNat))&&(fj (bz l (2*l.length)) ac !=fj (bz l (2*l.length)) tc||
      (fh l (ac.toNat,ap.toNat) (perOf l (ac.toNat,ap.toNat))).any fun x=>decide ((tc.toNat,tp.toNat)=x))):=by
      unfold mN;rw[v1,v3]
     have find0:=jW _ _ _ hcl f0 ac _ hf0
     have find1:=jW _ _ _ hcl f1 tc _ hf1
     have hO5:Ow S n na (T0++[.map (cx (bz l (2*l.length))),.cells [.map (some T0.length)] 136]) na:=by
      refine hOT0.trans (Ow.app T0 n na fun m=> ?_) hn
      match m with
      | 0=>exact cQ (vQ _) _
      | 1=>
        refine bC.cellsOf fun v hv=> ?_
        rw[FS]at hv;subst hv;exact Bel.mp (by simp)
      |m+2=>exact cQ rfl _
     have m45:=aD (G:=[.map (cx (bz l (2*l.length))),.cells [.map (some T0.length)] 136]) m4
     have m65:=aD (G:=[.map (cx (bz l (2*l.length))),.cells [.map (some T0.length)] 136]) m6
     have m05: ∀i v,([O U kind,O U arc,O U sign,.bool up,O U ac,O U ap,O U tc,O U tp]:List Value)[i]? =some v->aj (T0++[.map (cx (bz l (2*l.length))),.cells [.map (some T0.length)] 136]) S.length i=some v:=fun i v h=>aw ((m0 i).trans h)
     have m054:=m05 4 _ rfl
     have m056:=m05 6 _ rfl
     have mS5:at_ (T0++[.map (cx (bz l (2*l.length))),.cells [.map (some T0.length)] 136]) S.length= .cells [O U kind,O U arc,O U sign,.bool up,O U ac,O U ap,O U tc,O U tp] 79:=by rw[ag (by omega)];exact mT0
     have aS5:at_ (T0++[.map (cx (bz l (2*l.length))),.cells [.map (some T0.length)] 136]) ia= .cells [O U 0,O U 0,O U 0,.bool false] 159:=by rw[ag (by omega)];exact aT0
     have bS5:at_ (T0++[.map (cx (bz l (2*l.length))),.cells [.map (some T0.length)] 136]) ib= .cells [O U 0,O U 0,O U 0,.bool false] 159:=by rw[ag (by omega)];exact bT0
     have hDS5:=hDT0.more [.map (cx (bz l (2*l.length))),.cells [.map (some T0.length)] 136]
     have hTl5:(T0++[AO.map (cx (bz l (2*l.length))),.cells [.map (some T0.length)] 136]).length=T0.length+2:=by simp
     have fail5: ∀(E:Env) (G':AH),dU l loops ⟨kind,arc,sign,up,ac,ap,tc,tp⟩=none->ij Try.prog Try.f44 S (cd S n na (dU l loops ⟨kind,arc,sign,up,ac,ap,tc,tp⟩)) (.panic (bf 5)) E ((T0++[AO.map (cx (bz l (2*l.length))),.cells [.map (some T0.length)] 136])++G'):=fun E G' h=>by
      rw[EH];exact fail2 E _ h
     refine X.seq (X.region (Xl.s ?_ (by simp[go_sem,e0];rfl)))
     refine Xl.o (Sc b65 hpc) ?_
     refine Xl.s (Xl.nil ?_)
     clear fail fail2 fail3 hpc m4 m6 m0 mT0 aT0 bT0 hDT0 hOT0
     generalize T0++[AO.map (cx (bz l (2*l.length))),.cells [.map (some T0.length)] 136]=T5 at*
     have fail50: ∀(E:Env),dU l loops ⟨kind,arc,sign,up,ac,ap,tc,tp⟩=none->ij Try.prog Try.f44 S (cd S n na (dU l loops ⟨kind,arc,sign,up,ac,ap,tc,tp⟩)) (.panic (bf 5)) E T5:=fun E h=>by
      have:=fail5 E [] h;rwa [Ft]at this
     cases ga:ay l (ac.toNat,ap.toNat)!=ay l (tc.toNat,tp.toNat)
     ·rw[ga,G7]at hJ
      rw[if_neg (by rw[hJ];simp[hk0])]at hF
      refine X.drawnBy (fun i=>i==3||i==7||i==14||i==19||i==25||i==28||i==31) follows (by decide+kernel) (Xd.s ?_ (by simp[go_sem,e0,e3,m45,du];rfl))
      refine Xd.t (Sc b73 (arc0 _ hDS5.is)) ?_
      refine Xd.s ?_ (by simp[go_sem,e0,e3,m65,du];rfl)
      refine Xd.t (Sc b73 (arc1 _ hDS5.is)) ?_
      refine Xd.s ?_ (by simp[go_sem,ga,du];rfl)
      exact Xd.pan (by simp[go_sem]) (Sc b16 (aM _ _)) rfl (fail50 _ hF)
     rw[ga,F0]at hJ
     have hne:ay l (ac.toNat,ap.toNat)≠ay l (tc.toNat,tp.toNat):=by simpa using ga
     obtain⟨hE1,hE2,hb1,hb2,hb3⟩:=Aq hs hok1 hok2 (by rw[hkk];exact hle) (.inr hne)
     cases gr:fj (bz l (2*l.length)) ac !=fj (bz l (2*l.length)) tc
     ·rw[gr,Gm]at hJ
      obtain⟨hK,hK2⟩:=hs.perOf hp0
      obtain⟨r,⟨v,G2,rfl,hsl5,hj5,_⟩,hacr⟩:=kP T5 (.pointer (some ⟨n,0,none⟩)) l loops hDS5.is (by omega) hs (ac.toNat,ap.toNat) hp0 _ hK hK2
      rw[v1,v2]at hacr
      have hct:=isInP_ok (T5++G2) v _ hsl5 (by rw[gi];omega) (tc.toNat,tp.toNat)
      have hpv:plV (tc.toNat,tp.toNat)= .agg #[O U tc,O U tp]:=by unfold plV;rw[v3,v4]
      rw[hpv]at hct
      refine X.drawnBy (fun i=>i==3||i==7||i==14||i==19||i==25||i==28||i==31) follows (by decide+kernel) (Xd.s ?_ (by simp[go_sem,e0,e3,m45,du];rfl))
      refine Xd.t (Sc b73 (arc0 _ hDS5.is)) ?_
      refine Xd.s ?_ (by simp[go_sem,e0,e3,m65,du];rfl)
      refine Xd.t (Sc b73 (arc1 _ hDS5.is)) ?_
      refine Xd.s ?_ (by simp[go_sem,ga,e3,m054,du];rfl)
      refine Xd.t (Sc b66 find0) ?_
      refine Xd.s ?_ (by simp[go_sem,e3,m056,du];rfl)
      refine Xd.t (Sc b66 find1) ?_
      refine Xd.s ?_ (by simp[go_sem,gr,e0,e3,m45,du];rfl)
      refine Xd.quiet rfl (by simp[go_sem]) (Sc b67 hacr) ?_
      refine Xd.s ?_ (by simp[go_sem,e3,aD m65,du];rfl)
      refine Xd.t (Sc b74 hct) ?_
      cases gj:(fh l (ac.toNat,ap.toNat) (perOf l (ac.toNat,ap.toNat))).any fun x=>decide ((tc.toNat,tp.toNat)=x)
      ·rw[gj]at hJ
       rw[if_neg (by rw[hJ];simp[hk0])]at hF
       refine Xd.s ?_ (by simp[go_sem,du];rfl)
       exact Xd.pan (by simp[go_sem]) (Sc b16 (aM _ _)) rfl (fail5 _ _ hF)
      ·rw[gj]at hJ
       rw[if_pos (.inr hJ)]at hF
       rw[hF]
       refine Xd.s ?_ (by simp[go_sem,du];rfl)
       refine Xd.t (Sc b16 (aZ _ _)) ?_
       refine Xd.nil ?_
       have mS:at_ (T5++G2) S.length= .cells [O U kind,O U arc,O U sign,.bool up,O U ac,O U ap,O U tc,O U tp] 79:=by rw[ag (by omega)];exact mS5
       have aS:at_ (T5++G2) ia= .cells [O U 0,O U 0,O U 0,.bool false] 159:=by rw[ag (by omega)];exact aS5
       have bS:at_ (T5++G2) ib= .cells [O U 0,O U 0,O U 0,.bool false] 159:=by rw[ag (by omega)];exact bS5
       have hDS:=hDS5.more G2
       have hOS:=hO5.trans (Ow.junk T5 n na hj5) hn
       have hTl6:(T5++G2).length=T5.length+G2.length:=Ez
       clear fail5 fail50 hacr hct hsl5 find0 find1 hcl
       generalize T5++G2=T6 at*
       have m4S:ak T6 S.length 4 2=some [O U ac,O U ap]:=by unfold ak aP;rw[mS];rfl
       obtain⟨T1,hac1,hTl1,hD1,hO1⟩:=i4 T6 n na l loops hDS (by omega) hlo ac ap hE1 (2*l.length) (by omega)
       have hL1:=eu l loops ac ap (2*l.length)
       generalize aK l loops ac ap (2*l.length)=r1 at hac1 hD1 hL1 hE2 hb1 hb2 hb3⊢
       obtain⟨L1,LP,xb,xm,xa,xl⟩:=r1
       simp only at hac1 hD1 hL1 hE2 hb1 hb2 hb3
       have zA:at_ T1 ia= .cells [O U 0,O U 0,O U 0,.bool false] 159:=by rw[hO1.keep ia (by omega) (by omega) (by omega)];exact aS
       have zB:at_ T1 ib= .cells [O U 0,O U 0,O U 0,.bool false] 159:=by rw[hO1.keep ib (by omega) (by omega) (by omega)];exact bS
       have zM:at_ T1 S.length= .cells [O U kind,O U arc,O U sign,.bool up,O U ac,O U ap,O U tc,O U tp] 79:=by rw[hO1.keep S.length (by omega) (by omega) (by omega)];exact mS
       refine X.seq (X.region (Xl.s ?_ (by simp[go_sem,e0,e3,e4,m4S,hw2];rfl)))
       refine Xl.o (Sc b75 hac1) ?_
       refine Xl.s (Xl.nil ?_) (by simp[go_sem,dP,zA];rfl)
       have hD2:DrO (T1.set ia (.cells [O U xb,O U xm,O U xa,.bool xl] 159)) n na L1 LP:=hD1.moved (by simp) (by rw[af (by omega)]) (by rw[af (by omega)])
       have hO2:Ow S n na (T1.set ia (.cells [O U xb,O U xm,O U xa,.bool xl] 159)) na:=(hOS.trans hO1 hn).setJ (by omega) rfl
       have aT2:at_ (T1.set ia (.cells [O U xb,O U xm,O U xa,.bool xl] 159)) ia= .cells (bj (aI.mk xb xm xa xl)) 159:=au (by omega) _
       have bT2:at_ (T1.set ia (.cells [O U xb,O U xm,O U xa,.bool xl] 159)) ib= .cells [O U 0,O U 0,O U 0,.bool false] 159:=by rw[af (by omega)];exact zB
       have mT2:at_ (T1.set ia (.cells [O U xb,O U xm,O U xa,.bool xl] 159)) S.length= .cells [O U kind,O U arc,O U sign,.bool up,O U ac,O U ap,O U tc,O U tp] 79:=by rw[af (by omega)];exact zM
       have hTl2:(T1.set ia (.cells [O U xb,O U xm,O U xa,.bool xl] 159)).length=T1.length:=by simp
       generalize T1.set ia (.cells [O U xb,O U xm,O U xa,.bool xl] 159)=T2 at hD2 hO2 aT2 bT2 mT2 hTl2⊢
       have m6S:ak T2 S.length 6 2=some [O U tc,O U tp]:=by unfold ak aP;rw[mT2];rfl
       obtain⟨T3,hac3,hTl3,hD3,hO3⟩:=i4 T2 n na L1 LP hD2 (by omega) ⟨hb3 hlo.1,by omega⟩ tc tp hE2 (2*l.length+2) (by omega)
       have hL3:=eu L1 LP tc tp (2*l.length+2)
       generalize aK L1 LP tc tp (2*l.length+2)=r3 at hac3 hD3 hL3⊢
       obtain⟨L3,LP3,yb,ym,ya,yl⟩:=r3
       simp only at hac3 hD3 hL3
       have zA3:at_ T3 ia= .cells (bj (aI.mk xb xm xa xl)) 159:=by rw[hO3.keep ia (by omega) (by omega) (by omega)];exact aT2
       have zB3:at_ T3 ib= .cells [O U 0,O U 0,O U 0,.bool false] 159:=by rw[hO3.keep ib (by omega) (by omega) (by omega)];exact bT2
       have zM3:at_ T3 S.length= .cells [O U kind,O U arc,O U sign,.bool up,O U ac,O U ap,O U tc,O U tp] 79:=by rw[hO3.keep S.length (by omega) (by omega) (by omega)];exact mT2
       refine X.region (Xl.s ?_ (by simp[go_sem,e0,e3,e4,m6S,hw2,hw4];rfl))
       refine Xl.o (Sc b75 hac3) ?_
       refine Xl.s (Xl.nil ?_) (by simp[go_sem,dP,zB3];rfl)
       have hDT:DrO (T3.set ib (.cells [O U yb,O U ym,O U ya,.bool yl] 159)) n na L3 LP3:=hD3.moved (by simp) (by rw[af (by omega)]) (by rw[af (by omega)])
       have hOT:Ow S n na (T3.set ib (.cells [O U yb,O U ym,O U ya,.bool yl] 159)) na:=(hO2.trans hO3 hn).setJ (by omega) rfl
       have aT:at_ (T3.set ib (.cells [O U yb,O U ym,O U ya,.bool yl] 159)) ia= .cells (bj (aI.mk xb xm xa xl)) 159:=by rw[af (by omega)];exact zA3
       have bT:at_ (T3.set ib (.cells [O U yb,O U ym,O U ya,.bool yl] 159)) ib= .cells (bj (aI.mk yb ym ya yl)) 159:=au (by omega) _
       have mT:at_ (T3.set ib (.cells [O U yb,O U ym,O U ya,.bool yl] 159)) S.length= .cells [O U kind,O U arc,O U sign,.bool up,O U ac,O U ap,O U tc,O U tp] 79:=by rw[af (by omega)];exact zM3
       have hTl4:(T3.set ib (.cells [O U yb,O U ym,O U ya,.bool yl] 159)).length=T3.length:=by simp
       generalize T3.set ib (.cells [O U yb,O U ym,O U ya,.bool yl] 159)=T4 at hDT hOT aT bT mT hTl4⊢
       have hiaT:ia<T4.length:=by omega
       have hibT:ib<T4.length:=by omega
       have aR: ∀i,aj T4 ia i=(bj (aI.mk xb xm xa xl))[i]? :=fun i=>by rw[ah,aT]
       have bR: ∀i,aj T4 ib i=(bj (aI.mk yb ym ya yl))[i]? :=fun i=>by rw[ah,bT]
       have mR:aj T4 S.length 3=some (.bool up):=by rw[ah,mT];rfl
       have aN:ak T4 ia 0 4=some (bj (aI.mk xb xm xa xl)):=ao aT rfl
       have bN:ak T4 ib 0 4=some (bj (aI.mk yb ym ya yl)):=ao bT rfl
       obtain⟨r1,hr1,hac1⟩:=gQ T4 n na L3 LP3 hDT (by omega) ((aI.mk yb ym ya yl)).m ((aI.mk xb xm xa xl)).m ((aI.mk yb ym ya yl)).a ((aI.mk xb xm xa xl)).b (aI.mk xb xm xa xl) (aI.mk yb ym ya yl) 3 (by omega) up
       obtain⟨S1,na1,hv1,hD1,hkeep1,hlen1,hfin⟩:=kF (fn:=Try.f44) (y:=iE (aI.mk xb xm xa xl) (aI.mk yb ym ya yl) up) rfl hn hOT hr1
       have aT1:at_ S1 ia= .cells (bj (aI.mk xb xm xa xl)) 159:=by rw[hkeep1 ia hiaT (by omega) (by omega)];exact aT
       have bT1:at_ S1 ib= .cells (bj (aI.mk yb ym ya yl)) 159:=by rw[hkeep1 ib hibT (by omega) (by omega)];exact bT
       have mT1:at_ S1 S.length= .cells [O U kind,O U arc,O U sign,.bool up,O U ac,O U ap,O U tc,O U tp] 79:=by rw[hkeep1 S.length (by omega) (by omega) (by omega)];exact mT
       have aR1: ∀i,aj S1 ia i=(bj (aI.mk xb xm xa xl))[i]? :=fun i=>by rw[ah,aT1]
       have bR1: ∀i,aj S1 ib i=(bj (aI.mk yb ym ya yl))[i]? :=fun i=>by rw[ah,bT1]
       have mR1:aj S1 S.length 3=some (.bool up):=by rw[ah,mT1];rfl
       have aN1:ak S1 ia 0 4=some (bj (aI.mk xb xm xa xl)):=ao aT1 rfl
       have bN1:ak S1 ib 0 4=some (bj (aI.mk yb ym ya yl)):=ao bT1 rfl
       obtain⟨r2,hr2,hac2⟩:=gQ S1 n na1 _ LP3 hD1 (by simp only[Ez,List.length_cons,List.length_nil];omega) ((aI.mk yb ym ya yl)).b ((aI.mk xb xm xa xl)).m ((aI.mk yb ym ya yl)).m ((aI.mk xb xm xa xl)).a (aI.mk xb xm xa xl) (aI.mk yb ym ya yl) 1 (by omega) up
       obtain⟨S2,hv2,hlen2,hends⟩:=hfin r2 hr2
       subst hv1
       subst hv2
       refine X.seq (X.region (Xl.s ?_ (by simp[go_sem,e0,e3,aR,bR,mR,aN,bN,bj];rfl)))
       refine Xl.o (Sc b76 hac1) ?_
       refine Xl.nil ?_
       refine X.region (Xl.s ?_ (by simp[go_sem,e0,e3,aR1,bR1,mR1,aN1,bN1,bj];rfl))
       refine Xl.o (Sc b76 hac2) ?_
       refine Xl.nil ?_
       exact hends _
     ·rw[gr,Bool.true_or]at hJ
      rw[if_pos (.inr hJ)]at hF
      rw[hF]
      refine X.drawnBy (fun i=>i==3||i==7||i==14||i==19||i==25||i==28||i==31) follows (by decide+kernel) (Xd.s ?_ (by simp[go_sem,e0,e3,m45,du];rfl))
      refine Xd.t (Sc b73 (arc0 _ hDS5.is)) ?_
      refine Xd.s ?_ (by simp[go_sem,e0,e3,m65,du];rfl)
      refine Xd.t (Sc b73 (arc1 _ hDS5.is)) ?_
      refine Xd.s ?_ (by simp[go_sem,ga,e3,m054,du];rfl)
      refine Xd.t (Sc b66 find0) ?_
      refine Xd.s ?_ (by simp[go_sem,e3,m056,du];rfl)
      refine Xd.t (Sc b66 find1) ?_
      refine Xd.s ?_ (by simp[go_sem,gr,du];rfl)
      refine Xd.t (Sc b16 (aZ _ _)) ?_
      refine Xd.nil ?_
      clear fail5 fail50 find0 find1 hcl
      have mS:=mS5
      have aS:=aS5
      have bS:=bS5
      have hDS:=hDS5
      have hOS:=hO5
      have m4S:ak T5 S.length 4 2=some [O U ac,O U ap]:=by unfold ak aP;rw[mS];rfl
      obtain⟨T1,hac1,hTl1,hD1,hO1⟩:=i4 T5 n na l loops hDS (by omega) hlo ac ap hE1 (2*l.length) (by omega)
      have hL1:=eu l loops ac ap (2*l.length)
      generalize aK l loops ac ap (2*l.length)=r1 at hac1 hD1 hL1 hE2 hb1 hb2 hb3⊢
      obtain⟨L1,LP,xb,xm,xa,xl⟩:=r1
      simp only at hac1 hD1 hL1 hE2 hb1 hb2 hb3
      have zA:at_ T1 ia= .cells [O U 0,O U 0,O U 0,.bool false] 159:=by rw[hO1.keep ia (by omega) (by omega) (by omega)];exact aS
      have zB:at_ T1 ib= .cells [O U 0,O U 0,O U 0,.bool false] 159:=by rw[hO1.keep ib (by omega) (by omega) (by omega)];exact bS
      have zM:at_ T1 S.length= .cells [O U kind,O U arc,O U sign,.bool up,O U ac,O U ap,O U tc,O U tp] 79:=by rw[hO1.keep S.length (by omega) (by omega) (by omega)];exact mS
      refine X.seq (X.region (Xl.s ?_ (by simp[go_sem,e0,e3,e4,m4S,hw2];rfl)))
      refine Xl.o (Sc b75 hac1) ?_
      refine Xl.s (Xl.nil ?_) (by simp[go_sem,dP,zA];rfl)
      have hD2:DrO (T1.set ia (.cells [O U xb,O U xm,O U xa,.bool xl] 159)) n na L1 LP:=hD1.moved (by simp) (by rw[af (by omega)]) (by rw[af (by omega)])
      have hO2:Ow S n na (T1.set ia (.cells [O U xb,O U xm,O U xa,.bool xl] 159)) na:=(hOS.trans hO1 hn).setJ (by omega) rfl
      have aT2:at_ (T1.set ia (.cells [O U xb,O U xm,O U xa,.bool xl] 159)) ia= .cells (bj (aI.mk xb xm xa xl)) 159:=au (by omega) _
      have bT2:at_ (T1.set ia (.cells [O U xb,O U xm,O U xa,.bool xl] 159)) ib= .cells [O U 0,O U 0,O U 0,.bool false] 159:=by rw[af (by omega)];exact zB
      have mT2:at_ (T1.set ia (.cells [O U xb,O U xm,O U xa,.bool xl] 159)) S.length= .cells [O U kind,O U arc,O U sign,.bool up,O U ac,O U ap,O U tc,O U tp] 79:=by rw[af (by omega)];exact zM
      have hTl2:(T1.set ia (.cells [O U xb,O U xm,O U xa,.bool xl] 159)).length=T1.length:=by simp
      generalize T1.set ia (.cells [O U xb,O U xm,O U xa,.bool xl] 159)=T2 at hD2 hO2 aT2 bT2 mT2 hTl2⊢
      have m6S:ak T2 S.length 6 2=some [O U tc,O U tp]:=by unfold ak aP;rw[mT2];rfl
      obtain⟨T3,hac3,hTl3,hD3,hO3⟩:=i4 T2 n na L1 LP hD2 (by omega) ⟨hb3 hlo.1,by omega⟩ tc tp hE2 (2*l.length+2) (by omega)
      have hL3:=eu L1 LP tc tp (2*l.length+2)
      generalize aK L1 LP tc tp (2*l.length+2)=r3 at hac3 hD3 hL3⊢
      obtain⟨L3,LP3,yb,ym,ya,yl⟩:=r3
      simp only at hac3 hD3 hL3
      have zA3:at_ T3 ia= .cells (bj (aI.mk xb xm xa xl)) 159:=by rw[hO3.keep ia (by omega) (by omega) (by omega)];exact aT2
      have zB3:at_ T3 ib= .cells [O U 0,O U 0,O U 0,.bool false] 159:=by rw[hO3.keep ib (by omega) (by omega) (by omega)];exact bT2
      have zM3:at_ T3 S.length= .cells [O U kind,O U arc,O U sign,.bool up,O U ac,O U ap,O U tc,O U tp] 79:=by rw[hO3.keep S.length (by omega) (by omega) (by omega)];exact mT2
      refine X.region (Xl.s ?_ (by simp[go_sem,e0,e3,e4,m6S,hw2,hw4];rfl))
      refine Xl.o (Sc b75 hac3) ?_
      refine Xl.s (Xl.nil ?_) (by simp[go_sem,dP,zB3];rfl)
      have hDT:DrO (T3.set ib (.cells [O U yb,O U ym,O U ya,.bool yl] 159)) n na L3 LP3:=hD3.moved (by simp) (by rw[af (by omega)]) (by rw[af (by omega)])
      have hOT:Ow S n na (T3.set ib (.cells [O U yb,O U ym,O U ya,.bool yl] 159)) na:=(hO2.trans hO3 hn).setJ (by omega) rfl
      have aT:at_ (T3.set ib (.cells [O U yb,O U ym,O U ya,.bool yl] 159)) ia= .cells (bj (aI.mk xb xm xa xl)) 159:=by rw[af (by omega)];exact zA3
      have bT:at_ (T3.set ib (.cells [O U yb,O U ym,O U ya,.bool yl] 159)) ib= .cells (bj (aI.mk yb ym ya yl)) 159:=au (by omega) _
      have mT:at_ (T3.set ib (.cells [O U yb,O U ym,O U ya,.bool yl] 159)) S.length= .cells [O U kind,O U arc,O U sign,.bool up,O U ac,O U ap,O U tc,O U tp] 79:=by rw[af (by omega)];exact zM3
      have hTl4:(T3.set ib (.cells [O U yb,O U ym,O U ya,.bool yl] 159)).length=T3.length:=by simp
      generalize T3.set ib (.cells [O U yb,O U ym,O U ya,.bool yl] 159)=T4 at hDT hOT aT bT mT hTl4⊢
      have hiaT:ia<T4.length:=by omega
      have hibT:ib<T4.length:=by omega
      have aR: ∀i,aj T4 ia i=(bj (aI.mk xb xm xa xl))[i]? :=fun i=>by rw[ah,aT]
      have bR: ∀i,aj T4 ib i=(bj (aI.mk yb ym ya yl))[i]? :=fun i=>by rw[ah,bT]
      have mR:aj T4 S.length 3=some (.bool up):=by rw[ah,mT];rfl
      have aN:ak T4 ia 0 4=some (bj (aI.mk xb xm xa xl)):=ao aT rfl
      have bN:ak T4 ib 0 4=some (bj (aI.mk yb ym ya yl)):=ao bT rfl
      obtain⟨r1,hr1,hac1⟩:=gQ T4 n na L3 LP3 hDT (by omega) ((aI.mk yb ym ya yl)).m ((aI.mk xb xm xa xl)).m ((aI.mk yb ym ya yl)).a ((aI.mk xb xm xa xl)).b (aI.mk xb xm xa xl) (aI.mk yb ym ya yl) 3 (by omega) up
      obtain⟨S1,na1,hv1,hD1,hkeep1,hlen1,hfin⟩:=kF (fn:=Try.f44) (y:=iE (aI.mk xb xm xa xl) (aI.mk yb ym ya yl) up) rfl hn hOT hr1
      have aT1:at_ S1 ia= .cells (bj (aI.mk xb xm xa xl)) 159:=by rw[hkeep1 ia hiaT (by omega) (by omega)];exact aT
      have bT1:at_ S1 ib= .cells (bj (aI.mk yb ym ya yl)) 159:=by rw[hkeep1 ib hibT (by omega) (by omega)];exact bT
      have mT1:at_ S1 S.length= .cells [O U kind,O U arc,O U sign,.bool up,O U ac,O U ap,O U tc,O U tp] 79:=by rw[hkeep1 S.length (by omega) (by omega) (by omega)];exact mT
      have aR1: ∀i,aj S1 ia i=(bj (aI.mk xb xm xa xl))[i]? :=fun i=>by rw[ah,aT1]
      have bR1: ∀i,aj S1 ib i=(bj (aI.mk yb ym ya yl))[i]? :=fun i=>by rw[ah,bT1]
      have mR1:aj S1 S.length 3=some (.bool up):=by rw[ah,mT1];rfl
      have aN1:ak S1 ia 0 4=some (bj (aI.mk xb xm xa xl)):=ao aT1 rfl
      have bN1:ak S1 ib 0 4=some (bj (aI.mk yb ym ya yl)):=ao bT1 rfl
      obtain⟨r2,hr2,hac2⟩:=gQ S1 n na1 _ LP3 hD1 (by simp only[Ez,List.length_cons,List.length_nil];omega) ((aI.mk yb ym ya yl)).b ((aI.mk xb xm xa xl)).m ((aI.mk yb ym ya yl)).m ((aI.mk xb xm xa xl)).a (aI.mk xb xm xa xl) (aI.mk yb ym ya yl) 1 (by omega) up
      obtain⟨S2,hv2,hlen2,hends⟩:=hfin r2 hr2
      subst hv1
      subst hv2
      refine X.seq (X.region (Xl.s ?_ (by simp[go_sem,e0,e3,aR,bR,mR,aN,bN,bj];rfl)))
      refine Xl.o (Sc b76 hac1) ?_
      refine Xl.nil ?_
      refine X.region (Xl.s ?_ (by simp[go_sem,e0,e3,aR1,bR1,mR1,aN1,bN1,bj];rfl))
      refine Xl.o (Sc b76 hac2) ?_
      refine Xl.nil ?_
      exact hends _
    ·have hkb:((kk:Int)==0)=false:=by simp;exact hk0
     rw[if_pos (.inl hk0)]at hF
     rw[hF]
     clear fail fail2 fail3
     obtain⟨hE1,hE2,hb1,hb2,hb3⟩:=Aq hs hok1 hok2 (by rw[hkk];exact hle) (.inl (by rw[hkk];exact hk0))
     refine X.seq (X.seq (X.g ?_ (by simp[go_sem,e5,hkb];rfl)))
     refine X.cf (X.skip ?_) (by simp[go_sem,hkb])
     have mS:=mT0
     have aS:=aT0
     have bS:=bT0
     have hDS:=hDT0
     have hOS:=hOT0
     have m4S:ak T0 S.length 4 2=some [O U ac,O U ap]:=by unfold ak aP;rw[mS];rfl
     obtain⟨T1,hac1,hTl1,hD1,hO1⟩:=i4 T0 n na l loops hDS (by omega) hlo ac ap hE1 (2*l.length) (by omega)
     have hL1:=eu l loops ac ap (2*l.length)
     generalize aK l loops ac ap (2*l.length)=r1 at hac1 hD1 hL1 hE2 hb1 hb2 hb3⊢
     obtain⟨L1,LP,xb,xm,xa,xl⟩:=r1
     simp only at hac1 hD1 hL1 hE2 hb1 hb2 hb3
     have zA:at_ T1 ia= .cells [O U 0,O U 0,O U 0,.bool false] 159:=by rw[hO1.keep ia (by omega) (by omega) (by omega)];exact aS
     have zB:at_ T1 ib= .cells [O U 0,O U 0,O U 0,.bool false] 159:=by rw[hO1.keep ib (by omega) (by omega) (by omega)];exact bS
     have zM:at_ T1 S.length= .cells [O U kind,O U arc,O U sign,.bool up,O U ac,O U ap,O U tc,O U tp] 79:=by rw[hO1.keep S.length (by omega) (by omega) (by omega)];exact mS
     refine X.seq (X.region (Xl.s ?_ (by simp[go_sem,e0,e3,e4,m4S,hw2];rfl)))
     refine Xl.o (Sc b75 hac1) ?_
     refine Xl.s (Xl.nil ?_) (by simp[go_sem,dP,zA];rfl)
     have hD2:DrO (T1.set ia (.cells [O U xb,O U xm,O U xa,.bool xl] 159)) n na L1 LP:=hD1.moved (by simp) (by rw[af (by omega)]) (by rw[af (by omega)])
     have hO2:Ow S n na (T1.set ia (.cells [O U xb,O U xm,O U xa,.bool xl] 159)) na:=(hOS.trans hO1 hn).setJ (by omega) rfl
     have aT2:at_ (T1.set ia (.cells [O U xb,O U xm,O U xa,.bool xl] 159)) ia= .cells (bj (aI.mk xb xm xa xl)) 159:=au (by omega) _
     have bT2:at_ (T1.set ia (.cells [O U xb,O U xm,O U xa,.bool xl] 159)) ib= .cells [O U 0,O U 0,O U 0,.bool false] 159:=by rw[af (by omega)];exact zB
     have mT2:at_ (T1.set ia (.cells [O U xb,O U xm,O U xa,.bool xl] 159)) S.length= .cells [O U kind,O U arc,O U sign,.bool up,O U ac,O U ap,O U tc,O U tp] 79:=by rw[af (by omega)];exact zM
     have hTl2:(T1.set ia (.cells [O U xb,O U xm,O U xa,.bool xl] 159)).length=T1.length:=by simp
     generalize T1.set ia (.cells [O U xb,O U xm,O U xa,.bool xl] 159)=T2 at hD2 hO2 aT2 bT2 mT2 hTl2⊢
     have m6S:ak T2 S.length 6 2=some [O U tc,O U tp]:=by unfold ak aP;rw[mT2];rfl
     obtain⟨T3,hac3,hTl3,hD3,hO3⟩:=i4 T2 n na L1 LP hD2 (by omega) ⟨hb3 hlo.1,by omega⟩ tc tp hE2 (2*l.length+2) (by omega)
     have hL3:=eu L1 LP tc tp (2*l.length+2)
     generalize aK L1 LP tc tp (2*l.length+2)=r3 at hac3 hD3 hL3⊢
     obtain⟨L3,LP3,yb,ym,ya,yl⟩:=r3
     simp only at hac3 hD3 hL3
     have zA3:at_ T3 ia= .cells (bj (aI.mk xb xm xa xl)) 159:=by rw[hO3.keep ia (by omega) (by omega) (by omega)];exact aT2
     have zB3:at_ T3 ib= .cells [O U 0,O U 0,O U 0,.bool false] 159:=by rw[hO3.keep ib (by omega) (by omega) (by omega)];exact bT2
     have zM3:at_ T3 S.length= .cells [O U kind,O U arc,O U sign,.bool up,O U ac,O U ap,O U tc,O U tp] 79:=by rw[hO3.keep S.length (by omega) (by omega) (by omega)];exact mT2
     refine X.region (Xl.s ?_ (by simp[go_sem,e0,e3,e4,m6S,hw2,hw4];rfl))
     refine Xl.o (Sc b75 hac3) ?_
     refine Xl.s (Xl.nil ?_) (by simp[go_sem,dP,zB3];rfl)
     have hDT:DrO (T3.set ib (.cells [O U yb,O U ym,O U ya,.bool yl] 159)) n na L3 LP3:=hD3.moved (by simp) (by rw[af (by omega)]) (by rw[af (by omega)])
     have hOT:Ow S n na (T3.set ib (.cells [O U yb,O U ym,O U ya,.bool yl] 159)) na:=(hO2.trans hO3 hn).setJ (by omega) rfl
     have aT:at_ (T3.set ib (.cells [O U yb,O U ym,O U ya,.bool yl] 159)) ia= .cells (bj (aI.mk xb xm xa xl)) 159:=by rw[af (by omega)];exact zA3
     have bT:at_ (T3.set ib (.cells [O U yb,O U ym,O U ya,.bool yl] 159)) ib= .cells (bj (aI.mk yb ym ya yl)) 159:=au (by omega) _
     have mT:at_ (T3.set ib (.cells [O U yb,O U ym,O U ya,.bool yl] 159)) S.length= .cells [O U kind,O U arc,O U sign,.bool up,O U ac,O U ap,O U tc,O U tp] 79:=by rw[af (by omega)];exact zM3
     have hTl4:(T3.set ib (.cells [O U yb,O U ym,O U ya,.bool yl] 159)).length=T3.length:=by simp
     generalize T3.set ib (.cells [O U yb,O U ym,O U ya,.bool yl] 159)=T4 at hDT hOT aT bT mT hTl4⊢
     have hiaT:ia<T4.length:=by omega
     have hibT:ib<T4.length:=by omega
     have aR: ∀i,aj T4 ia i=(bj (aI.mk xb xm xa xl))[i]? :=fun i=>by rw[ah,aT]
     have bR: ∀i,aj T4 ib i=(bj (aI.mk yb ym ya yl))[i]? :=fun i=>by rw[ah,bT]
     have mR:aj T4 S.length 3=some (.bool up):=by rw[ah,mT];rfl
     have aN:ak T4 ia 0 4=some (bj (aI.mk xb xm xa xl)):=ao aT rfl
     have bN:ak T4 ib 0 4=some (bj (aI.mk yb ym ya yl)):=ao bT rfl
     obtain⟨r1,hr1,hac1⟩:=gQ T4 n na L3 LP3 hDT (by omega) ((aI.mk yb ym ya yl)).m ((aI.mk xb xm xa xl)).m ((aI.mk yb ym ya yl)).a ((aI.mk xb xm xa xl)).b (aI.mk xb xm xa xl) (aI.mk yb ym ya yl) 3 (by omega) up
     obtain⟨S1,na1,hv1,hD1,hkeep1,hlen1,hfin⟩:=kF (fn:=Try.f44) (y:=iE (aI.mk xb xm xa xl) (aI.mk yb ym ya yl) up) rfl hn hOT hr1
     have aT1:at_ S1 ia= .cells (bj (aI.mk xb xm xa xl)) 159:=by rw[hkeep1 ia hiaT (by omega) (by omega)];exact aT
     have bT1:at_ S1 ib= .cells (bj (aI.mk yb ym ya yl)) 159:=by rw[hkeep1 ib hibT (by omega) (by omega)];exact bT
     have mT1:at_ S1 S.length= .cells [O U kind,O U arc,O U sign,.bool up,O U ac,O U ap,O U tc,O U tp] 79:=by rw[hkeep1 S.length (by omega) (by omega) (by omega)];exact mT
     have aR1: ∀i,aj S1 ia i=(bj (aI.mk xb xm xa xl))[i]? :=fun i=>by rw[ah,aT1]
     have bR1: ∀i,aj S1 ib i=(bj (aI.mk yb ym ya yl))[i]? :=fun i=>by rw[ah,bT1]
     have mR1:aj S1 S.length 3=some (.bool up):=by rw[ah,mT1];rfl
     have aN1:ak S1 ia 0 4=some (bj (aI.mk xb xm xa xl)):=ao aT1 rfl
     have bN1:ak S1 ib 0 4=some (bj (aI.mk yb ym ya yl)):=ao bT1 rfl
     obtain⟨r2,hr2,hac2⟩:=gQ S1 n na1 _ LP3 hD1 (by simp only[Ez,List.length_cons,List.length_nil];omega) ((aI.mk yb ym ya yl)).b ((aI.mk xb xm xa xl)).m ((aI.mk yb ym ya yl)).m ((aI.mk xb xm xa xl)).a (aI.mk xb xm xa xl) (aI.mk yb ym ya yl) 1 (by omega) up
     obtain⟨S2,hv2,hlen2,hends⟩:=hfin r2 hr2
     subst hv1
     subst hv2
     refine X.seq (X.region (Xl.s ?_ (by simp[go_sem,e0,e3,aR,bR,mR,aN,bN,bj];rfl)))
     refine Xl.o (Sc b76 hac1) ?_
     refine Xl.nil ?_
     refine X.region (Xl.s ?_ (by simp[go_sem,e0,e3,aR1,bR1,mR1,aN1,bN1,bj];rfl))
     refine Xl.o (Sc b76 hac2) ?_
     refine Xl.nil ?_
     exact hends _
end Go.Proofs.Ytjcomcgpjjianaa
