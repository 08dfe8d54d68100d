import Derived.Test.YtjcomcgpjjianaaA8
import Derived.Test.YtjcomcgpjjianaaA18
import Derived.Test.YtjcomcgpjjianaaProg
set_option linter.all false
set_option maxHeartbeats 16000000
set_option maxRecDepth 8000
open Go.Value renaming int→O
open Go.IntKind renaming i64→U
namespace Go.Proofs.Ytjcomcgpjjianaa
open Go.Ev
abbrev FA(t f d:Nat):Prop:= ∀n i,dw Try.prog t (.pointer (some ⟨n,i,none⟩)) f=some (.pointer (some ⟨n,i+d,none⟩))
abbrev FO(t f:Nat):Prop:= ∀n i,dw Try.prog t (.pointer (some ⟨n,i,none⟩)) f=some (.pointer (some ⟨n,i,none⟩))
abbrev LD(t k:Nat):Prop:= ∀H n i,dQ Try.prog H t (.pointer (some ⟨n,i,none⟩))=(ak H n i k).map fun l=> .agg l.toArray
abbrev LO(t:Nat):Prop:= ∀H n i,dQ Try.prog H t (.pointer (some ⟨n,i,none⟩))=aj H n i
abbrev LN(t:Nat):Prop:= ∀H b n c,rV Try.prog H t (.slice b n c)=some (O U (n:Nat))
abbrev IS(t k:Nat):Prop:= ∀n i len c (z:IntKind) (j:Int),cJ Try.prog t (.slice (some ⟨n,i,none⟩) len c) (.int z j)=if 0<=j/\j<(len:Nat)then some (.pointer (some ⟨n,i+j.toNat*k,none⟩))else none
theorem CC(b1:Option Addr)(l1 k1:Nat)(x2:Int):bI Try.prog 101 [(0,.slice b1 l1 k1),(1,O U x2)]=some (.agg #[.slice b1 l1 k1,O U x2,.slice none 0 0,.slice none 0 0]):=by kernel_rfl
theorem CM(x1:Int)(x2:Int)(x3:Int)(x4:Int)(x5:Int):bI Try.prog 103 [(0,O U x1),(1,.agg #[O U x2,O U x3,O U x4,O U x5])]=some (.agg #[O U x1,O U x2,O U x3,O U x4,O U x5]):=by kernel_rfl
theorem sF(x1:Int)(x2:Int)(x3:Int)(x4:Int)(x5:Int)(x6:Int)(x7:Int)(x8:Int):bI Try.prog 109 [(0,O U x1),(1,O U x2),(2,O U x3),(3,O U x4),(4,.agg #[O U x5,O U x6,O U x7,O U x8])]=some (.agg #[O U x1,O U x2,O U x3,O U x4,O U x5,O U x6,O U x7,O U x8]):=by kernel_rfl
theorem bd136_0(x1:Option Nat):bI Try.prog 136 [(0,.map x1)]=some (.agg #[.map x1]):=by kernel_rfl
theorem vi(x1:Int)(x2:Int)(x3:Int)(x4:Bool):bI Try.prog 159 [(0,O U x1),(1,O U x2),(2,O U x3),(3,.bool x4)]=some (.agg #[O U x1,O U x2,O U x3,.bool x4]):=by kernel_rfl
theorem bd24_:bI Try.prog 24 []=some (.agg #[.slice none 0 0]):=by kernel_rfl
theorem bd24_0(b1:Option Addr)(l1 k1:Nat):bI Try.prog 24 [(0,.slice b1 l1 k1)]=some (.agg #[.slice b1 l1 k1]):=by kernel_rfl
theorem bd29_:bI Try.prog 29 []=some (.agg #[.slice none 0 0,.slice none 0 0,.slice none 0 0]):=by kernel_rfl
theorem bd29_0(b1:Option Addr)(l1 k1:Nat):bI Try.prog 29 [(0,.slice b1 l1 k1)]=some (.agg #[.slice b1 l1 k1,.slice none 0 0,.slice none 0 0]):=by kernel_rfl
theorem bd32_0_1(b1:Option Addr)(l1 k1:Nat)(x2:Int):bI Try.prog 32 [(0,.slice b1 l1 k1),(1,O U x2)]=some (.agg #[.slice b1 l1 k1,O U x2]):=by kernel_rfl
theorem bd32_1(x1:Int):bI Try.prog 32 [(1,O U x1)]=some (.agg #[.slice none 0 0,O U x1]):=by kernel_rfl
theorem bd35_0(b1:Option Addr)(l1 k1:Nat):bI Try.prog 35 [(0,.slice b1 l1 k1)]=some (.agg #[.slice b1 l1 k1,.slice none 0 0,.slice none 0 0]):=by kernel_rfl
theorem yf(x1:Int)(x2:Int)(x3:Int)(x4:Int):bI Try.prog 38 [(0,O U x1),(1,O U x2),(2,O U x3),(3,O U x4)]=some (.agg #[O U x1,O U x2,O U x3,O U x4]):=by kernel_rfl
theorem bd39_:bI Try.prog 39 []=some (.agg #[O U 0,O U 0,O U 0,O U 0]):=by kernel_rfl
theorem x9(x1:Int)(x2:Int)(x3:Int)(x4:Int):bI Try.prog 39 [(0,O U x1),(1,O U x2),(2,O U x3),(3,O U x4)]=some (.agg #[O U x1,O U x2,O U x3,O U x4]):=by kernel_rfl
theorem bd51_0(x1:Int):bI Try.prog 51 [(0,O U x1)]=some (.agg #[O U x1,O U 0,O U 0,O U 0,O U 0]):=by kernel_rfl
theorem bd51_0_1(x1:Int)(x2:Int)(x3:Int)(x4:Int)(x5:Int):bI Try.prog 51 [(0,O U x1),(1,.agg #[O U x2,O U x3,O U x4,O U x5])]=some (.agg #[O U x1,O U x2,O U x3,O U x4,O U x5]):=by kernel_rfl
theorem bd62_0(b1:Option Addr)(l1 k1:Nat):bI Try.prog 62 [(0,.agg #[.slice b1 l1 k1])]=some (.agg #[.slice b1 l1 k1]):=by kernel_rfl
theorem bd73_0_1(x1:Int)(x2:Int)(x3:Int)(x4:Int)(x5:Int):bI Try.prog 73 [(0,.agg #[O U x1,O U x2,O U x3,O U x4]),(1,O U x5)]=some (.agg #[O U x1,O U x2,O U x3,O U x4,O U x5]):=by kernel_rfl
theorem bd73_1(x1:Int):bI Try.prog 73 [(1,O U x1)]=some (.agg #[O U 0,O U 0,O U 0,O U 0,O U x1]):=by kernel_rfl
theorem bd75_0(b1:Option Addr)(l1 k1:Nat)(x2:Int):bI Try.prog 75 [(0,.agg #[.slice b1 l1 k1,O U x2])]=some (.agg #[.slice b1 l1 k1,O U x2]):=by kernel_rfl
theorem bd77_0(x1:Int):bI Try.prog 77 [(0,O U x1)]=some (.agg #[O U x1,O U 0]):=by kernel_rfl
theorem bd77_0_1(x1:Int)(x2:Int):bI Try.prog 77 [(0,O U x1),(1,O U x2)]=some (.agg #[O U x1,O U x2]):=by kernel_rfl
theorem xP(x1:Int)(x2:Int)(x3:Int)(x4:Bool):bI Try.prog 79 [(0,O U x1),(1,O U x2),(2,O U x3),(3,.bool x4)]=some (.agg #[O U x1,O U x2,O U x3,.bool x4,O U 0,O U 0,O U 0,O U 0]):=by kernel_rfl
theorem bd79_0_4(x1:Int)(x2:Int)(x3:Int):bI Try.prog 79 [(0,O U x1),(4,.agg #[O U x2,O U x3])]=some (.agg #[O U x1,O U 0,O U 0,.bool false,O U x2,O U x3,O U 0,O U 0]):=by kernel_rfl
theorem bd92_0(x1:Int):bI Try.prog 92 [(0,O U x1)]=some (.agg #[O U x1]):=by kernel_rfl
theorem fa101_0:FO 101 0:=fun n i=>by kernel_rfl
theorem fa101_1:FA 101 1 1:=fun n i=>by kernel_rfl
theorem fa101_2:FA 101 2 2:=fun n i=>by kernel_rfl
theorem fa101_3:FA 101 3 3:=fun n i=>by kernel_rfl
theorem fa103_0:FO 103 0:=fun n i=>by kernel_rfl
theorem fa103_1:FA 103 1 1:=fun n i=>by kernel_rfl
theorem fa107_0:FO 107 0:=fun n i=>by kernel_rfl
theorem fa107_1:FA 107 1 1:=fun n i=>by kernel_rfl
theorem fa107_2:FA 107 2 2:=fun n i=>by kernel_rfl
theorem fa107_3:FA 107 3 3:=fun n i=>by kernel_rfl
theorem fa109_0:FO 109 0:=fun n i=>by kernel_rfl
theorem fa109_1:FA 109 1 1:=fun n i=>by kernel_rfl
theorem fa109_2:FA 109 2 2:=fun n i=>by kernel_rfl
theorem fa109_3:FA 109 3 3:=fun n i=>by kernel_rfl
theorem fa109_4:FA 109 4 4:=fun n i=>by kernel_rfl
theorem fa136_0:FO 136 0:=fun n i=>by kernel_rfl
theorem fa159_0:FO 159 0:=fun n i=>by kernel_rfl
theorem fa159_1:FA 159 1 1:=fun n i=>by kernel_rfl
theorem fa159_2:FA 159 2 2:=fun n i=>by kernel_rfl
theorem fa159_3:FA 159 3 3:=fun n i=>by kernel_rfl
theorem fa24_0:FO 24 0:=fun n i=>by kernel_rfl
theorem fa29_0:FO 29 0:=fun n i=>by kernel_rfl
theorem fa29_1:FA 29 1 1:=fun n i=>by kernel_rfl
theorem fa29_2:FA 29 2 2:=fun n i=>by kernel_rfl
theorem fa32_0:FO 32 0:=fun n i=>by kernel_rfl
theorem fa32_1:FA 32 1 1:=fun n i=>by kernel_rfl
theorem fa35_0:FO 35 0:=fun n i=>by kernel_rfl
theorem fa35_1:FA 35 1 1:=fun n i=>by kernel_rfl
theorem fa35_2:FA 35 2 2:=fun n i=>by kernel_rfl
theorem fa51_0:FO 51 0:=fun n i=>by kernel_rfl
theorem fa51_1:FA 51 1 1:=fun n i=>by kernel_rfl
theorem fa62_0:FO 62 0:=fun n i=>by kernel_rfl
theorem fa64_0:FO 64 0:=fun n i=>by kernel_rfl
theorem fa64_1:FA 64 1 1:=fun n i=>by kernel_rfl
theorem fa64_2:FA 64 2 2:=fun n i=>by kernel_rfl
theorem fa73_0:FO 73 0:=fun n i=>by kernel_rfl
theorem fa73_1:FA 73 1 4:=fun n i=>by kernel_rfl
theorem fa75_0:FO 75 0:=fun n i=>by kernel_rfl
theorem fa77_0:FO 77 0:=fun n i=>by kernel_rfl
theorem fa77_1:FA 77 1 1:=fun n i=>by kernel_rfl
theorem fa79_0:FO 79 0:=fun n i=>by kernel_rfl
theorem fa79_1:FA 79 1 1:=fun n i=>by kernel_rfl
theorem fa79_2:FA 79 2 2:=fun n i=>by kernel_rfl
theorem fa79_3:FA 79 3 3:=fun n i=>by kernel_rfl
theorem fa79_4:FA 79 4 4:=fun n i=>by kernel_rfl
theorem fa79_5:FA 79 5 6:=fun n i=>by kernel_rfl
theorem fa92_0:FO 92 0:=fun n i=>by kernel_rfl
theorem fd24_0(v0:Value):lQ Try.prog 24 (.agg #[v0]) 0=some (v0):=by kernel_rfl
theorem Bo(v0 v1:Value):lQ Try.prog 77 (.agg #[v0,v1]) 0=some (v0):=by kernel_rfl
theorem fd77_1(v0 v1:Value):lQ Try.prog 77 (.agg #[v0,v1]) 1=some (v1):=by kernel_rfl
theorem ia113:IS 113 1:=fun n i len c z j=>by kernel_rfl
theorem ia114:IS 114 2:=fun n i len c z j=>by kernel_rfl
theorem ia151:IS 151 2:=fun n i len c z j=>by kernel_rfl
theorem ia22:IS 22 20:=fun n i len c z j=>by kernel_rfl
theorem ia25:IS 25 6:=fun n i len c z j=>by kernel_rfl
theorem ia26:IS 26 1:=fun n i len c z j=>by kernel_rfl
theorem ia27:IS 27 4:=fun n i len c z j=>by kernel_rfl
theorem ia30:IS 30 5:=fun n i len c z j=>by kernel_rfl
theorem ia33:IS 33 8:=fun n i len c z j=>by kernel_rfl
theorem ia38(n i:Nat)(k:IntKind)(j:Int):cJ Try.prog 38 (.pointer (some ⟨n,i,none⟩)) (.int k j)=if 0<=j/\j<4 then some (.pointer (some ⟨n,i+j.toNat*1,none⟩))else none:=by kernel_rfl
theorem ia39(n i:Nat)(k:IntKind)(j:Int):cJ Try.prog 39 (.pointer (some ⟨n,i,none⟩)) (.int k j)=if 0<=j/\j<4 then some (.pointer (some ⟨n,i+j.toNat*1,none⟩))else none:=by kernel_rfl
theorem ia52(n i:Nat)(k:IntKind)(j:Int):cJ Try.prog 52 (.pointer (some ⟨n,i,none⟩)) (.int k j)=if 0<=j/\j<4 then some (.pointer (some ⟨n,i+j.toNat*5,none⟩))else none:=by kernel_rfl
theorem ia90(n i:Nat)(k:IntKind)(j:Int):cJ Try.prog 90 (.pointer (some ⟨n,i,none⟩)) (.int k j)=if 0<=j/\j<4 then some (.pointer (some ⟨n,i+j.toNat*1,none⟩))else none:=by kernel_rfl
theorem ia97:IS 97 5:=fun n i len c z j=>by kernel_rfl
theorem ia98:IS 98 8:=fun n i len c z j=>by kernel_rfl
theorem ia99:IS 99 7:=fun n i len c z j=>by kernel_rfl
theorem ld101:LD 101 4:=fun H n i=>by kernel_rfl
theorem ld103:LD 103 5:=fun H n i=>by kernel_rfl
theorem ld104:LO 104:=fun H n i=>by kernel_rfl
theorem ld109:LD 109 8:=fun H n i=>by kernel_rfl
theorem ld159:LD 159 4:=fun H n i=>by kernel_rfl
theorem ld22:LO 22:=fun H n i=>by kernel_rfl
theorem ld24:LD 24 1:=fun H n i=>by kernel_rfl
theorem ld25:LO 25:=fun H n i=>by kernel_rfl
theorem ld26:LO 26:=fun H n i=>by kernel_rfl
theorem ld27:LO 27:=fun H n i=>by kernel_rfl
theorem ld29:LD 29 3:=fun H n i=>by kernel_rfl
theorem ld3:LO 3:=fun H n i=>by kernel_rfl
theorem ld30:LO 30:=fun H n i=>by kernel_rfl
theorem ld32:LD 32 2:=fun H n i=>by kernel_rfl
theorem ld33:LO 33:=fun H n i=>by kernel_rfl
theorem ld35:LD 35 3:=fun H n i=>by kernel_rfl
theorem ld36:LO 36:=fun H n i=>by kernel_rfl
theorem ld38:LD 38 4:=fun H n i=>by kernel_rfl
theorem ld39:LD 39 4:=fun H n i=>by kernel_rfl
theorem ld4:LO 4:=fun H n i=>by kernel_rfl
theorem ld51:LD 51 5:=fun H n i=>by kernel_rfl
theorem ld52:LD 52 20:=fun H n i=>by kernel_rfl
theorem ld64:LD 64 6:=fun H n i=>by kernel_rfl
theorem ld70:LO 70:=fun H n i=>by kernel_rfl
theorem ld73:LD 73 5:=fun H n i=>by kernel_rfl
theorem ld77:LD 77 2:=fun H n i=>by kernel_rfl
theorem ld79:LD 79 8:=fun H n i=>by kernel_rfl
theorem ld97:LO 97:=fun H n i=>by kernel_rfl
theorem ld98:LO 98:=fun H n i=>by kernel_rfl
theorem ld99:LO 99:=fun H n i=>by kernel_rfl
theorem ln114:LN 114:=fun H b n c=>by kernel_rfl
theorem ln151:LN 151:=fun H b n c=>by kernel_rfl
theorem ln22:LN 22:=fun H b n c=>by kernel_rfl
theorem ln25:LN 25:=fun H b n c=>by kernel_rfl
theorem ln26:LN 26:=fun H b n c=>by kernel_rfl
theorem ln27:LN 27:=fun H b n c=>by kernel_rfl
theorem ln30:LN 30:=fun H b n c=>by kernel_rfl
theorem ln33:LN 33:=fun H b n c=>by kernel_rfl
theorem ln97:LN 97:=fun H b n c=>by kernel_rfl
theorem ln98:LN 98:=fun H b n c=>by kernel_rfl
theorem ln99:LN 99:=fun H b n c=>by kernel_rfl
theorem size101:bJ Try.prog 101=some 4:=by kernel_rfl
theorem size103:bJ Try.prog 103=some 5:=by kernel_rfl
theorem size107:bJ Try.prog 107=some 7:=by kernel_rfl
theorem size109:bJ Try.prog 109=some 8:=by kernel_rfl
theorem size159:bJ Try.prog 159=some 4:=by kernel_rfl
theorem size22:bJ Try.prog 22=some 1:=by kernel_rfl
theorem size24:bJ Try.prog 24=some 1:=by kernel_rfl
theorem size26:bJ Try.prog 26=some 1:=by kernel_rfl
theorem size27:bJ Try.prog 27=some 1:=by kernel_rfl
theorem size29:bJ Try.prog 29=some 3:=by kernel_rfl
theorem wP:bJ Try.prog 3=some 1:=by kernel_rfl
theorem size30:bJ Try.prog 30=some 1:=by kernel_rfl
theorem size32:bJ Try.prog 32=some 2:=by kernel_rfl
theorem size35:bJ Try.prog 35=some 3:=by kernel_rfl
theorem size36:bJ Try.prog 36=some 1:=by kernel_rfl
theorem size39:bJ Try.prog 39=some 4:=by kernel_rfl
theorem size4:bJ Try.prog 4=some 1:=by kernel_rfl
theorem size51:bJ Try.prog 51=some 5:=by kernel_rfl
theorem size52:bJ Try.prog 52=some 20:=by kernel_rfl
theorem size64:bJ Try.prog 64=some 6:=by kernel_rfl
theorem size73:bJ Try.prog 73=some 5:=by kernel_rfl
theorem size75:bJ Try.prog 75=some 2:=by kernel_rfl
theorem size77:bJ Try.prog 77=some 2:=by kernel_rfl
theorem size79:bJ Try.prog 79=some 8:=by kernel_rfl
theorem size92:bJ Try.prog 92=some 1:=by kernel_rfl
theorem size97:bJ Try.prog 97=some 1:=by kernel_rfl
theorem size98:bJ Try.prog 98=some 1:=by kernel_rfl
theorem zero101:cw Try.prog 101=some (.agg #[.slice none 0 0,O U 0,.slice none 0 0,.slice none 0 0]):=by kernel_rfl
theorem zero103:cw Try.prog 103=some (.agg #[O U 0,O U 0,O U 0,O U 0,O U 0]):=by kernel_rfl
theorem zero107:cw Try.prog 107=some (.agg #[O U 0,O U 0,O U 0,O U 0,O U 0,O U 0,O U 0]):=by kernel_rfl
theorem zero109:cw Try.prog 109=some (.agg #[O U 0,O U 0,O U 0,O U 0,O U 0,O U 0,O U 0,O U 0]):=by kernel_rfl
theorem zero159:cw Try.prog 159=some (.agg #[O U 0,O U 0,O U 0,.bool false]):=by kernel_rfl
theorem zero24:cw Try.prog 24=some (.agg #[.slice none 0 0]):=by kernel_rfl
theorem zero29:cw Try.prog 29=some (.agg #[.slice none 0 0,.slice none 0 0,.slice none 0 0]):=by kernel_rfl
theorem zero3:cw Try.prog 3=some (O U 0):=by kernel_rfl
theorem zero30:cw Try.prog 30=some (.slice none 0 0):=by kernel_rfl
theorem zero32:cw Try.prog 32=some (.agg #[.slice none 0 0,O U 0]):=by kernel_rfl
theorem zero35:cw Try.prog 35=some (.agg #[.slice none 0 0,.slice none 0 0,.slice none 0 0]):=by kernel_rfl
theorem zero36:cw Try.prog 36=some (O U 0):=by kernel_rfl
theorem zero39:cw Try.prog 39=some (.agg #[O U 0,O U 0,O U 0,O U 0]):=by kernel_rfl
theorem zero51:cw Try.prog 51=some (.agg #[O U 0,O U 0,O U 0,O U 0,O U 0]):=by kernel_rfl
theorem zero52:cw Try.prog 52=some (.agg #[O U 0,O U 0,O U 0,O U 0,O U 0,O U 0,O U 0,O U 0,O U 0,O U 0,O U 0,O U 0,O U 0,O U 0,O U 0,O U 0,O U 0,O U 0,O U 0,O U 0]):=by kernel_rfl
theorem zero64:cw Try.prog 64=some (.agg #[O U 0,O U 0,O U 0,O U 0,O U 0,O U 0]):=by kernel_rfl
theorem zero73:cw Try.prog 73=some (.agg #[O U 0,O U 0,O U 0,O U 0,O U 0]):=by kernel_rfl
theorem zero75:cw Try.prog 75=some (.agg #[.slice none 0 0,O U 0]):=by kernel_rfl
theorem zero77:cw Try.prog 77=some (.agg #[O U 0,O U 0]):=by kernel_rfl
theorem zero79:cw Try.prog 79=some (.agg #[O U 0,O U 0,O U 0,.bool false,O U 0,O U 0,O U 0,O U 0]):=by kernel_rfl
theorem zero90:cw Try.prog 90=some (.agg #[.bool false,.bool false,.bool false,.bool false]):=by kernel_rfl
theorem zero92:cw Try.prog 92=some (.agg #[O U 0]):=by kernel_rfl
theorem aeq77(x0 y0:Int)(x1 y1:Int):bZ Try.prog 10000 77 (.agg #[O U x0,O U x1]) (.agg #[O U y0,O U y1])=some (x0==y0&&x1==y1):=by
 have key:bZ Try.prog 10000 77 (.agg #[O U x0,O U x1]) (.agg #[O U y0,O U y1])=(match some (x0==y0)with|some true=>(match some (x1==y1)with|some true=>some true|some false=>some false|none=>none)|some false=>some false|none=>none):=by kernel_rfl
 rw[key]
 cases x0==y0<;>cases x1==y1<;>rfl
theorem eql77(x0 y0:Int)(x1 y1:Int):dx Try.prog .eql 77 (.agg #[O U x0,O U x1]) (.agg #[O U y0,O U y1])=some (.bool (x0==y0&&x1==y1)):=by
 have key:dx Try.prog .eql 77 (.agg #[O U x0,O U x1]) (.agg #[O U y0,O U y1])=(bZ Try.prog 10000 77 (.agg #[O U x0,O U x1]) (.agg #[O U y0,O U y1])).map .bool:=by kernel_rfl
 rw[key,aeq77];rfl
theorem aeq51(x0 y0:Int)(x1 y1:Int)(x2 y2:Int)(x3 y3:Int)(x4 y4:Int):bZ Try.prog 10000 51 (.agg #[O U x0,O U x1,O U x2,O U x3,O U x4]) (.agg #[O U y0,O U y1,O U y2,O U y3,O U y4])=some (x0==y0&&x1==y1&&x2==y2&&x3==y3&&x4==y4):=by
 have key:bZ Try.prog 10000 51 (.agg #[O U x0,O U x1,O U x2,O U x3,O U x4]) (.agg #[O U y0,O U y1,O U y2,O U y3,O U y4])=(match some (x0==y0)with|some true=>(match (match some (x1==y1)with|some true=>(match some (x2==y2)with|some true=>(match some (x3==y3)with|some true=>(match some (x4==y4)with|some true=>some true|some false=>some false|none=>none)|some false=>some false|none=>none)|some false=>some false|none=>none)|some false=>some false|none=>none)with|some true=>some true|some false=>some false|none=>none)|some false=>some false|none=>none):=by kernel_rfl
 rw[key]
 cases x0==y0<;>cases x1==y1<;>cases x2==y2<;>cases x3==y3<;>cases x4==y4<;>rfl
theorem eql51(x0 y0:Int)(x1 y1:Int)(x2 y2:Int)(x3 y3:Int)(x4 y4:Int):dx Try.prog .eql 51 (.agg #[O U x0,O U x1,O U x2,O U x3,O U x4]) (.agg #[O U y0,O U y1,O U y2,O U y3,O U y4])=some (.bool (x0==y0&&x1==y1&&x2==y2&&x3==y3&&x4==y4)):=by
 have key:dx Try.prog .eql 51 (.agg #[O U x0,O U x1,O U x2,O U x3,O U x4]) (.agg #[O U y0,O U y1,O U y2,O U y3,O U y4])=(bZ Try.prog 10000 51 (.agg #[O U x0,O U x1,O U x2,O U x3,O U x4]) (.agg #[O U y0,O U y1,O U y2,O U y3,O U y4])).map .bool:=by kernel_rfl
 rw[key,aeq51];rfl
theorem neq51(x0 y0:Int)(x1 y1:Int)(x2 y2:Int)(x3 y3:Int)(x4 y4:Int):dx Try.prog .neq 51 (.agg #[O U x0,O U x1,O U x2,O U x3,O U x4]) (.agg #[O U y0,O U y1,O U y2,O U y3,O U y4])=some (.bool (!(x0==y0&&x1==y1&&x2==y2&&x3==y3&&x4==y4))):=by
 have key:dx Try.prog .neq 51 (.agg #[O U x0,O U x1,O U x2,O U x3,O U x4]) (.agg #[O U y0,O U y1,O U y2,O U y3,O U y4])=(bZ Try.prog 10000 51 (.agg #[O U x0,O U x1,O U x2,O U x3,O U x4]) (.agg #[O U y0,O U y1,O U y2,O U y3,O U y4])).map fun b=> .bool !b:=by kernel_rfl
 rw[key,aeq51];rfl
theorem aeq39(x0 y0:Int)(x1 y1:Int)(x2 y2:Int)(x3 y3:Int):bZ Try.prog 10000 39 (.agg #[O U x0,O U x1,O U x2,O U x3]) (.agg #[O U y0,O U y1,O U y2,O U y3])=some (x0==y0&&x1==y1&&x2==y2&&x3==y3):=by
 have key:bZ Try.prog 10000 39 (.agg #[O U x0,O U x1,O U x2,O U x3]) (.agg #[O U y0,O U y1,O U y2,O U y3])=(match some (x0==y0)with|some true=>(match some (x1==y1)with|some true=>(match some (x2==y2)with|some true=>(match some (x3==y3)with|some true=>some true|some false=>some false|none=>none)|some false=>some false|none=>none)|some false=>some false|none=>none)|some false=>some false|none=>none):=by kernel_rfl
 rw[key]
 cases x0==y0<;>cases x1==y1<;>cases x2==y2<;>cases x3==y3<;>rfl
theorem eql39(x0 y0:Int)(x1 y1:Int)(x2 y2:Int)(x3 y3:Int):dx Try.prog .eql 39 (.agg #[O U x0,O U x1,O U x2,O U x3]) (.agg #[O U y0,O U y1,O U y2,O U y3])=some (.bool (x0==y0&&x1==y1&&x2==y2&&x3==y3)):=by
 have key:dx Try.prog .eql 39 (.agg #[O U x0,O U x1,O U x2,O U x3]) (.agg #[O U y0,O U y1,O U y2,O U y3])=(bZ Try.prog 10000 39 (.agg #[O U x0,O U x1,O U x2,O U x3]) (.agg #[O U y0,O U y1,O U y2,O U y3])).map .bool:=by kernel_rfl
 rw[key,aeq39];rfl
theorem aeq79(x0 y0:Int)(x1 y1:Int)(x2 y2:Int)(x3 y3:Bool)(x4 y4:Int)(x5 y5:Int)(x6 y6:Int)(x7 y7:Int):bZ Try.prog 10000 79 (.agg #[O U x0,O U x1,O U x2,.bool x3,O U x4,O U x5,O U x6,O U x7]) (.agg #[O U y0,O U y1,O U y2,.bool y3,O U y4,O U y5,O U y6,O U y7])=some (x0==y0&&x1==y1&&x2==y2&&x3==y3&&x4==y4&&x5==y5&&x6==y6&&x7==y7):=by
 have key:bZ Try.prog 10000 79 (.agg #[O U x0,O U x1,O U x2,.bool x3,O U x4,O U x5,O U x6,O U x7]) (.agg #[O U y0,O U y1,O U y2,.bool y3,O U y4,O U y5,O U y6,O U y7])=(match some (x0==y0)with|some true=>(match some (x1==y1)with|some true=>(match some (x2==y2)with|some true=>(match some (x3==y3)with|some true=>(match (match some (x4==y4)with|some true=>(match some (x5==y5)with|some true=>some true|some false=>some false|none=>none)|some false=>some false|none=>none)with|some true=>(match (match some (x6==y6)with|some true=>(match some (x7==y7)with|some true=>some true|some false=>some false|none=>none)|some false=>some false|none=>none)with|some true=>some true|some false=>some false|none=>none)|some false=>some false|none=>none)|some false=>some false|none=>none)|some false=>some false|none=>none)|some false=>some false|none=>none)|some false=>some false|none=>none):=by kernel_rfl
 rw[key]
 cases x0==y0<;>cases x1==y1<;>cases x2==y2<;>cases x3==y3<;>cases x4==y4<;>cases x5==y5<;>cases x6==y6<;>cases x7==y7<;>rfl
theorem eql79(x0 y0:Int)(x1 y1:Int)(x2 y2:Int)(x3 y3:Bool)(x4 y4:Int)(x5 y5:Int)(x6 y6:Int)(x7 y7:Int):dx Try.prog .eql 79 (.agg #[O U x0,O U x1,O U x2,.bool x3,O U x4,O U x5,O U x6,O U x7]) (.agg #[O U y0,O U y1,O U y2,.bool y3,O U y4,O U y5,O U y6,O U y7])=some (.bool (x0==y0&&x1==y1&&x2==y2&&x3==y3&&x4==y4&&x5==y5&&x6==y6&&x7==y7)):=by
 have key:dx Try.prog .eql 79 (.agg #[O U x0,O U x1,O U x2,.bool x3,O U x4,O U x5,O U x6,O U x7]) (.agg #[O U y0,O U y1,O U y2,.bool y3,O U y4,O U y5,O U y6,O U y7])=(bZ Try.prog 10000 79 (.agg #[O U x0,O U x1,O U x2,.bool x3,O U x4,O U x5,O U x6,O U x7]) (.agg #[O U y0,O U y1,O U y2,.bool y3,O U y4,O U y5,O U y6,O U y7])).map .bool:=by kernel_rfl
 rw[key,aeq79];rfl
theorem eql4(a b:Bool):dx Try.prog .eql 4 (.bool a) (.bool b)=some (.bool (a==b)):=by kernel_rfl
theorem eql22(a:Addr)(n c:Nat):dx Try.prog .eql 22 (.slice (some a) n c) (.slice none 0 0)=some (.bool false):=by kernel_rfl
theorem eql22n:dx Try.prog .eql 22 (.slice none 0 0) (.slice none 0 0)=some (.bool true):=by kernel_rfl
theorem eql30(a:Addr)(n c:Nat):dx Try.prog .eql 30 (.slice (some a) n c) (.slice none 0 0)=some (.bool false):=by kernel_rfl
theorem eql30n:dx Try.prog .eql 30 (.slice none 0 0) (.slice none 0 0)=some (.bool true):=by kernel_rfl
theorem ix38(cs:Array Value)(k:IntKind)(j:Int):eF Try.prog 38 (.agg cs) (.int k j)=if 0<=j/\j<4 then cs[j.toNat*1]? else none:=by kernel_rfl
theorem ix39(cs:Array Value)(k:IntKind)(j:Int):eF Try.prog 39 (.agg cs) (.int k j)=if 0<=j/\j<4 then cs[j.toNat*1]? else none:=by kernel_rfl
theorem f3:Try.prog.funcs[3]? =some Try.f3:=by kernel_rfl
theorem f4:Try.prog.funcs[4]? =some Try.f4:=by kernel_rfl
theorem f5:Try.prog.funcs[5]? =some Try.f5:=by kernel_rfl
theorem f6:Try.prog.funcs[6]? =some Try.f6:=by kernel_rfl
theorem f7:Try.prog.funcs[7]? =some Try.f7:=by kernel_rfl
theorem f8:Try.prog.funcs[8]? =some Try.f8:=by kernel_rfl
theorem f9:Try.prog.funcs[9]? =some Try.f9:=by kernel_rfl
theorem f10:Try.prog.funcs[10]? =some Try.f10:=by kernel_rfl
theorem f11:Try.prog.funcs[11]? =some Try.f11:=by kernel_rfl
theorem f12:Try.prog.funcs[12]? =some Try.f12:=by kernel_rfl
theorem f13:Try.prog.funcs[13]? =some Try.f13:=by kernel_rfl
theorem f14:Try.prog.funcs[14]? =some Try.f14:=by kernel_rfl
theorem f15:Try.prog.funcs[15]? =some Try.f15:=by kernel_rfl
theorem f16:Try.prog.funcs[16]? =some Try.f16:=by kernel_rfl
theorem f17:Try.prog.funcs[17]? =some Try.f17:=by kernel_rfl
theorem f18:Try.prog.funcs[18]? =some Try.f18:=by kernel_rfl
theorem f19:Try.prog.funcs[19]? =some Try.f19:=by kernel_rfl
theorem f20:Try.prog.funcs[20]? =some Try.f20:=by kernel_rfl
theorem f21:Try.prog.funcs[21]? =some Try.f21:=by kernel_rfl
theorem f22:Try.prog.funcs[22]? =some Try.f22:=by kernel_rfl
theorem f23:Try.prog.funcs[23]? =some Try.f23:=by kernel_rfl
theorem f24:Try.prog.funcs[24]? =some Try.f24:=by kernel_rfl
theorem f25:Try.prog.funcs[25]? =some Try.f25:=by kernel_rfl
theorem f26:Try.prog.funcs[26]? =some Try.f26:=by kernel_rfl
theorem f27:Try.prog.funcs[27]? =some Try.f27:=by kernel_rfl
theorem f28:Try.prog.funcs[28]? =some Try.f28:=by kernel_rfl
theorem f32:Try.prog.funcs[32]? =some Try.f32:=by kernel_rfl
theorem f33:Try.prog.funcs[33]? =some Try.f33:=by kernel_rfl
theorem f34:Try.prog.funcs[34]? =some Try.f34:=by kernel_rfl
theorem f35:Try.prog.funcs[35]? =some Try.f35:=by kernel_rfl
theorem f36:Try.prog.funcs[36]? =some Try.f36:=by kernel_rfl
theorem f37:Try.prog.funcs[37]? =some Try.f37:=by kernel_rfl
theorem f38:Try.prog.funcs[38]? =some Try.f38:=by kernel_rfl
theorem f39:Try.prog.funcs[39]? =some Try.f39:=by kernel_rfl
theorem f40:Try.prog.funcs[40]? =some Try.f40:=by kernel_rfl
theorem f41:Try.prog.funcs[41]? =some Try.f41:=by kernel_rfl
theorem f42:Try.prog.funcs[42]? =some Try.f42:=by kernel_rfl
theorem f43:Try.prog.funcs[43]? =some Try.f43:=by kernel_rfl
theorem f44:Try.prog.funcs[44]? =some Try.f44:=by kernel_rfl
theorem f45:Try.prog.funcs[45]? =some Try.f45:=by kernel_rfl
theorem f46:Try.prog.funcs[46]? =some Try.f46:=by kernel_rfl
theorem f54:Try.prog.funcs[54]? =some Try.f54:=by kernel_rfl
theorem f57:Try.prog.funcs[57]? =some Try.f57:=by kernel_rfl
theorem f58:Try.prog.funcs[58]? =some Try.f58:=by kernel_rfl
theorem f59:Try.prog.funcs[59]? =some Try.f59:=by kernel_rfl
theorem f60:Try.prog.funcs[60]? =some Try.f60:=by kernel_rfl
theorem f64:Try.prog.funcs[64]? =some Try.f64:=by kernel_rfl
theorem f65:Try.prog.funcs[65]? =some Try.f65:=by kernel_rfl
theorem f66:Try.prog.funcs[66]? =some Try.f66:=by kernel_rfl
theorem f67:Try.prog.funcs[67]? =some Try.f67:=by kernel_rfl
theorem f68:Try.prog.funcs[68]? =some Try.f68:=by kernel_rfl
theorem f69:Try.prog.funcs[69]? =some Try.f69:=by kernel_rfl
theorem f70:Try.prog.funcs[70]? =some Try.f70:=by kernel_rfl
theorem f71:Try.prog.funcs[71]? =some Try.f71:=by kernel_rfl
theorem f72:Try.prog.funcs[72]? =some Try.f72:=by kernel_rfl
theorem f73:Try.prog.funcs[73]? =some Try.f73:=by kernel_rfl
theorem f74:Try.prog.funcs[74]? =some Try.f74:=by kernel_rfl
theorem f75:Try.prog.funcs[75]? =some Try.f75:=by kernel_rfl
theorem f76:Try.prog.funcs[76]? =some Try.f76:=by kernel_rfl
theorem f77:Try.prog.funcs[77]? =some Try.f77:=by kernel_rfl
theorem f78:Try.prog.funcs[78]? =some Try.f78:=by kernel_rfl
theorem f79:Try.prog.funcs[79]? =some Try.f79:=by kernel_rfl
theorem f80:Try.prog.funcs[80]? =some Try.f80:=by kernel_rfl
theorem f81:Try.prog.funcs[81]? =some Try.f81:=by kernel_rfl
theorem f82:Try.prog.funcs[82]? =some Try.f82:=by kernel_rfl
theorem f93:Try.prog.funcs[93]? =some Try.f93:=by kernel_rfl
theorem f94:Try.prog.funcs[94]? =some Try.f94:=by kernel_rfl
theorem f95:Try.prog.funcs[95]? =some Try.f95:=by kernel_rfl
theorem f96:Try.prog.funcs[96]? =some Try.f96:=by kernel_rfl
theorem f97:Try.prog.funcs[97]? =some Try.f97:=by kernel_rfl
theorem f98:Try.prog.funcs[98]? =some Try.f98:=by kernel_rfl
theorem f99:Try.prog.funcs[99]? =some Try.f99:=by kernel_rfl
theorem follows:Try.prog.follows .mixedOrders=true:=by kernel_rfl
theorem b4:aO Try.prog 4:=⟨_,f4,rfl,rfl⟩
theorem b5:aO Try.prog 5:=⟨_,f5,rfl,rfl⟩
theorem b6:aO Try.prog 6:=⟨_,f6,rfl,rfl⟩
theorem b7:aO Try.prog 7:=⟨_,f7,rfl,rfl⟩
theorem b8:aO Try.prog 8:=⟨_,f8,rfl,rfl⟩
theorem b9:aO Try.prog 9:=⟨_,f9,rfl,rfl⟩
theorem b10:aO Try.prog 10:=⟨_,f10,rfl,rfl⟩
theorem b11:aO Try.prog 11:=⟨_,f11,rfl,rfl⟩
theorem b12:aO Try.prog 12:=⟨_,f12,rfl,rfl⟩
theorem b13:aO Try.prog 13:=⟨_,f13,rfl,rfl⟩
theorem b14:aO Try.prog 14:=⟨_,f14,rfl,rfl⟩
theorem b16:aO Try.prog 16:=⟨_,f16,rfl,rfl⟩
theorem b17:aO Try.prog 17:=⟨_,f17,rfl,rfl⟩
theorem b18:aO Try.prog 18:=⟨_,f18,rfl,rfl⟩
theorem b19:aO Try.prog 19:=⟨_,f19,rfl,rfl⟩
theorem b20:aO Try.prog 20:=⟨_,f20,rfl,rfl⟩
theorem b21:aO Try.prog 21:=⟨_,f21,rfl,rfl⟩
theorem b22:aO Try.prog 22:=⟨_,f22,rfl,rfl⟩
theorem b23:aO Try.prog 23:=⟨_,f23,rfl,rfl⟩
theorem b24:aO Try.prog 24:=⟨_,f24,rfl,rfl⟩
theorem b25:aO Try.prog 25:=⟨_,f25,rfl,rfl⟩
theorem b26:aO Try.prog 26:=⟨_,f26,rfl,rfl⟩
theorem b27:aO Try.prog 27:=⟨_,f27,rfl,rfl⟩
theorem b28:aO Try.prog 28:=⟨_,f28,rfl,rfl⟩
theorem b32:aO Try.prog 32:=⟨_,f32,rfl,rfl⟩
theorem b37:aO Try.prog 37:=⟨_,f37,rfl,rfl⟩
theorem b38:aO Try.prog 38:=⟨_,f38,rfl,rfl⟩
theorem b39:aO Try.prog 39:=⟨_,f39,rfl,rfl⟩
theorem b40:aO Try.prog 40:=⟨_,f40,rfl,rfl⟩
theorem b41:aO Try.prog 41:=⟨_,f41,rfl,rfl⟩
theorem b54:aO Try.prog 54:=⟨_,f54,rfl,rfl⟩
theorem b57:aO Try.prog 57:=⟨_,f57,rfl,rfl⟩
theorem b58:aO Try.prog 58:=⟨_,f58,rfl,rfl⟩
theorem b59:aO Try.prog 59:=⟨_,f59,rfl,rfl⟩
theorem b60:aO Try.prog 60:=⟨_,f60,rfl,rfl⟩
theorem b64:aO Try.prog 64:=⟨_,f64,rfl,rfl⟩
theorem b65:aO Try.prog 65:=⟨_,f65,rfl,rfl⟩
theorem b66:aO Try.prog 66:=⟨_,f66,rfl,rfl⟩
theorem b67:aO Try.prog 67:=⟨_,f67,rfl,rfl⟩
theorem b68:aO Try.prog 68:=⟨_,f68,rfl,rfl⟩
theorem b69:aO Try.prog 69:=⟨_,f69,rfl,rfl⟩
theorem b70:aO Try.prog 70:=⟨_,f70,rfl,rfl⟩
theorem b71:aO Try.prog 71:=⟨_,f71,rfl,rfl⟩
theorem b72:aO Try.prog 72:=⟨_,f72,rfl,rfl⟩
theorem b73:aO Try.prog 73:=⟨_,f73,rfl,rfl⟩
theorem b74:aO Try.prog 74:=⟨_,f74,rfl,rfl⟩
theorem b75:aO Try.prog 75:=⟨_,f75,rfl,rfl⟩
theorem b76:aO Try.prog 76:=⟨_,f76,rfl,rfl⟩
theorem b77:aO Try.prog 77:=⟨_,f77,rfl,rfl⟩
theorem b78:aO Try.prog 78:=⟨_,f78,rfl,rfl⟩
theorem b82:aO Try.prog 82:=⟨_,f82,rfl,rfl⟩
theorem b93:aO Try.prog 93:=⟨_,f93,rfl,rfl⟩
theorem b94:aO Try.prog 94:=⟨_,f94,rfl,rfl⟩
theorem b95:aO Try.prog 95:=⟨_,f95,rfl,rfl⟩
theorem b96:aO Try.prog 96:=⟨_,f96,rfl,rfl⟩
theorem b97:aO Try.prog 97:=⟨_,f97,rfl,rfl⟩
theorem b99:aO Try.prog 99:=⟨_,f99,rfl,rfl⟩
attribute [go_sem] mD tX rnBy rnOf lj rF rnByD du aJ wb cH ft eC bq ae dD aB lZ acells gN plain iz Du fu ze evUn dH bU oT Ay ed aF gF oQ gz nN setAll one iV qM Option.map_some Option.map_none Option.bind_some Option.bind_none if_true if_false List.length_cons List.length_nil List.cons_append List.nil_append EH List.getElem?_cons_zero List.getElem?_cons_succ Fv Gy bF aq at_zero lF g9 bV len_app EX List.all_cons List.all_nil fg kh eql77 eql51 neq51 eql39 eql79 eql4 eql22 eql22n eql30 eql30n ix38 ix39 CC CM sF bd136_0 vi bd24_ bd24_0 bd29_ bd29_0 bd32_0_1 bd32_1 bd35_0 yf bd39_ x9 bd51_0 bd51_0_1 bd62_0 bd73_0_1 bd73_1 bd75_0 bd77_0 bd77_0_1 xP bd79_0_4 bd92_0 fa101_0 fa101_1 fa101_2 fa101_3 fa103_0 fa103_1 fa107_0 fa107_1 fa107_2 fa107_3 fa109_0 fa109_1 fa109_2 fa109_3 fa109_4 fa136_0 fa159_0 fa159_1 fa159_2 fa159_3 fa24_0 fa29_0 fa29_1 fa29_2 fa32_0 fa32_1 fa35_0 fa35_1 fa35_2 fa51_0 fa51_1 fa62_0 fa64_0 fa64_1 fa64_2 fa73_0 fa73_1 fa75_0 fa77_0 fa77_1 fa79_0 fa79_1 fa79_2 fa79_3 fa79_4 fa79_5 fa92_0 fd24_0 Bo fd77_1 ia113 ia114 ia151 ia22 ia25 ia26 ia27 ia30 ia33 ia38 ia39 ia52 ia90 ia97 ia98 ia99 ld101 ld103 ld104 ld109 ld159 ld22 ld24 ld25 ld26 ld27 ld29 ld3 ld30 ld32 ld33 ld35 ld36 ld38 ld39 ld4 ld51 ld52 ld64 ld70 ld73 ld77 ld79 ld97 ld98 ld99 ln114 ln151 ln22 ln25 ln26 ln27 ln30 ln33 ln97 ln98 ln99 size101 size103 size107 size109 size159 size22 size24 size26 size27 size29 wP size30 size32 size35 size36 size39 size4 size51 size52 size64 size73 size75 size77 size79 size92 size97 size98 zero101 zero103 zero107 zero109 zero159 zero24 zero29 zero3 zero30 zero32 zero35 zero36 zero39 zero51 zero52 zero64 zero73 zero75 zero77 zero79 zero90 zero92
end Go.Proofs.Ytjcomcgpjjianaa
