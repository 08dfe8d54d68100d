import Derived.Test.YtjcomcgpjjianaaA19
import Derived.Test.YtjcomcgpjjianaaA35
set_option linter.all false
set_option maxHeartbeats 16000000
set_option maxRecDepth 8000
open Go.Value renaming int→O
open Go.IntKind renaming i64→U
namespace Go.Proofs.Ytjcomcgpjjianaa
open Go.Ev
theorem sane_run:xD (oI Try.prog pJ sv mdT 1000000 60 11 [] .nil 0)=true:=by kernel_rfl
theorem sane_ok(H:AH):AC Try.prog 11 [] H (.val (.bool true) H):=by
 obtain⟨h,e⟩:=Cl sane_run
 have:=(yE 11 [] .nil 0 false (.bool true) h e).2.1
 exact AC.Ej rfl this H
end Go.Proofs.Ytjcomcgpjjianaa
