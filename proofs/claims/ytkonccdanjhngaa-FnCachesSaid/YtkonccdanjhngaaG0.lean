/- The kinds of values that the walks speak of. -/
import Derived.Lib.SliceRun
import Derived.Test.YtkonccdanjhngaaProg
import Derived.Below
import Derived.Deep.Draws
import Derived.Deep.AppendLies
import Derived.Maps.AppendAt
import Derived.OwnWalk
import Derived.Laws.BytesArg
import Derived.Laws.MakeOwn
import Derived.Laws.OwnMore
import Derived.Deep.OwnRows
import Derived.Tactics
import Derived.Lib.ConvBytes
import Derived.Laws.Slices
import Derived.WalkKit
import Derived.KernelRfl
import Derived.RowKit3
import Derived.Deep.LoopGhost
import Derived.Deep.QuietTactic
import Derived.BigQuiet
import Derived.WideLaws
import Derived.Deep.DeepCutAuto
import Derived.Deep.CutBlock
import Derived.Deep.RegionHeld3
import Derived.Laws.Rows
import Derived.Lib.AppendStr
import Derived.ArgAppend
import Derived.Laws.IdiomCopy
import Derived.OrdersHeld
import Derived.Laws.BitsLemmas
import Derived.RowKit
import Derived.Test.YtkonccdanjhngaaWWords
import Derived.Test.YtkonccdanjhngaaWLast
import Derived.Test.YtkonccdanjhngaaWTab
import Derived.Test.YtkonccdanjhngaaWFour
import Derived.Test.YtkonccdanjhngaaWQPut
import Derived.Test.YtkonccdanjhngaaWApart
import Derived.Test.YtkonccdanjhngaaWArr
import Derived.Test.YtkonccdanjhngaaWZeros
import Derived.Test.YtkonccdanjhngaaWFoot
import Derived.Test.YtkonccdanjhngaaWKept
import Derived.Test.YtkonccdanjhngaaWShare
import Derived.Test.YtkonccdanjhngaaWN
import Derived.Test.YtkonccdanjhngaaWFootNe
import Derived.Test.YtkonccdanjhngaaWAt
import Derived.Test.YtkonccdanjhngaaWEqStruct
import Derived.Test.YtkonccdanjhngaaWRepsOne
import Derived.Test.YtkonccdanjhngaaWInv
import Derived.Test.YtkonccdanjhngaaWInvWords
import Derived.Test.YtkonccdanjhngaaWGuard
import Derived.Test.YtkonccdanjhngaaWNEv
import Derived.Test.YtkonccdanjhngaaWMore
import Derived.Test.YtkonccdanjhngaaZipC
namespace Go.Proofs.Ytkonccdanjhngaa.Q
open Go.RowKit Go.Proofs.YtkonccdanjhngaaW.PrintWords Go.Proofs.YtkonccdanjhngaaW.PrintLast Go.Proofs.YtkonccdanjhngaaW.PrintMore Go.Proofs.YtkonccdanjhngaaW.Zip Go.Proofs.YtkonccdanjhngaaW.PrintWords.Kd
attribute [local go_sem] q5w q5u q6t q6s q5j q5i q5v q5t   -- for this text's walks alone
set_option linter.unusedVariables false
set_option maxHeartbeats 8000000
set_option maxRecDepth 100000
set_option linter.unusedSimpArgs false



def errW:Option Int→Value
  |none=>.nilIface
  |some c=>.iface 0 (.int .i64 c)
theorem q1o:errW none=.nilIface:=rfl
theorem q1n (c:Int):errW (some c)=.iface 0 (.int .i64 c):=rfl

theorem info3:(Try.prog.info? 3).map (fun i=>(i.zero,i.size,i.bytes))=some (some (.int .i64 0),1,8):=by kernel_rfl
theorem q9a:(Try.prog.info? 4).map (fun i=>(i.zero,i.size,i.bytes))=some (some (.bool false),1,1):=by kernel_rfl
theorem q8m:(Try.prog.info? 59).map (fun i=>(i.zero,i.size,i.bytes))=some (some (.agg #[(.int .i64 0),(.int .i64 0)]),2,16):=by kernel_rfl
theorem info95:(Try.prog.info? 95).map (fun i=>(i.zero,i.size,i.bytes))=some (some (.agg #[(.int .i64 0),(.int .i64 0),(.int .i64 0),(.bool false)]),4,32):=by kernel_rfl
-- the values' own types
/-! #### struct type 59 -/
structure S59 where
  f0:Int
  f1:Int
def z59:S59:=⟨(0:Int),(0:Int)⟩
def k59:Kd S59:=Kd.iso (Kd.pair (Kd.int .i64) (Kd.int .i64)) (fun x:S59=>(x.f0,x.f1))
theorem k59_open {w:World} {x:S59} {cs:List Value} (h:k59.K w x cs):cs=[.int .i64 x.f0,.int .i64 x.f1]:=by
 obtain⟨_,_,rfl,rfl,rfl⟩:=h
 exact rfl
theorem q7l {w:World} {base:Nat} {ok:Nat→Prop} {x:S59} {cs:List Value} (h:k59.M w base ok x cs):cs=[.int .i64 x.f0,.int .i64 x.f1]:=by
 obtain⟨_,_,rfl,rfl,rfl⟩:=h
 exact rfl
theorem k59_mk (w:World) (x:S59)  : k59.K w x [.int .i64 x.f0,.int .i64 x.f1]:=⟨[.int .i64 x.f0],[.int .i64 x.f1],rfl,rfl,rfl⟩
theorem q7m (w:World) (base:Nat) (ok:Nat→Prop) (x:S59)  : k59.M w base ok x [.int .i64 x.f0,.int .i64 x.f1]:=⟨[.int .i64 x.f0],[.int .i64 x.f1],rfl,rfl,rfl⟩
def q0e (xs:List S59) (i:Int):S59:=xs.getD i.toNat z59
theorem q5x {w:World} {A:Option Addr} {n:Nat} {xs:List S59} (h:Kd.C k59 w A n xs) (i:Int) (h0:0≤i) (h1:i<n):∃ ad ,A=some ad∧w.cell? (ad.add (i.toNat * 2))=some (.int .i64 (q0e xs i).f0)∧w.cell? ⟨(ad.add (i.toNat * 2)).block,(ad.add (i.toNat * 2)).off+1,none⟩=some (.int .i64 (q0e xs i).f1):=by
 obtain⟨ad,c,e,_,hK,hc0⟩:=C_get h z59 i h0 h1
 have hc:∀ j u,c[j]?=some u→w.cell? (ad.add (i.toNat * 2+j))=some u:=hc0
 obtain rfl:=k59_open hK
 exact⟨ad,e,hc 0 _ rfl,by rw[←q9m _ _ 1 (by omega)];exact hc 1 _ rfl⟩

/-! #### struct type 95 -/
structure S95 where
  f0:Int
  f1:Int
  f2:Int
  f3:Bool
def z95:S95:=⟨(0:Int),(0:Int),(0:Int),false⟩
def k95:Kd S95:=Kd.iso (Kd.pair (Kd.int .i64) (Kd.pair (Kd.int .i64) (Kd.pair (Kd.int .i64) Kd.bool))) (fun x:S95=>(x.f0,x.f1,x.f2,x.f3))
theorem k95_open {w:World} {x:S95} {cs:List Value} (h:k95.K w x cs):cs=[.int .i64 x.f0,.int .i64 x.f1,.int .i64 x.f2,.bool x.f3]:=by
 obtain⟨_,_,rfl,rfl,⟨_,_,rfl,rfl,⟨_,_,rfl,rfl,rfl⟩⟩⟩:=h
 exact rfl
theorem k95_openM {w:World} {base:Nat} {ok:Nat→Prop} {x:S95} {cs:List Value} (h:k95.M w base ok x cs):cs=[.int .i64 x.f0,.int .i64 x.f1,.int .i64 x.f2,.bool x.f3]:=by
 obtain⟨_,_,rfl,rfl,⟨_,_,rfl,rfl,⟨_,_,rfl,rfl,rfl⟩⟩⟩:=h
 exact rfl
theorem k95_mk (w:World) (x:S95)  : k95.K w x [.int .i64 x.f0,.int .i64 x.f1,.int .i64 x.f2,.bool x.f3]:=⟨[.int .i64 x.f0],[.int .i64 x.f1,.int .i64 x.f2,.bool x.f3],rfl,rfl,⟨[.int .i64 x.f1],[.int .i64 x.f2,.bool x.f3],rfl,rfl,⟨[.int .i64 x.f2],[.bool x.f3],rfl,rfl,rfl⟩⟩⟩
theorem k95_mkM (w:World) (base:Nat) (ok:Nat→Prop) (x:S95)  : k95.M w base ok x [.int .i64 x.f0,.int .i64 x.f1,.int .i64 x.f2,.bool x.f3]:=⟨[.int .i64 x.f0],[.int .i64 x.f1,.int .i64 x.f2,.bool x.f3],rfl,rfl,⟨[.int .i64 x.f1],[.int .i64 x.f2,.bool x.f3],rfl,rfl,⟨[.int .i64 x.f2],[.bool x.f3],rfl,rfl,rfl⟩⟩⟩
def q0n (xs:List S95) (i:Int):S95:=xs.getD i.toNat z95
theorem q7o {w:World} {A:Option Addr} {n:Nat} {xs:List S95} (h:Kd.C k95 w A n xs) (i:Int) (h0:0≤i) (h1:i<n):∃ ad ,A=some ad∧w.cell? (ad.add (i.toNat * 4))=some (.int .i64 (q0n xs i).f0)∧w.cell? ⟨(ad.add (i.toNat * 4)).block,(ad.add (i.toNat * 4)).off+1,none⟩=some (.int .i64 (q0n xs i).f1)∧w.cell? ⟨(ad.add (i.toNat * 4)).block,(ad.add (i.toNat * 4)).off+2,none⟩=some (.int .i64 (q0n xs i).f2)∧w.cell? ⟨(ad.add (i.toNat * 4)).block,(ad.add (i.toNat * 4)).off+3,none⟩=some (.bool (q0n xs i).f3):=by
 obtain⟨ad,c,e,_,hK,hc0⟩:=C_get h z95 i h0 h1
 have hc:∀ j u,c[j]?=some u→w.cell? (ad.add (i.toNat * 4+j))=some u:=hc0
 obtain rfl:=k95_open hK
 exact⟨ad,e,hc 0 _ rfl,by rw[←q9m _ _ 1 (by omega)];exact hc 1 _ rfl,by rw[←q9m _ _ 2 (by omega)];exact hc 2 _ rfl,by rw[←q9m _ _ 3 (by omega)];exact hc 3 _ rfl⟩


end Go.Proofs.Ytkonccdanjhngaa.Q
