/- The kinds of values that the walks speak of. -/
import Derived.Lib.SliceRun
import Derived.Test.YtebfggdbmgegeaaProg
import Derived.Below
import Derived.Deep.Draws
import Derived.Deep.AppendLies
import Derived.Maps.AppendAt
import Derived.OwnWalk
import Derived.Laws.BytesArg
import Derived.Laws.MakeOwn
import Derived.Laws.OwnMore
import Derived.Deep.OwnRows
import Derived.Tactics
import Derived.Lib.ConvBytes
import Derived.Laws.Slices
import Derived.WalkKit
import Derived.KernelRfl
import Derived.RowKit3
import Derived.Deep.LoopGhost
import Derived.Deep.QuietTactic
import Derived.BigQuiet
import Derived.WideLaws
import Derived.Deep.DeepCutAuto
import Derived.Deep.CutBlock
import Derived.Deep.RegionHeld3
import Derived.Laws.Rows
import Derived.Lib.AppendStr
import Derived.ArgAppend
import Derived.Laws.IdiomCopy
import Derived.OrdersHeld
import Derived.Laws.BitsLemmas
import Derived.RowKit
import Derived.Test.YtebfggdbmgegeaaWWords
import Derived.Test.YtebfggdbmgegeaaWLast
import Derived.Test.YtebfggdbmgegeaaWTab
import Derived.Test.YtebfggdbmgegeaaWFour
import Derived.Test.YtebfggdbmgegeaaWQPut
import Derived.Test.YtebfggdbmgegeaaWApart
import Derived.Test.YtebfggdbmgegeaaWArr
import Derived.Test.YtebfggdbmgegeaaWZeros
import Derived.Test.YtebfggdbmgegeaaWFoot
import Derived.Test.YtebfggdbmgegeaaWKept
import Derived.Test.YtebfggdbmgegeaaWShare
import Derived.Test.YtebfggdbmgegeaaWN
import Derived.Test.YtebfggdbmgegeaaWFootNe
import Derived.Test.YtebfggdbmgegeaaWAt
import Derived.Test.YtebfggdbmgegeaaWEqStruct
import Derived.Test.YtebfggdbmgegeaaWRepsOne
import Derived.Test.YtebfggdbmgegeaaWInv
import Derived.Test.YtebfggdbmgegeaaWInvWords
import Derived.Test.YtebfggdbmgegeaaWGuard
import Derived.Test.YtebfggdbmgegeaaWNEv
import Derived.Test.YtebfggdbmgegeaaWMore
import Derived.Test.YtebfggdbmgegeaaZipC
namespace Go.Proofs.Ytebfggdbmgegeaa.Q
open Go.RowKit Go.Proofs.YtebfggdbmgegeaaW.PrintWords Go.Proofs.YtebfggdbmgegeaaW.PrintLast Go.Proofs.YtebfggdbmgegeaaW.PrintMore Go.Proofs.YtebfggdbmgegeaaW.Zip
attribute [local go_sem] max2_int min2_int max_two min_two max_three min_three max_four min_four   -- for this text's walks alone
set_option linter.unusedVariables false
set_option maxHeartbeats 8000000
set_option maxRecDepth 100000
set_option linter.unusedSimpArgs false



def errW:Option Int→Value
  |none=>.nilIface
  |some c=>.iface 0 (.int .i64 c)
theorem errW_none:errW none=.nilIface:=rfl
theorem errW_some (c:Int):errW (some c)=.iface 0 (.int .i64 c):=rfl

theorem info3:(Try.prog.info? 3).map (fun i=>(i.zero,i.size,i.bytes))=some (some (.int .i64 0),1,8):=by kernel_rfl
theorem info4:(Try.prog.info? 4).map (fun i=>(i.zero,i.size,i.bytes))=some (some (.bool false),1,1):=by kernel_rfl
theorem info46:(Try.prog.info? 46).map (fun i=>(i.zero,i.size,i.bytes))=some (some (.agg #[(.int .i64 0),(.int .i64 0),(.int .i64 0),(.bool false)]),4,32):=by kernel_rfl
-- the values' own types
/-! #### struct type 46 -/
structure S46 where
  f0:Int
  f1:Int
  f2:Int
  f3:Bool
def z46:S46:=⟨(0:Int),(0:Int),(0:Int),false⟩
def k46:Kd S46:=Kd.iso (Kd.pair (Kd.int .i64) (Kd.pair (Kd.int .i64) (Kd.pair (Kd.int .i64) Kd.bool))) (fun x:S46=>(x.f0,x.f1,x.f2,x.f3))
theorem k46_open {w:World} {x:S46} {cs:List Value} (h:k46.K w x cs):cs=[.int .i64 x.f0,.int .i64 x.f1,.int .i64 x.f2,.bool x.f3]:=by
 obtain⟨_,_,rfl,rfl,⟨_,_,rfl,rfl,⟨_,_,rfl,rfl,rfl⟩⟩⟩:=h
 exact rfl
theorem k46_openM {w:World} {base:Nat} {ok:Nat→Prop} {x:S46} {cs:List Value} (h:k46.M w base ok x cs):cs=[.int .i64 x.f0,.int .i64 x.f1,.int .i64 x.f2,.bool x.f3]:=by
 obtain⟨_,_,rfl,rfl,⟨_,_,rfl,rfl,⟨_,_,rfl,rfl,rfl⟩⟩⟩:=h
 exact rfl
theorem k46_mk (w:World) (x:S46)  : k46.K w x [.int .i64 x.f0,.int .i64 x.f1,.int .i64 x.f2,.bool x.f3]:=⟨[.int .i64 x.f0],[.int .i64 x.f1,.int .i64 x.f2,.bool x.f3],rfl,rfl,⟨[.int .i64 x.f1],[.int .i64 x.f2,.bool x.f3],rfl,rfl,⟨[.int .i64 x.f2],[.bool x.f3],rfl,rfl,rfl⟩⟩⟩
theorem k46_mkM (w:World) (base:Nat) (ok:Nat→Prop) (x:S46)  : k46.M w base ok x [.int .i64 x.f0,.int .i64 x.f1,.int .i64 x.f2,.bool x.f3]:=⟨[.int .i64 x.f0],[.int .i64 x.f1,.int .i64 x.f2,.bool x.f3],rfl,rfl,⟨[.int .i64 x.f1],[.int .i64 x.f2,.bool x.f3],rfl,rfl,⟨[.int .i64 x.f2],[.bool x.f3],rfl,rfl,rfl⟩⟩⟩
def rd_T46 (xs:List S46) (i:Int):S46:=xs.getD i.toNat z46
theorem at_T46 {w:World} {A:Option Addr} {n:Nat} {xs:List S46} (h:Kd.C k46 w A n xs) (i:Int) (h0:0≤i) (h1:i<n):∃ ad ,A=some ad∧w.cell? (ad.add (i.toNat * 4))=some (.int .i64 (rd_T46 xs i).f0)∧w.cell? ⟨(ad.add (i.toNat * 4)).block,(ad.add (i.toNat * 4)).off+1,none⟩=some (.int .i64 (rd_T46 xs i).f1)∧w.cell? ⟨(ad.add (i.toNat * 4)).block,(ad.add (i.toNat * 4)).off+2,none⟩=some (.int .i64 (rd_T46 xs i).f2)∧w.cell? ⟨(ad.add (i.toNat * 4)).block,(ad.add (i.toNat * 4)).off+3,none⟩=some (.bool (rd_T46 xs i).f3):=by
 obtain⟨ad,c,e,_,hK,hc0⟩:=Kd.C_get h z46 i h0 h1
 have hc:∀ j u,c[j]?=some u→w.cell? (ad.add (i.toNat * 4+j))=some u:=hc0
 obtain rfl:=k46_open hK
 exact⟨ad,e,hc 0 _ rfl,by rw[←add_field _ _ 1 (by omega)];exact hc 1 _ rfl,by rw[←add_field _ _ 2 (by omega)];exact hc 2 _ rfl,by rw[←add_field _ _ 3 (by omega)];exact hc 3 _ rfl⟩

theorem eqA46 (d:Nat) (w:World) (x0 y0:Int) (x1 y1:Int) (x2 y2:Int) (x3 y3:Bool) :
  (Op.equalIn (d+2) 46 (.agg #[.int .i64 x0,.int .i64 x1,.int .i64 x2,.bool x3]) (.agg #[.int .i64 y0,.int .i64 y1,.int .i64 y2,.bool y3])).run Try.prog w=.ok (x0==y0 && (x1==y1 && (x2==y2 && (x3==y3)))) w:=by
 refine eqA_of Try.underlying46 (by kernel_rfl) ?_
 refine eqf_cons (by rfl) (by go_simp;rfl) (by go_simp;rfl) (by go_simp) ?_
 refine eqf_cons (by rfl) (by go_simp;rfl) (by go_simp;rfl) (by go_simp) ?_
 refine eqf_cons (by rfl) (by go_simp;rfl) (by go_simp;rfl) (by go_simp) ?_
 exact eqf_last (by rfl) (by go_simp;rfl) (by go_simp;rfl) (by go_simp)
end Go.Proofs.Ytebfggdbmgegeaa.Q
