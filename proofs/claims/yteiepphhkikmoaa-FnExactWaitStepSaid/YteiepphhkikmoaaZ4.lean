/- Short words of this claim's walks. -/
import Derived.Test.YteiepphhkikmoaaZipC
namespace Go.Proofs.YteiepphhkikmoaaW.Zip
open Go.RowKit Go.Proofs.YteiepphhkikmoaaW.PrintWords Go.Proofs.YteiepphhkikmoaaW.PrintLast Go.Proofs.YteiepphhkikmoaaW.PrintMore
theorem zWm {q p:Prop} (x:Aside0 q) (h:q→p:=by intro hx_;first|((with_reducible repeat (first|apply Kd.R_alloc|apply Kd.R_drewN|apply Kd.R_drew));exact Kd.R_mono hx_ (fun k_ hk_=>by revert hk_;(try simp only[and_imp]);intros;(repeat' first|exact True.intro|assumption|apply And.intro)))|((with_reducible repeat (first|apply Kd.Q_alloc|apply Kd.Q_drewN|apply Kd.Q_drew));exact Kd.Q_mono hx_ (fun k_ hk_=>by revert hk_;(try simp only[and_imp]);intros;(repeat' first|exact True.intro|assumption|apply And.intro)))):p:=h x.out
theorem zHK {p:Prop} (h:p:=by repeat (first|(with_reducible first|exact HK.out|apply Kept.alloc|apply Kept.drewN|apply Kept.drew|refine Kept.setCell ?_ (.inr (Aside0.out (by assumption))) _)|exact HK.out)):p:=h
theorem zDr {p:Prop} (h:p:=by repeat (first|exact Drawn0.refl _|apply Drawn0.step)):p:=h
theorem z1 {α:Type} (l:List α) (i:Nat) (a:α):l.toArray.setIfInBounds i a=(l.set i a).toArray:=List.setIfInBounds_toArray l i a
theorem z2 {α:Type} {x b:α} {xs:List α}:(x :: xs).set 0 b=b :: xs:=List.set_cons_zero
theorem z3 {α:Type} {x b:α} {xs:List α} {n:Nat}:(x :: xs).set (n+1) b=x :: xs.set n b:=List.set_cons_succ
theorem zPA {p:Prop} (h:p:=by first|(simp only[putAll,Act.put,z1,z2,z3];done)|(simp only[putAll,Act.put,z1,z2,z3];rfl)):p:=h
instance:Coe Int Value:=⟨fun n=>.int .i64 n⟩
theorem zbq {b:Bool} (h:¬b=true):b=false:=Bool.eq_false_iff.mpr h
end Go.Proofs.YteiepphhkikmoaaW.Zip
