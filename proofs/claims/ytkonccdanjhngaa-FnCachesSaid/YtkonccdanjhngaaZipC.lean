/- Small theorems that the walks name often. For every program; no further condition. -/
import Derived.Test.YtkonccdanjhngaaZip
namespace Go.Proofs.YtkonccdanjhngaaW.Zip
open Go.RowKit Go.Proofs.YtkonccdanjhngaaW.PrintWords Go.Proofs.YtkonccdanjhngaaW.PrintLast Go.Proofs.YtkonccdanjhngaaW.PrintMore
set_option linter.unusedVariables false
theorem zC {w w':World} {p:Addr} {v:Value} (b:q0a (Below w.heap.size w w')) (h:w.cell? p=some v):w'.cell? p=some v:=(b.out.cell (World.block_lt_of_cell? w _ h)).trans h
theorem zB {α β:Type} {x:Option α} {f:α→Option β} {r:β} (h:x.bind f=some r):∃ t,q0a (x=some t)∧f t=some r:=by
  obtain⟨t,h1,h2⟩:=Option.bind_eq_some_iff.mp h
  exact⟨t,⟨h1⟩,h2⟩
theorem q5b {α:Type} {p:Prop} [d:Decidable p] {x:Option α} {r:α} (h:(if p then x else none)=some r):decide p=true∧x=some r:=⟨decide_eq_true (zif h).1,(zif h).2⟩
theorem q8c {α:Type} {p:Prop} [d:Decidable p] {x:Option α} {r:α} (h:(if p then x else none)=some r):q0a p∧x=some r:=⟨⟨(zif h).1⟩,(zif h).2⟩
theorem zE {p:Prop} (h:p:=by first|rfl|(simp[q1o,q1n] <;> rfl)|(simp[*,q1o,q1n] <;> rfl)):p:=h
theorem zY {α:Type} {y e:α} {P Q:Prop} (hy:y=e) (H:P) (h:y=e→P→Q:=by intro hy H;first|(rw[hy];with_reducible exact H)|(have H2_:=(Option.bind_some _ _).symm.trans H;rw[hy];with_reducible exact H2_)|(have H2_:=(Option.bind_some _ _).symm.trans H;with_reducible exact H2_)|with_reducible exact H|(rw[hy];exact H)|exact H):Q:=h hy H
theorem zW {p:Prop} (h:p:=by simp only[Act.put,List.setIfInBounds_toArray,List.set_cons_zero,List.set_cons_succ,q2n,q3a];rfl):p:=h
theorem zV {p:Prop} (h:p:=by show Act.put _ (some _) _=_;simp only[Act.put,List.setIfInBounds_toArray,List.set_cons_zero,List.set_cons_succ,q2n,q3a];rfl):p:=h
theorem zI {α:Type} {a b:α} (h:some a=some b):a=b:=Option.some.inj h
theorem zNo:¬ (false=true):=by decide
theorem zA {p:Prop} (h:p):q0a p:=⟨h⟩
theorem zT (p:Prop) [Decidable p] (h:decide p=true:=by first|(with_reducible assumption)|assumption):p=True:=eq_true (of_decide_eq_true h)
theorem zlh {W w1 w2:World} {g g1:Nat} {o:Obj} (x:q0a (W.heap[g]?=some o)) (hg:g1=w1.heap.size) (hb:Below w1.heap.size w1 w2) (h:W.heap[g]?=some o→w1.heap[g]?=some o:=by intro hx_;(with_reducible repeat (first|refine q3m ?_ _|refine q3w ?_|refine q3b ?_ _));exact hx_):q0a (g≠g1)∧q0a (g1≠g)∧q0a (w2.heap[g]?=some o):=⟨zla x hg h,zha x hg h,zkb x hb h⟩
theorem zgr {W w1 w2:World} {g:Nat} {o:Obj} {row:Option Nat} (x:q0a (W.heap[g]?=some o)) (hg:w1.grownBy w2 row) (hne:some g≠row) (h:W.heap[g]?=some o→w1.heap[g]?=some o:=by intro hx_;(with_reducible repeat (first|refine q3m ?_ _|refine q3w ?_|refine q3b ?_ _));exact hx_):q0a (w2.heap[g]?=some o):=⟨q4r (h x.out) hg hne⟩
theorem zbf {W w1 w2:World} {g:Nat} {o:Obj} (x:q0a (W.heap[g]?=some o)) (hb:Below w1.heap.size w1 w2) (h:W.heap[g]?=some o→w1.heap[g]?=some o:=by intro hx_;(with_reducible repeat (first|refine q3m ?_ _|refine q3w ?_|refine q3b ?_ _|refine q8q ?_ (q0a.out (by assumption)) _));exact hx_):q0a (w2.heap[g]?=some o):=⟨q1f (h x.out) hb⟩
theorem ze2 {w:World} {g:Nat} {t:TypeId} {c0 c1:Value} (b:q0a (w.heap[g]?=some (.cells #[c0,c1] t (0,0)))):w.cell? ⟨g,0,none⟩=some c0∧w.cell? ⟨g,1,none⟩=some c1∧w.frozen? ⟨g,0,none⟩=false∧w.frozen? ⟨g,1,none⟩=false:=by
  obtain⟨x0,x1⟩:=zc2 b;obtain⟨y0,y1⟩:=zf2 b;exact⟨x0,x1,y0,y1⟩
theorem ze3 {w:World} {g:Nat} {t:TypeId} {c0 c1 c2:Value} (b:q0a (w.heap[g]?=some (.cells #[c0,c1,c2] t (0,0)))):w.cell? ⟨g,0,none⟩=some c0∧w.cell? ⟨g,1,none⟩=some c1∧w.cell? ⟨g,2,none⟩=some c2∧w.frozen? ⟨g,0,none⟩=false∧w.frozen? ⟨g,1,none⟩=false∧w.frozen? ⟨g,2,none⟩=false:=by
  obtain⟨x0,x1,x2⟩:=zc3 b;obtain⟨y0,y1,y2⟩:=zf3 b;exact⟨x0,x1,x2,y0,y1,y2⟩
theorem ze4 {w:World} {g:Nat} {t:TypeId} {c0 c1 c2 c3:Value} (b:q0a (w.heap[g]?=some (.cells #[c0,c1,c2,c3] t (0,0)))):w.cell? ⟨g,0,none⟩=some c0∧w.cell? ⟨g,1,none⟩=some c1∧w.cell? ⟨g,2,none⟩=some c2∧w.cell? ⟨g,3,none⟩=some c3∧w.frozen? ⟨g,0,none⟩=false∧w.frozen? ⟨g,1,none⟩=false∧w.frozen? ⟨g,2,none⟩=false∧w.frozen? ⟨g,3,none⟩=false:=by
  obtain⟨x0,x1,x2,x3⟩:=zc4 b;obtain⟨y0,y1,y2,y3⟩:=zf4 b;exact⟨x0,x1,x2,x3,y0,y1,y2,y3⟩
section
variable {P:Program} {ops:Array Oper} {o:Oper} {rest:List Oper} {a:Act} {Q:Exit→Act→World→Prop} {W:World}
theorem zgd (N:Tmp) (_hN:o.dst=some N) (h:wpList P ops Q (o :: rest) a W):wpList P ops Q (o :: rest) a W:=h
theorem zgf (f:FuncId) {as:Array Operand} {ts:Array TypeId} (_ho:o.op=.call { callee:=.value (.func f),args:=as,argTypes:=ts }) (h:wpList P ops Q (o :: rest) a W):wpList P ops Q (o :: rest) a W:=h
end
theorem z_o {α:Type} {d:Kd α} {e base:Nat} {ok ok':Nat→Prop} {w W:World} {v:Value} {xs:List α} (x:q0a (d.R e w base ok v xs)) (hk:∀ k,ok k→ok' k) (h:d.R e w base ok v xs→d.R e W base ok v xs:=by intro hx_;(with_reducible repeat (first|apply Kd.q4k|apply Kd.q4g|apply Kd.q5a));exact hx_):d.R e W base ok' v xs:=Kd.q2s (h x.out) hk
theorem z_t {α:Type} {d:Kd α} {e base:Nat} {ok:Nat→Prop} {w W:World} {v:Value} {xs:List α} (x:q0a (d.R e w base ok v xs)) (h:d.R e w base ok v xs→d.R e W base ok v xs:=by intro hx_;(with_reducible repeat (first|apply Kd.q4k|apply Kd.q4g|apply Kd.q5a));exact hx_):d.R e W base (fun _=>True) v xs:=Kd.q2s (h x.out) (fun _ _=>trivial)
theorem z_2 {α:Type} {d:Kd α} {e base:Nat} {p ok':Nat→Prop} {w W:World} {v:Value} {xs:List α} (x:q0a (d.R e w base (fun k=>p k∧ok' k) v xs)) (h:d.R e w base (fun k=>p k∧ok' k) v xs→d.R e W base (fun k=>p k∧ok' k) v xs:=by intro hx_;(with_reducible repeat (first|apply Kd.q4k|apply Kd.q4g|apply Kd.q5a));exact hx_):d.R e W base ok' v xs:=Kd.q2s (h x.out) (fun _ hk=>hk.2)
theorem z_V {q p:Prop} (x:q0a q) (h:q→p:=by intro hx_;(with_reducible repeat (first|apply Kd.V_alloc|apply Kd.V_drewN|apply Kd.V_drew));exact hx_):p:=h x.out
theorem z_L:(∀ (l:List Value) (i:Nat) (x:Value),l.toArray.setIfInBounds i x=(l.set i x).toArray)∧(∀ (a b:Value) (l:List Value),(a::l).set 0 b=b::l)∧(∀ (a b:Value) (l:List Value) (n:Nat),(a::l).set (n+1) b=a::l.set n b):=⟨fun _ _ _=>List.setIfInBounds_toArray .. ,fun _ _ _=>rfl,fun _ _ _ _=>rfl⟩
theorem z_p {P:Program} {ops:Array Oper} {Q:Exit→Act→World→Prop} {S:World→Prop} {ds:List Nat} {T:Bool × List (List Nat × List Nat)} {fuel:Nat} {l:Array Bool} {a:Act} {w:World} (i:Nat) {N:Tmp} {oi:Oper} {v:Value} {a':Act} (h:q1l P .any ops Q S ds fuel (l.setIfInBounds i true) a' w) (HT:q0a (q6q .any ops=T):=by assumption) (hi:ops[i]?=some oi:=by rfl) (hN:oi.dst=some N:=by rfl) (hc:anyT T l.toList (l.setIfInBounds i true).toList i=true:=by kernel_rfl) (hw:Region.wanted oi (yielded ops a.tmps)=true:=by rfl) (hy:∀ w',(execOp a.eval oi).run P w'=.ok (.value v) w':=by intro w';go_simp;with_reducible rfl) (hQ:∀ c a w,Q (.panic c) (a.put oi.dst v) w→Q (.panic c) a w:=by exact fun _ _ _ h=>h) (ha:a.put (some N) v=a':=by simp only[Act.put,List.setIfInBounds_toArray,List.set_cons_zero,List.set_cons_succ,q2n,q3a];rfl):q1l P .any ops Q S ds (fuel+1) l a w:=zp i N HT h hi hN hc hw hy hQ ha
theorem z_u {P:Program} {ops:Array Oper} {Q:Exit→Act→World→Prop} {S:World→Prop} {ds:List Nat} {T:Bool × List (List Nat × List Nat)} {fuel:Nat} {l:Array Bool} {a:Act} {w:World} (i:Nat) {N:Tmp} {oi:Oper} {a':Act} (h:q1l P .any ops Q S ds fuel (l.setIfInBounds i true) a' w) (HT:q0a (q6q .any ops=T):=by assumption) (hi:ops[i]?=some oi:=by rfl) (hN:oi.dst=some N:=by rfl) (hc:anyT T l.toList (l.setIfInBounds i true).toList i=true:=by kernel_rfl) (hw:Region.wanted oi (yielded ops a.tmps)=false:=by rfl) (hQ:∀ c a w,Q (.panic c) (a.put oi.dst undef) w→Q (.panic c) a w:=by exact fun _ _ _ h=>h) (ha:a.put (some N) undef=a':=by simp only[Act.put,List.setIfInBounds_toArray,List.set_cons_zero,List.set_cons_succ,q2n,q3a];rfl):q1l P .any ops Q S ds (fuel+1) l a w:=zu i N HT h hi hN hc hw hQ ha
theorem z_e {α:Type} {d:Kd α} {e base:Nat} {ok:Nat→Prop} {W0 W w1:World} {v:Value} {xs:List α} (x:q0a (d.R e W0 base ok v xs)) {β:Type} {d2:Kd β} {e2:Nat} {ok2:Nat→Prop} {u:Value} {ys:List β} (ho:d2.R e2 w1 W.heap.size ok2 u ys) (hb:Below W.heap.size W w1) (h:d.R e W0 base ok v xs→d.R e W base ok v xs:=by intro hx_;(with_reducible repeat (first|apply Kd.q4k|apply Kd.q4g|apply Kd.q5a));exact hx_):q0a (d.R e w1 base (fun k=>ok k∧some k≠u.ownBlock) v xs):=⟨Kd.q4n (h x.out) (Kd.q5f ho) hb⟩
theorem q4h {w:World} {g:Nat} {o:Obj} (x:q0a (w.heap[g]?=some o)):q0a (w.drew.heap[g]?=some o):=⟨q3w x.out⟩
theorem z_d {α:Type} {d:Kd α} {e base:Nat} {ok:Nat→Prop} {w:World} {v:Value} {xs:List α} (x:q0a (d.R e w base ok v xs)):q0a (d.R e w.drew base ok v xs):=⟨Kd.q5a x.out⟩
theorem z_b {base:Nat} {w W:World} (x:q0a (Below base w W)):q0a (Below base w W.drew):=⟨q5q x.out⟩
theorem z_q {α:Type} {d:Kd α} {e base:Nat} {ok:Nat→Prop} {W0 W w1:World} {v:Value} {xs:List α} (x:q0a (d.Q e W0 base ok v xs)) (hb:Below W.heap.size W w1) (h:d.Q e W0 base ok v xs→d.Q e W base ok v xs:=by intro hx_;(with_reducible repeat (first|apply Kd.q8t|apply Kd.q8s|apply Kd.q7e));exact hx_):q0a (d.Q e w1 base ok v xs):=⟨Kd.q8a (h x.out) hb⟩
theorem z_kt {w w1 w2:World} {g:Nat} {row:Option Nat} (h:q0d w w1 g row) (k:q0d w1 w2 g row):q0a (q0d w w2 g row):=⟨q0d.trans h k (.inl rfl)⟩
theorem z_kb {w w1 w2:World} {g:Nat} (h:q0d w w1 g none) (hb:Below w1.heap.size w1 w2):q0a (q0d w w2 g none):=⟨q0d.trans h (q0d.of_below hb g none) (.inl rfl)⟩
theorem z_n {base:Nat} {W0 W w1:World} {β:Type} {d2:Kd β} {e2:Nat} {ok2:Nat→Prop} {u:Value} {ys:List β} {α:Type} {d:Kd α} {e:Nat} {ok:Nat→Prop} {v:Value} {xs:List α} (ho:d2.R e2 w1 W.heap.size ok2 u ys) (x:q0a (d.R e W0 base ok v xs)) (h:d.R e W0 base ok v xs→d.R e W base ok v xs:=by intro hx_;(with_reducible repeat (first|apply Kd.q4k|apply Kd.q4g|apply Kd.q5a));exact hx_):d2.R e2 w1 W.heap.size (fun k=>ok2 k∧some k≠v.ownBlock) u ys:=Kd.q5y ho (Kd.q7f (h x.out))
theorem z_l {α:Type} {d:Kd α} {e B base:Nat} {ok:Nat→Prop} {w:World} {v:Value} {xs:List α} (ho:d.R e w B ok v xs) (h:base≤B:=by exact q0f zb):q0a (d.R e w base ok v xs):=⟨Kd.q3f ho h⟩
end Go.Proofs.YtkonccdanjhngaaW.Zip
