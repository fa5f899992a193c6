/- Words of the walks. For every program; no further condition. -/
import Derived.Test.YtkonccdanjhngaaWMore
import Derived.Test.YtkonccdanjhngaaWTab
namespace Go.Proofs.YtkonccdanjhngaaW.Zip
open Go.RowKit Go.Proofs.YtkonccdanjhngaaW.PrintWords Go.Proofs.YtkonccdanjhngaaW.PrintLast Go.Proofs.YtkonccdanjhngaaW.PrintMore
set_option linter.unusedVariables false
theorem zk {q p:Prop} (x:q0a q) (h:q→p:=by intro hx_;(with_reducible repeat (first|refine q3m ?_ _|refine q3w ?_|refine q3b ?_ _));exact hx_):p:=h x.out
theorem zkf {q p:Prop} (x:q0a q) (h:q→p:=by intro hx_;(with_reducible repeat (first|refine q3m ?_ _|refine q3w ?_|refine q3b ?_ _|refine q8q ?_ (q0a.out (by assumption)) _));exact hx_):p:=h x.out
theorem zkp {q p:Prop} (x:q0a q) (h:q→p:=by intro hx_;(with_reducible repeat (first|apply q3m|apply q3w|apply q3b|(apply q8q;case hp=>exact q0a.out (by assumption))|apply blk_put));exact hx_;all_goals (first|(simp only[List.setIfInBounds_toArray,List.set_cons_zero,List.set_cons_succ];done)|(simp only[List.setIfInBounds_toArray,List.set_cons_zero,List.set_cons_succ];rfl)|rfl)):p:=h x.out
theorem zkb {W w1 w2:World} {g:Nat} {o:Obj} (x:q0a (W.heap[g]?=some o)) (hb:Below w1.heap.size w1 w2) (h:W.heap[g]?=some o→w1.heap[g]?=some o:=by intro hx_;(with_reducible repeat (first|refine q3m ?_ _|refine q3w ?_|refine q3b ?_ _));exact hx_):q0a (w2.heap[g]?=some o):=⟨q1f (h x.out) hb⟩
theorem zR {q p:Prop} (x:q0a q) (h:q→p:=by intro hx_;(with_reducible repeat (first|apply Kd.q4k|apply Kd.q4g|apply Kd.q5a));exact hx_):p:=h x.out
theorem zQ {q p:Prop} (x:q0a q) (h:q→p:=by intro hx_;(with_reducible repeat (first|apply Kd.q8t|apply Kd.q8s|apply Kd.q7e));exact hx_):p:=h x.out
theorem zS {q p:Prop} (x:q0a q) (h:q→p:=by intro hx_;(with_reducible repeat (first|apply Kd.S_alloc|apply Kd.S_drewN|apply Kd.S_drew));exact hx_):p:=h x.out
theorem zN {q p:Prop} (x:q0a q) (h:q→p:=by intro hx_;(with_reducible repeat (first|apply Kd.N_alloc|apply Kd.N_drewN|apply Kd.N_drew));exact hx_):p:=h x.out
theorem zH {q p:Prop} (x:q0a q) (h:q→p:=by intro hx_;(with_reducible repeat (first|apply Kd.H_alloc|apply Kd.H_drewN|apply Kd.H_drew));exact hx_):p:=h x.out
theorem zM {q p:Prop} (x:q0a q) (h:q→p:=by intro hx_;(with_reducible repeat (first|apply Kd.M_alloc|apply Kd.M_drewN|apply Kd.M_drew));exact hx_):p:=h x.out
theorem zb {p:Prop} (h:p:=by repeat (first|(with_reducible first|exact HB.out|apply q3d|apply q2z|apply q5q|refine q3y ?_ (q0a.out (by assumption)))|exact HB.out)):p:=h
theorem zw {p:Prop} (h:p:=by repeat (first|(with_reducible first|exact HBW.out|apply q3d|apply q2z|apply q5q|refine q3y ?_ (q0a.out (by assumption)))|exact HBW.out)):p:=h
theorem zRb {α:Type} {d:Kd α} {e base:Nat} {ok:Nat→Prop} {W w1 w2:World} {v:Value} {xs:List α} (x:q0a (d.R e W base ok v xs)) (hb:Below w1.heap.size w1 w2) (h:d.R e W base ok v xs→d.R e w1 base ok v xs:=by intro hx_;(with_reducible repeat (first|apply Kd.q4k|apply Kd.q4g|apply Kd.q5a));exact hx_):q0a (d.R e w2 base ok v xs):=⟨Kd.q2r (h x.out) hb⟩
theorem zbs {w w1 w2:World} (hb:Below w1.heap.size w1 w2) (h:Below w.heap.size w w1:=by exact zb):q0a (Below w.heap.size w w2):=⟨q1b h hb⟩
theorem zga {w w1:World} {g:Nat} (hg:g=w1.heap.size) (h:Below w.heap.size w w1:=by exact zb):q0a (w.heap.size≤g):=⟨by rw[hg];exact q0f h⟩
theorem zla {W w1:World} {g g1:Nat} {o:Obj} (x:q0a (W.heap[g]?=some o)) (hg:g1=w1.heap.size) (h:W.heap[g]?=some o→w1.heap[g]?=some o:=by intro hx_;(with_reducible repeat (first|refine q3m ?_ _|refine q3w ?_|refine q3b ?_ _));exact hx_):q0a (g≠g1):=⟨by rw[hg];exact Nat.ne_of_lt (q9l (h x.out))⟩
theorem zha {W w1:World} {g g1:Nat} {o:Obj} (x:q0a (W.heap[g]?=some o)) (hg:g1=w1.heap.size) (h:W.heap[g]?=some o→w1.heap[g]?=some o:=by intro hx_;(with_reducible repeat (first|refine q3m ?_ _|refine q3w ?_|refine q3b ?_ _));exact hx_):q0a (g1≠g):=⟨by rw[hg];exact Nat.ne_of_gt (q9l (h x.out))⟩
theorem zif {α:Type} {p:Prop} [d:Decidable p] {x:Option α} {r:α} (h:(if p then x else none)=some r):p∧x=some r:=by
  by_cases c:p
  · rw[if_pos c] at h;exact⟨c,h⟩
  · rw[if_neg c] at h;cases h
theorem zd {p:Prop} [d:Decidable p] (h:decide p=true:=by first|(with_reducible assumption)|assumption):p:=of_decide_eq_true h
theorem zr {p:Prop} (h:p:=by first|rfl|(simp;done)|(simp[*];done)):p:=h
theorem zm {p:Prop} (h:p:=by(try simp only[List.map_toArray,List.map_cons,List.map_nil]);first|done|rfl|(simp only[List.length_drop,List.length_take];rfl)):p:=h
theorem zq {w:World} {g t:Nat} {cs:Array Value} {v:Value} (x:q0a (w.heap[g]?=some (.cells cs t (0,0)))) (i:Nat) (h:cs[i]?=some v:=by rfl):w.cell? ⟨g,i,none⟩=some v:=(q2t x.out i).trans h
inductive q2w (P:Nat→Prop) (w:World):World→Prop
  |refl:q2w P w w
  |set {W:World} (h:q2w P w W) {p:Addr} (hp:P p.block) (u:Value):q2w P w (W.setCell p u)
  |alloc {W:World} (h:q2w P w W) (o:Obj):q2w P w (W.alloc o)
  |drew {W:World} (h:q2w P w W):q2w P w W.drew
  |drewN {W:World} (h:q2w P w W) (n:Nat):q2w P w (W.drewN n)
section
variable {w W:World} {g g2 g3 j:Nat} {v:Value}
theorem q2w.s1 (h:q2w (fun k=>k=g) w W):q2w (fun k=>k=g) w (W.setCell ⟨g,j,none⟩ v):=.set h rfl _
theorem q2w.s2 (h:q2w (fun k=>k=g∨k=g2) w W):q2w (fun k=>k=g∨k=g2) w (W.setCell ⟨g,j,none⟩ v):=.set h (.inl rfl) _
theorem q2w.s2b (h:q2w (fun k=>k=g∨k=g2) w W):q2w (fun k=>k=g∨k=g2) w (W.setCell ⟨g2,j,none⟩ v):=.set h (.inr rfl) _
theorem q2w.s3 (h:q2w (fun k=>k=g∨k=g2∨k=g3) w W):q2w (fun k=>k=g∨k=g2∨k=g3) w (W.setCell ⟨g,j,none⟩ v):=.set h (.inl rfl) _
theorem q2w.s3b (h:q2w (fun k=>k=g∨k=g2∨k=g3) w W):q2w (fun k=>k=g∨k=g2∨k=g3) w (W.setCell ⟨g2,j,none⟩ v):=.set h (.inr (.inl rfl)) _
theorem q2w.s3c (h:q2w (fun k=>k=g∨k=g2∨k=g3) w W):q2w (fun k=>k=g∨k=g2∨k=g3) w (W.setCell ⟨g3,j,none⟩ v):=.set h (.inr (.inr rfl)) _
end
theorem q2w.heap {P:Nat→Prop} {w W:World} (h:q2w P w W):w.heap.size≤W.heap.size∧∀ k,¬ P k→k<w.heap.size→W.heap[k]?=w.heap[k]?:=by
  induction h with
  |refl=>exact⟨Nat.le_refl _,fun _ _ _=>rfl⟩
  |set h hp u ih=>exact⟨by simpa [World.setCell] using ih.1,fun k hk hl=>(Below.heap_setCell _ _ u k (fun e=>hk (e ▸ hp))).trans (ih.2 k hk hl)⟩
  |alloc h o ih=>exact⟨Nat.le_trans ih.1 (q0f (q3d (Below.refl _ _) o)),fun k hk hl=>(Below.heap_alloc _ o k (Nat.lt_of_lt_of_le hl ih.1)).trans (ih.2 k hk hl)⟩
  |drew h ih=>exact ih
  |drewN h n ih=>exact ih
section
variable {α:Type} {d:Kd α} {e base g g2 g3 t t2 t3:Nat} {ok:Nat→Prop} {w W:World} {v:Value} {xs:List α} {c c2 c3:Array Value}
theorem zF1 (x:q0a (d.R e w base ok v xs)) (b:q0a (w.heap[g]?=some (.cells c t (0,0)))) (ht:∀ q,q∈e :: d.E→q≠t:=by decide)
    (m:q2w (fun k=>k=g) w W:=by with_reducible repeat (first|exact q2w.refl|apply q2w.s1|apply q2w.alloc|apply q2w.drewN|apply q2w.drew)) {ok':Nat→Prop} (hok:∀ k,ok k→ok' k:=by first|exact fun _ h_=>h_|exact fun _ _=>trivial|exact fun _ h_=>h_.1|(intro k_ h_;simp only[true_and,and_assoc,ne_eq] at h_ ⊢;first|exact h_|simp only[h_,not_false_eq_true,and_self])):d.R e W base ok' v xs :=
  Kd.q2s (Kd.q8r (Kd.q7p x.out b.out ht) (fun k hk hl=>m.heap.2 k hk.2 hl)) (fun _ hk=>hok _ hk.1)
theorem zF2 (x:q0a (d.R e w base ok v xs)) (b:q0a (w.heap[g]?=some (.cells c t (0,0)))) (b2:q0a (w.heap[g2]?=some (.cells c2 t2 (0,0)))) (ht:∀ q,q∈e :: d.E→q≠t:=by decide) (ht2:∀ q,q∈e :: d.E→q≠t2:=by decide)
    (m:q2w (fun k=>k=g∨k=g2) w W:=by with_reducible repeat (first|exact q2w.refl|apply q2w.s2|apply q2w.s2b|apply q2w.alloc|apply q2w.drewN|apply q2w.drew)) {ok':Nat→Prop} (hok:∀ k,ok k→ok' k:=by first|exact fun _ h_=>h_|exact fun _ _=>trivial|exact fun _ h_=>h_.1|(intro k_ h_;simp only[true_and,and_assoc,ne_eq] at h_ ⊢;first|exact h_|simp only[h_,not_false_eq_true,and_self])):d.R e W base ok' v xs :=
  Kd.q2s (Kd.q8r (Kd.q7p (Kd.q7p x.out b.out ht) b2.out ht2) (fun k hk hl=>m.heap.2 k (fun h=>h.elim hk.1.2 hk.2) hl)) (fun _ hk=>hok _ hk.1.1)
theorem zF3 (x:q0a (d.R e w base ok v xs)) (b:q0a (w.heap[g]?=some (.cells c t (0,0)))) (b2:q0a (w.heap[g2]?=some (.cells c2 t2 (0,0)))) (b3:q0a (w.heap[g3]?=some (.cells c3 t3 (0,0)))) (ht:∀ q,q∈e :: d.E→q≠t:=by decide) (ht2:∀ q,q∈e :: d.E→q≠t2:=by decide) (ht3:∀ q,q∈e :: d.E→q≠t3:=by decide)
    (m:q2w (fun k=>k=g∨k=g2∨k=g3) w W:=by with_reducible repeat (first|exact q2w.refl|apply q2w.s3|apply q2w.s3b|apply q2w.s3c|apply q2w.alloc|apply q2w.drewN|apply q2w.drew)) {ok':Nat→Prop} (hok:∀ k,ok k→ok' k:=by first|exact fun _ h_=>h_|exact fun _ _=>trivial|exact fun _ h_=>h_.1|(intro k_ h_;simp only[true_and,and_assoc,ne_eq] at h_ ⊢;first|exact h_|simp only[h_,not_false_eq_true,and_self])):d.R e W base ok' v xs :=
  Kd.q2s (Kd.q8r (Kd.q7p (Kd.q7p (Kd.q7p x.out b.out ht) b2.out ht2) b3.out ht3) (fun k hk hl=>m.heap.2 k (fun h=>h.elim hk.1.1.2 (fun h=>h.elim hk.1.2 hk.2)) hl)) (fun _ hk=>hok _ hk.1.1.1)
theorem zG1 (x:q0a (d.Q e w base ok v xs)) (b:q0a (w.heap[g]?=some (.cells c t (0,0)))) (ht:∀ q,q∈e :: d.E→q≠t:=by decide)
    (m:q2w (fun k=>k=g) w W:=by with_reducible repeat (first|exact q2w.refl|apply q2w.s1|apply q2w.alloc|apply q2w.drewN|apply q2w.drew)) {ok':Nat→Prop} (hok:∀ k,ok k→ok' k:=by first|exact fun _ h_=>h_|exact fun _ _=>trivial|exact fun _ h_=>h_.1|(intro k_ h_;simp only[true_and,and_assoc,ne_eq] at h_ ⊢;first|exact h_|simp only[h_,not_false_eq_true,and_self])):d.Q e W base ok' v xs :=
  Kd.q6p (Kd.y0m (Kd.q7z x.out b.out ht) (fun k hk hl=>m.heap.2 k hk.2 hl)) (fun _ hk=>hok _ hk.1)
theorem zG2 (x:q0a (d.Q e w base ok v xs)) (b:q0a (w.heap[g]?=some (.cells c t (0,0)))) (b2:q0a (w.heap[g2]?=some (.cells c2 t2 (0,0)))) (ht:∀ q,q∈e :: d.E→q≠t:=by decide) (ht2:∀ q,q∈e :: d.E→q≠t2:=by decide)
    (m:q2w (fun k=>k=g∨k=g2) w W:=by with_reducible repeat (first|exact q2w.refl|apply q2w.s2|apply q2w.s2b|apply q2w.alloc|apply q2w.drewN|apply q2w.drew)) {ok':Nat→Prop} (hok:∀ k,ok k→ok' k:=by first|exact fun _ h_=>h_|exact fun _ _=>trivial|exact fun _ h_=>h_.1|(intro k_ h_;simp only[true_and,and_assoc,ne_eq] at h_ ⊢;first|exact h_|simp only[h_,not_false_eq_true,and_self])):d.Q e W base ok' v xs :=
  Kd.q6p (Kd.y0m (Kd.q7z (Kd.q7z x.out b.out ht) b2.out ht2) (fun k hk hl=>m.heap.2 k (fun h=>h.elim hk.1.2 hk.2) hl)) (fun _ hk=>hok _ hk.1.1)
theorem zG3 (x:q0a (d.Q e w base ok v xs)) (b:q0a (w.heap[g]?=some (.cells c t (0,0)))) (b2:q0a (w.heap[g2]?=some (.cells c2 t2 (0,0)))) (b3:q0a (w.heap[g3]?=some (.cells c3 t3 (0,0)))) (ht:∀ q,q∈e :: d.E→q≠t:=by decide) (ht2:∀ q,q∈e :: d.E→q≠t2:=by decide) (ht3:∀ q,q∈e :: d.E→q≠t3:=by decide)
    (m:q2w (fun k=>k=g∨k=g2∨k=g3) w W:=by with_reducible repeat (first|exact q2w.refl|apply q2w.s3|apply q2w.s3b|apply q2w.s3c|apply q2w.alloc|apply q2w.drewN|apply q2w.drew)) {ok':Nat→Prop} (hok:∀ k,ok k→ok' k:=by first|exact fun _ h_=>h_|exact fun _ _=>trivial|exact fun _ h_=>h_.1|(intro k_ h_;simp only[true_and,and_assoc,ne_eq] at h_ ⊢;first|exact h_|simp only[h_,not_false_eq_true,and_self])):d.Q e W base ok' v xs :=
  Kd.q6p (Kd.y0m (Kd.q7z (Kd.q7z (Kd.q7z x.out b.out ht) b2.out ht2) b3.out ht3) (fun k hk hl=>m.heap.2 k (fun h=>h.elim hk.1.1.2 (fun h=>h.elim hk.1.2 hk.2)) hl)) (fun _ hk=>hok _ hk.1.1.1)
end
theorem zCx {q p:Prop} (x:q) (h:q→p:=by intro hx_;repeat (first|exact hx_|(with_reducible refine Kd.q6k ?_ _)|(with_reducible refine Kd.q6j ?_ _)|(with_reducible refine Kd.q7i ?_))):p:=h x
theorem zCb {α:Type} {d:Kd α} {w:World} {A:Option Addr} {n:Nat} {xs:List α} {p:Prop} (x:q0a (d.C w A n xs)) (h:d.C w A n xs→p:=by intro hx_;repeat (first|exact(Kd.q3z hx_ zb)|(with_reducible refine Kd.q6k ?_ _)|(with_reducible refine Kd.q6j ?_ _)|(with_reducible refine Kd.q7i ?_))):p:=h x.out
section
variable {w:World} {g t:Nat}
theorem zc2 {v0 v1:Value} (x:q0a (w.heap[g]?=some (.cells #[v0,v1] t (0,0)))):w.cell? ⟨g,0,none⟩=some v0∧w.cell? ⟨g,1,none⟩=some v1:=⟨(q2t x.out 0).trans rfl,(q2t x.out 1).trans rfl⟩
theorem zf2 {v0 v1:Value} (x:q0a (w.heap[g]?=some (.cells #[v0,v1] t (0,0)))):w.frozen? ⟨g,0,none⟩=false∧w.frozen? ⟨g,1,none⟩=false:=⟨q0c x.out 0,q0c x.out 1⟩
theorem zc3 {v0 v1 v2:Value} (x:q0a (w.heap[g]?=some (.cells #[v0,v1,v2] t (0,0)))):w.cell? ⟨g,0,none⟩=some v0∧w.cell? ⟨g,1,none⟩=some v1∧w.cell? ⟨g,2,none⟩=some v2:=⟨(q2t x.out 0).trans rfl,(q2t x.out 1).trans rfl,(q2t x.out 2).trans rfl⟩
theorem zf3 {v0 v1 v2:Value} (x:q0a (w.heap[g]?=some (.cells #[v0,v1,v2] t (0,0)))):w.frozen? ⟨g,0,none⟩=false∧w.frozen? ⟨g,1,none⟩=false∧w.frozen? ⟨g,2,none⟩=false:=⟨q0c x.out 0,q0c x.out 1,q0c x.out 2⟩
theorem zc4 {v0 v1 v2 v3:Value} (x:q0a (w.heap[g]?=some (.cells #[v0,v1,v2,v3] t (0,0)))):w.cell? ⟨g,0,none⟩=some v0∧w.cell? ⟨g,1,none⟩=some v1∧w.cell? ⟨g,2,none⟩=some v2∧w.cell? ⟨g,3,none⟩=some v3:=⟨(q2t x.out 0).trans rfl,(q2t x.out 1).trans rfl,(q2t x.out 2).trans rfl,(q2t x.out 3).trans rfl⟩
theorem zf4 {v0 v1 v2 v3:Value} (x:q0a (w.heap[g]?=some (.cells #[v0,v1,v2,v3] t (0,0)))):w.frozen? ⟨g,0,none⟩=false∧w.frozen? ⟨g,1,none⟩=false∧w.frozen? ⟨g,2,none⟩=false∧w.frozen? ⟨g,3,none⟩=false:=⟨q0c x.out 0,q0c x.out 1,q0c x.out 2,q0c x.out 3⟩
end
section
variable {P:Program} {ops:Array Oper} {Q:Exit→Act→World→Prop} {S:World→Prop} {ds:List Nat} {T:Bool × List (List Nat × List Nat)} {B:List Nat}
theorem zp {fuel:Nat} {l:Array Bool} {a:Act} {w:World} (i:Nat) (N:Tmp) (HT:q0a (q6q .any ops=T)) {oi:Oper} {v:Value} {a':Act}
    (h:q1l P .any ops Q S ds fuel (l.setIfInBounds i true) a' w)
    (hi:ops[i]?=some oi:=by rfl) (hN:oi.dst=some N:=by rfl) (hc:anyT T l.toList (l.setIfInBounds i true).toList i=true:=by kernel_rfl)
    (hw:Region.wanted oi (yielded ops a.tmps)=true:=by rfl)
    (hy:∀ w',(execOp a.eval oi).run P w'=.ok (.value v) w':=by intro w';go_simp;with_reducible rfl)
    (hQ:∀ c a w,Q (.panic c) (a.put oi.dst v) w→Q (.panic c) a w:=by exact fun _ _ _ h=>h)
    (ha:a.put (some N) v=a':=by simp only[Act.put,List.setIfInBounds_toArray,List.set_cons_zero,List.set_cons_succ,q2n,q3a];rfl):q1l P .any ops Q S ds (fuel+1) l a w :=
  q5d _ hi hN (q4x HT.out hc) hQ (Or.inl ⟨hw,hy⟩) ha h
theorem zu {fuel:Nat} {l:Array Bool} {a:Act} {w:World} (i:Nat) (N:Tmp) (HT:q0a (q6q .any ops=T)) {oi:Oper} {a':Act}
    (h:q1l P .any ops Q S ds fuel (l.setIfInBounds i true) a' w)
    (hi:ops[i]?=some oi:=by rfl) (hN:oi.dst=some N:=by rfl) (hc:anyT T l.toList (l.setIfInBounds i true).toList i=true:=by kernel_rfl)
    (hw:Region.wanted oi (yielded ops a.tmps)=false:=by rfl)
    (hQ:∀ c a w,Q (.panic c) (a.put oi.dst undef) w→Q (.panic c) a w:=by exact fun _ _ _ h=>h)
    (ha:a.put (some N) undef=a':=by simp only[Act.put,List.setIfInBounds_toArray,List.set_cons_zero,List.set_cons_succ,q2n,q3a];rfl):q1l P .any ops Q S ds (fuel+1) l a w :=
  q5d _ hi hN (q4x HT.out hc) hQ (Or.inr ⟨hw,rfl⟩) ha h
theorem zt {fuel:Nat} {l:Array Bool} {a:Act} {w:World} (i:Nat) (N:Tmp) (HT:q0a (q6q .any ops=T)) (HW:q0a (q4a T.2 B=true)) (hS:S w) {oi:Oper} {v:Value} {a':Act}
    (h:q1l P .any ops Q S ds fuel (l.setIfInBounds i true) a' w)
    (hi:ops[i]?=some oi:=by rfl) (hN:oi.dst=some N:=by rfl) (hc:takeW T B ds l.toList (l.setIfInBounds i true).toList i=true:=by kernel_rfl)
    (hw:Region.wanted oi (yielded ops a.tmps)=true:=by rfl)
    (hy:∀ w',S w'→(execOp a.eval oi).run P w'=.ok (.value v) w':=by intro w' hS_;(repeat' (obtain⟨_,hS_⟩:=hS_));go_simp;with_reducible rfl)
    (hQ:∀ c a w,Q (.panic c) (a.put oi.dst v) w→Q (.panic c) a w:=by exact fun _ _ _ h=>h)
    (ha:a.put (some N) v=a':=by simp only[Act.put,List.setIfInBounds_toArray,List.set_cons_zero,List.set_cons_succ,q2n,q3a];rfl):q1l P .any ops Q S ds (fuel+1) l a w :=
  q8w _ hi hN (q7u HT.out HW.out hc) hQ (Or.inl ⟨hw,hy⟩) hS ha h
theorem zo {fuel:Nat} {l:Array Bool} {a:Act} {w:World} (i:Nat) (N:Tmp) (HT:q0a (q6q .any ops=T)) {oi:Oper}
    (h:∀ K:Act→World→Prop,Shut (∀ a' w',S w'→(S w'→q1l P .any ops Q S ds fuel (l.setIfInBounds i true) a' w')→K a' w')→if Region.wanted oi (yielded ops a.tmps)=true then Oper.wp P oi a w K Q else K (a.put (some N) undef) w)
    (hi:ops[i]?=some oi:=by rfl) (hN:oi.dst=some N:=by rfl) (hc:(q9r T.2 l.toList==[i] && l.toList.set i true==(l.setIfInBounds i true).toList)=true:=by kernel_rfl) (hd:i ∉ ds:=by decide):q1l P .any ops Q S ds (fuel+1) l a w :=
  one_ _ hi hN (q8k HT.out hc) hd h
theorem zon {fuel:Nat} {l:Array Bool} {a:Act} {w:World} (i:Nat) (HT:q0a (q6q .any ops=T)) {oi:Oper}
    (h:∀ K:Act→World→Prop,Shut (∀ a' w',S w'→(S w'→q1l P .any ops Q S ds fuel (l.setIfInBounds i true) a' w')→K a' w')→if Region.wanted oi (yielded ops a.tmps)=true then Oper.wp P oi a w K Q else K (a.put none undef) w)
    (hi:ops[i]?=some oi:=by rfl) (hN:oi.dst=none:=by rfl) (hc:(q9r T.2 l.toList==[i] && l.toList.set i true==(l.setIfInBounds i true).toList)=true:=by kernel_rfl) (hd:i ∉ ds:=by decide):q1l P .any ops Q S ds (fuel+1) l a w :=
  one_ _ hi hN (q8k HT.out hc) hd h
theorem zgo {Kc:Act→World→Prop} {oi:Oper} {N:Option Tmp} {a:Act} {w:World} {f:FuncId} {fn:Func} {as:Array Operand} {ts:Array TypeId} (hf:P.funcs[f]?=some fn) (args:Array Value)
    (h:Calls P f args w fun e w'=>∃ v,e=.returned v∧Kc (a.put N v) w')
    (hname:(fn.name == "runtime.NumGoroutine")=false:=by kernel_rfl) (hb:fn.body.isSome=true:=by rfl) (hw:Region.wanted oi (yielded ops a.tmps)=true:=by rfl) (hN:oi.dst=N:=by rfl)
    (hop:oi.op=.call { callee:=.value (.func f),args:=as,argTypes:=ts }:=by rfl) (hargs:as.map a.eval=args:=by exact zm):if Region.wanted oi (yielded ops a.tmps)=true then Oper.wp P oi a w Kc Q else Kc (a.put N undef) w :=
  goes_ hf hname hb args hw hN hop hargs h
theorem zgl {rest:List Oper} {oi:Oper} {a:Act} {w:World} (N:Tmp) {f:FuncId} {fn:Func} {as:Array Operand} {ts:Array TypeId} (hf:P.funcs[f]?=some fn) (args:Array Value)
    (h:Calls P f args w fun e w'=>∃ v,e=.returned v∧wpList P ops Q rest (a.put (some N) v) w')
    (hd:oi.dst=some N:=by rfl) (hg:oi.guard=none:=by rfl) (hname:(fn.name == "runtime.NumGoroutine")=false:=by kernel_rfl) (hb:fn.body.isSome=true:=by rfl)
    (hop:oi.op=.call { callee:=.value (.func f),args:=as,argTypes:=ts }:=by rfl) (hargs:as.map a.eval=args:=by exact zm):wpList P ops Q (oi :: rest) a w :=
  goesL_ (some N) hd hg hf hname hb args hop hargs h
theorem zbx {rest:List Oper} {o:Oper} {a:Act} {W:World} (N:Tmp) (cs:Array Value) (t:TypeId)
    (h:∀ g,g=W.heap.size→∀ w1,w1.heap[g]?=some (.cells cs t (0,0))→Below W.heap.size W w1→wpList P ops Q rest (a.put o.dst (.pointer (some ⟨g,0,none⟩))) w1)
    (hd:o.dst=some N:=by rfl) (hgd:o.guard=none:=by rfl)
    (hrun:(execOp a.eval o).run P W=.ok (.value (.pointer (some ⟨W.heap.size,0,none⟩))) (W.alloc (.cells cs t (0,0))):=by first|(go_simp;done)|(go_simp;rfl)):wpList P ops Q (o :: rest) a W :=
  q9k hgd hd hrun h
end
theorem zgenC {P:Program} {C:Code} {Q:Exit→Act→World→Prop} {a:Act} {W:World} (Φ:World→Prop) (h:Φ W) (k:∀ w,Φ w→C.wp P Q a w):C.wp P Q a W:=k W h
end Go.Proofs.YtkonccdanjhngaaW.Zip
