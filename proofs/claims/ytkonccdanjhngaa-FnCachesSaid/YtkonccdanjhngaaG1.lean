/- Walks of 23 functions of the program: each comes to what a plain function tells. -/
import Derived.Test.YtkonccdanjhngaaG0
namespace Go.Proofs.Ytkonccdanjhngaa.Q
open Go.RowKit Go.Proofs.YtkonccdanjhngaaW.PrintWords Go.Proofs.YtkonccdanjhngaaW.PrintLast Go.Proofs.YtkonccdanjhngaaW.PrintMore Go.Proofs.YtkonccdanjhngaaW.Zip Go.Proofs.YtkonccdanjhngaaW.PrintWords.Kd
attribute [local go_sem] q5w q5u q6t q6s q5j q5i q5v q5t   -- for this text's walks alone
set_option linter.unusedVariables false
set_option maxHeartbeats 8000000
set_option maxRecDepth 100000
set_option linter.unusedSimpArgs false

def q7w.f (a:List Int):Option (Bool):=some (decide ((a.length:Int)>1048576))
theorem q7w.calls (A0:Option Addr) (c0:Nat) (l0:List Int) (r:Bool) (w:World) (aC:Kd.C (Kd.int .u8) w A0 l0.length l0) (aD:l0.length≤c0) (h:q7w.f l0=some r) :
  Calls Try.prog 4 #[.slice A0 l0.length c0] w fun e w'=>e=.returned (.bool r)∧q2k w w':=by
 have aH:=zA aC;have aI:=zA aD;clear aC aD;have H:=h;clear h;unfold q7w.f at H;obtain rfl:=zI H;go_enter Try.func4,Try.ntmps4;go_wp2;go_ret;exact⟨by first|rfl|(simp;done)|(simp[*];done),by repeat (first|exact q2k.refl _|apply q2k.step)⟩

/-- A state of type 76 at block g of W; what its slices lead to came in by w0. -/
def q0g (w0 W:World) (g:Nat) (f0:List Int) (f1:Int) (f2:Int):Prop:=∃ A0 c0,W.heap[g]?=some (.cells #[.slice A0 f0.length c0,.int .i64 f1,.int .i64 f2] 76 (0,0))∧w0.heap.size≤g∧Kd.C (Kd.int .u8) w0 A0 f0.length f0
theorem q0g.grown {w0 W:World} {g:Nat} {f0:List Int} {f1:Int} {f2:Int} {W1:World} {row:Option Nat} (h:q0g w0 W g f0 f1 f2) (hw:W.grownBy W1 row) (hne:some g≠row):q0g w0 W1 g f0 f1 f2:=by
 obtain⟨A0,c0,hb,hg,hr0⟩:=h
 exact⟨A0,c0,q4r hb hw hne,hg,hr0⟩
theorem q0g.own_neN {w0 W:World} {g:Nat} {f0:List Int} {f1:Int} {f2:Int} {α:Type} {d:Kd α} {e:Nat} {base:Nat} {ok:Nat→Prop} {v:Value} {xs:List α} (h:q0g w0 W g f0 f1 f2) (ho:Kd.N d e W base ok v xs) (ht:e≠76):some g≠v.ownBlock:=by
 obtain⟨A0,c0,hb,hg,hr0⟩:=h
 exact N_ne ho hb ht
theorem q0g.fresh {w0 W:World} {g:Nat} {f0:List Int} {f1:Int} {f2:Int} (h:q0g w0 W g f0 f1 f2):∀ k,W.heap.size≤k→k≠g:=by
 obtain⟨A0,c0,hb,hg,hr0⟩:=h
 exact freshB hb
theorem q0g.kept {w0 W:World} {g:Nat} {f0:List Int} {f1:Int} {f2:Int} {W1:World} {S:Nat→Prop} (h:q0g w0 W g f0 f1 f2) (hk:Kept W W1 S) (hne:¬ S g):q0g w0 W1 g f0 f1 f2:=by
 obtain⟨A0,c0,hb,hg,hr0⟩:=h
 exact⟨A0,c0,blk_kept hb hk hne,hg,hr0⟩
theorem q0g.below {w0 W:World} {g:Nat} {f0:List Int} {f1:Int} {f2:Int} {W1:World} (h:q0g w0 W g f0 f1 f2) (hw:Below W.heap.size W W1):q0g w0 W1 g f0 f1 f2:=h.grown (q8y hw none) (by simp)
theorem q0g.alloc {w0 W:World} {g:Nat} {f0:List Int} {f1:Int} {f2:Int} (h:q0g w0 W g f0 f1 f2) (o:Obj):q0g w0 (W.alloc o) g f0 f1 f2:=h.below (q3d (Below.refl _ _) o)
theorem q0g.drewN {w0 W:World} {g:Nat} {f0:List Int} {f1:Int} {f2:Int} (h:q0g w0 W g f0 f1 f2) (m:Nat):q0g w0 (W.drewN m) g f0 f1 f2:=h
theorem q0g.drew {w0 W:World} {g:Nat} {f0:List Int} {f1:Int} {f2:Int} (h:q0g w0 W g f0 f1 f2):q0g w0 W.drew g f0 f1 f2:=h
theorem q0g.at_ {w0 W:World} {g:Nat} {f0:List Int} {f1:Int} {f2:Int} {w':World} {m:Nat} (hq:W.drewN m=w') (h:q0g w0 W g f0 f1 f2):q0g w0 w' g f0 f1 f2:=by subst hq;exact q0g.drewN h m
theorem q0g.apart {w0 W:World} {g:Nat} {f0:List Int} {f1:Int} {f2:Int} {α:Type} {d:Kd α} {e:Nat} {base:Nat} {ok:Nat→Prop} {v:Value} {xs:List α} (h:q0g w0 W g f0 f1 f2) (ho:d.R e W base ok v xs) (ht:∀ q,q∈e :: d.E→q≠76):d.R e W base (fun k=>ok k∧k≠g) v xs:=by
 obtain⟨A0,c0,hb,hg,hr0⟩:=h
 exact q7p ho hb ht
theorem q0g.q7c {w0 W:World} {g:Nat} {f0:List Int} {f1:Int} {f2:Int} {α:Type} {d:Kd α} {e:Nat} {base:Nat} {ok:Nat→Prop} {v:Value} {xs:List α} (h:q0g w0 W g f0 f1 f2) (ho:d.R e W base ok v xs) (ht:e≠76):some g≠v.ownBlock:=by
 obtain⟨A0,c0,hb,hg,hr0⟩:=h
 exact q5s ho hb ht
theorem q0g.apartQ {w0 W:World} {g:Nat} {f0:List Int} {f1:Int} {f2:Int} {α:Type} {d:Kd α} {e:Nat} {base:Nat} {ok:Nat→Prop} {v:Value} {xs:List α} (h:q0g w0 W g f0 f1 f2) (ho:d.Q e W base ok v xs) (ht:∀ q,q∈e :: d.E→q≠76):d.Q e W base (fun k=>ok k∧k≠g) v xs:=by
 obtain⟨A0,c0,hb,hg,hr0⟩:=h
 exact q7z ho hb ht
theorem q0g.own_neQ {w0 W:World} {g:Nat} {f0:List Int} {f1:Int} {f2:Int} {α:Type} {d:Kd α} {e:Nat} {base:Nat} {ok:Nat→Prop} {v:Value} {xs:List α} (h:q0g w0 W g f0 f1 f2) (ho:d.Q e W base ok v xs) (ht:e≠76):some g≠v.ownBlock:=by
 obtain⟨A0,c0,hb,hg,hr0⟩:=h
 exact Q_ne ho hb ht
theorem q0g.apartS {w0 W:World} {g:Nat} {f0:List Int} {f1:Int} {f2:Int} {α:Type} {d:Kd α} {e:Nat} {base:Nat} {ok:Nat→Prop} {v:Value} {xs:List α} (h:q0g w0 W g f0 f1 f2) (ho:d.S e W base ok v xs) (ht:∀ q,q∈e :: d.E→q≠76):d.S e W base (fun k=>ok k∧k≠g) v xs:=by
 obtain⟨A0,c0,hb,hg,hr0⟩:=h
 exact S_types ho hb ht
theorem q0g.own_neS {w0 W:World} {g:Nat} {f0:List Int} {f1:Int} {f2:Int} {α:Type} {d:Kd α} {e:Nat} {base:Nat} {ok:Nat→Prop} {v:Value} {xs:List α} (h:q0g w0 W g f0 f1 f2) (ho:d.S e W base ok v xs) (ht:e≠76):some g≠v.ownBlock:=by
 obtain⟨A0,c0,hb,hg,hr0⟩:=h
 exact S_ne ho hb ht
theorem q0g.lt {w0 W:World} {g:Nat} {f0:List Int} {f1:Int} {f2:Int} (h:q0g w0 W g f0 f1 f2):g<W.heap.size:=by
 obtain⟨A0,c0,hb,hg,hr0⟩:=h
 exact q9l hb
theorem q0g.ge {w0 W:World} {g:Nat} {f0:List Int} {f1:Int} {f2:Int} (h:q0g w0 W g f0 f1 f2):w0.heap.size≤g:=by
 obtain⟨A0,c0,hb,hg,hr0⟩:=h
 exact hg
theorem q0g.q8l {w0 W:World} {g:Nat} {f0:List Int} {f1:Int} {f2:Int} {a:Nat} {cs:Array Value} {t:TypeId} {fr:Nat × Nat} (h:q0g w0 W g f0 f1 f2) (hb2:W.heap[a]?=some (.cells cs t fr)) (ht:t≠76):g≠a:=by
 obtain⟨A0,c0,hb,hg,hr0⟩:=h
 rintro rfl
 rw[hb] at hb2
 injection hb2 with hb2
 injection hb2 with _ ht2
 exact ht ht2.symm
theorem q0g.far {w0 W:World} {g:Nat} {f0:List Int} {f1:Int} {f2:Int} {p:Addr} (h:q0g w0 W g f0 f1 f2) (hne:g≠p.block) (u:Value):q0g w0 (W.setCell p u) g f0 f1 f2:=by
 obtain⟨A0,c0,hb,hg,hr0⟩:=h
 exact⟨A0,c0,q8q hb hne u,hg,hr0⟩
theorem cellS76_0 {W:World} {g:Nat} {A0:Option Addr} {c0:Nat} {f0:List Int} {f1:Int} {f2:Int} (h:W.heap[g]?=some (.cells #[.slice A0 f0.length c0,.int .i64 f1,.int .i64 f2] 76 (0,0))):W.cell? ⟨g,0,none⟩=some (.slice A0 f0.length c0):=(q2t h 0).trans rfl
theorem cellS76_1 {W:World} {g:Nat} {A0:Option Addr} {c0:Nat} {f0:List Int} {f1:Int} {f2:Int} (h:W.heap[g]?=some (.cells #[.slice A0 f0.length c0,.int .i64 f1,.int .i64 f2] 76 (0,0))):W.cell? ⟨g,1,none⟩=some (.int .i64 f1):=(q2t h 1).trans rfl
theorem q0g.set_1 {w0 W:World} {g:Nat} {f0:List Int} {f1:Int} {f2:Int} (h:q0g w0 W g f0 f1 f2) (x:Int):q0g w0 (W.setCell ⟨g,1,none⟩ (.int .i64 x)) g f0 x f2:=by
 obtain⟨A0,c0,hb,hg,hr0⟩:=h
 exact⟨A0,c0,by simpa using blk_set hb 1 (.int .i64 x),hg,hr0⟩
theorem cellS76_2 {W:World} {g:Nat} {A0:Option Addr} {c0:Nat} {f0:List Int} {f1:Int} {f2:Int} (h:W.heap[g]?=some (.cells #[.slice A0 f0.length c0,.int .i64 f1,.int .i64 f2] 76 (0,0))):W.cell? ⟨g,2,none⟩=some (.int .i64 f2):=(q2t h 2).trans rfl
theorem q0g.set_2 {w0 W:World} {g:Nat} {f0:List Int} {f1:Int} {f2:Int} (h:q0g w0 W g f0 f1 f2) (x:Int):q0g w0 (W.setCell ⟨g,2,none⟩ (.int .i64 x)) g f0 f1 x:=by
 obtain⟨A0,c0,hb,hg,hr0⟩:=h
 exact⟨A0,c0,by simpa using blk_set hb 2 (.int .i64 x),hg,hr0⟩
theorem q0g.new (w0 W:World) (A0:Option Addr) (c0:Nat) (f0:List Int) (f1:Int) (f2:Int) (hB:Below w0.heap.size w0 W) (hr0:Kd.C (Kd.int .u8) w0 A0 f0.length f0):q0g w0 (W.alloc (.cells #[.slice A0 f0.length c0,.int .i64 f1,.int .i64 f2] 76)) W.heap.size f0 f1 f2:=⟨A0,c0,by simpa using heap_alloc_new W _,hB.size,hr0⟩
theorem zI0 {p:Prop} (h:p:=by repeat (first|(with_reducible first|exact HI0.out|apply q0g.alloc|apply q0g.drewN|apply q0g.drew|apply q0g.set_1|apply q0g.set_2|refine q0g.far ?_ (q0a.out (by assumption)) _)|exact HI0.out)):p:=h
theorem z_k {w0:World} {g:Nat} {α:Type} {d:Kd α} {e base:Nat} {ok:Nat→Prop} {W0 W w1:World} {v:Value} {xs:List α} (x:q0a (d.R e W0 base ok v xs)) (f0:List Int) (f1 f2:Int) (hk:q0d W w1 g none) (ht:∀ q,q∈e :: d.E→q≠76:=by decide) (hi:q0g w0 W g f0 f1 f2:=by exact zI0) (h:d.R e W0 base ok v xs→d.R e W base ok v xs:=by intro hx_;(with_reducible repeat (first|apply Kd.q4k|apply Kd.q4g|apply Kd.q5a));exact hx_):q0a (d.R e w1 base ok v xs):=⟨Kd.q2s (Kd.q6o (q0g.apart hi (h x.out) ht) hk (fun _ h=>h.2)) (fun _ h=>h.1)⟩
theorem zB0 {p:Prop} (h:p:=by repeat (first|(with_reducible first|exact HB.out|apply q3d|apply q2z|apply q5q|refine q3y ?_ (q0g.ge HI0.out)|refine q3y (w:=w0) ?_ (q0a.out (by assumption)))|exact HB.out)):p:=h
theorem zCF {p q:Prop} (x:q) (h:q→p:=by intro hx_;(with_reducible repeat (first|exact hx_|refine (cell_far (q0a.out (by assumption)) _).trans ?_))):p:=h x
theorem zkB {w1 w2 W:World} {g g':Nat} {o:Obj} (hk:q0d w1 w2 g none) (x:q0a (W.heap[g']?=some o)) (n:q0a (g'≠g)) (h:W.heap[g']?=some o→w1.heap[g']?=some o:=by intro hx_;(with_reducible repeat (first|refine q3m ?_ _|refine q3w ?_|refine q3b ?_ _|refine q8q ?_ (q0a.out (by assumption)) _));exact hx_):q0a (w2.heap[g']?=some o):=⟨q0d.blk hk (h x.out) n.out (by simp)⟩
theorem zK0 {p:Prop} (h:p:=by repeat (first|(with_reducible first|exact HK.out|apply q0d.set_|apply keep_drewN|apply q6l|apply keep_alloc|refine keep_far (w:=w) ?_ (q0a.out (by assumption)) _)|exact HK.out)):p:=h
theorem zI1 {p:Prop} (h:p:=by repeat (first|(with_reducible first|exact HI435.out|apply q0g.alloc|apply q0g.drewN|apply q0g.drew|apply q0g.set_1|apply q0g.set_2|refine q0g.far ?_ (q0a.out (by assumption)) _)|exact HI435.out)):p:=h
theorem zB1 {p:Prop} (h:p:=by repeat (first|(with_reducible first|exact HB.out|apply q3d|apply q2z|apply q5q|refine q3y ?_ (q0g.ge HI435.out)|refine q3y (w:=w) ?_ (q0a.out (by assumption)))|exact HB.out)):p:=h
theorem zI2 {p:Prop} (h:p:=by repeat (first|(with_reducible first|exact HI1091.out|apply q0g.alloc|apply q0g.drewN|apply q0g.drew|apply q0g.set_1|apply q0g.set_2|refine q0g.far ?_ (q0a.out (by assumption)) _)|exact HI1091.out)):p:=h
theorem zB2 {p:Prop} (h:p:=by repeat (first|(with_reducible first|exact HB.out|apply q3d|apply q2z|apply q5q|refine q3y ?_ (q0g.ge HI1091.out)|refine q3y (w:=w) ?_ (q0a.out (by assumption)))|exact HB.out)):p:=h

def q4e.l0:Nat→List Int→Int→Int→Option (List Int × Int × Int)
  |0,_,_,_=>none
  |k+1,a,c,b=>if b<(a.length:Int) then(if b<4000 then(if 0≤b then(q4e.l0 k a (Go.bits .and .i64 (wrap64 ((wrap64 ((wrap64 (c * 137))+(wrap64 (rd a b))))+11)) 1073741823) (wrap64 (b+1))) else(none)) else(some (a,0,c))) else(some (a,0,c))
def q4e.f (k:Nat) (a:List Int):Option (List Int × Int × Int):=q4e.l0 k a (wrap64 (193017+(a.length:Int))) 0
theorem q4e.calls (k:Nat) (A0:Option Addr) (c0:Nat) (l0:List Int) (r1:List Int) (r2:Int) (r3:Int) (w0 w:World) (hB:Below w0.heap.size w0 w) (aW:Kd.C (Kd.int .u8) w0 A0 l0.length l0) (aX:l0.length≤c0) (h:q4e.f k l0=some (r1,r2,r3)) :
  Calls Try.prog 27 #[.slice A0 l0.length c0] w fun e w'=>∃ g_:Nat,e=.returned (.pointer (some ⟨g_,0,none⟩))∧q0g w0 w' g_ r1 r2 r3∧Below w0.heap.size w0 w'∧Below w.heap.size w w':=by
 have hu76:=Try.underlying76;have aI:=zA aW;have bF:=zA aX;clear aW aX;have HBW:=zA (Below.refl w.heap.size w);have HW0:=zA hB.size;have HB:=zA hB;clear hB;have H:=h;clear h;unfold q4e.f at H;have H':=zA H;clear H;go_enter Try.func27,Try.ntmps27;go_wp2
 go_loopg [3,4] k (fun kq v3 v4 w'=>∃ (aC:Int) (aA:Int),v3=.int .i64 aC∧v4=.int .i64 aA∧q0a (q4e.l0 kq l0 aC aA=some (r1,r2,r3))∧q0a (kq≤k)∧q0a (Below w0.heap.size w0 w')∧q0a (Below w.heap.size w w'))
 case atStart=>exact⟨(wrap64 (193017+(l0.length:Int))),(0),zr,zr,H',⟨Nat.le_refl _⟩,⟨zb⟩,⟨zw⟩⟩
 case round =>
  clear H';obtain⟨aC,aA,rfl,rfl,HA,HK1,HB,HBW⟩:=hrel
  cases gk with
  |zero=>exact absurd HA.out (by simp[q4e.l0])
  |succ k1 =>
   have H:=HA.out;clear HA;simp only[q4e.l0] at H
   by_cases c2:aA<(l0.length:Int)
   ·rw[if_pos c2] at H;have bA:=decide_eq_true c2;clear c2
    by_cases c3:aA<4000
    ·rw[if_pos c3] at H;have aZ:=decide_eq_true c3;clear c3;obtain⟨bE,H⟩:=q5b H;have H':=zA H;clear H;have bD:=zT (0≤(aA:Int));have bC:=zT (aA<(l0.length:Int));obtain⟨bB,aY,aH⟩:=q3r aI.out aA zd zd;cases aY;replace aH:=q6r HB.out aH;go_wp2
     go_roundg k1
     case measure=>have:=HK1.out;omega
     case rel=>exact⟨(Go.bits .and .i64 (wrap64 ((wrap64 ((wrap64 (aC * 137))+(wrap64 (rd l0 aA))))+11)) 1073741823),(wrap64 (aA+1)),zr,zr,H',⟨by have:=HK1.out;omega⟩,⟨zb⟩,⟨zw⟩⟩
    ·rw[if_neg c3] at H;have aZ:=decide_eq_false c3;clear c3;simp only[Option.some.injEq,Prod.mk.injEq] at H;obtain⟨rfl,rfl,rfl⟩:=H
     go_wp2_with (first|((with_reducible refine zgd 31 rfl ?_);refine zbx 31 #[.slice A0 l0.length c0,.int .i64 0,.int .i64 aC] 76 ?_;intro aG hg w5 hbox hb;replace HB:=zbs hb;have aU:=zA hbox;have aM:=zA ((by rw[hg];exact(q0f zw):w.heap.size≤aG));have aQ:=zA ((Nat.le_trans HW0.out (by rw[hg];exact(q0f zw):w.heap.size≤aG):w0.heap.size≤aG));replace HBW:=zA (q1b HBW.out hb);clear hb hbox hg))
     go_ret;exact⟨_,rfl,(show q0g w0 _ aG l0 0 aC from ⟨_,_,zk aU,aQ.out,aI.out⟩),zb,by repeat (first|(with_reducible first|exact HBW.out|apply q3d|apply q2z|apply q5q|refine q3y ?_ aM.out)|exact HBW.out)⟩
   ·rw[if_neg c2] at H;have bA:=decide_eq_false c2;clear c2;simp only[Option.some.injEq,Prod.mk.injEq] at H;obtain⟨rfl,rfl,rfl⟩:=H
    go_wp2_with (first|((with_reducible refine zgd 31 rfl ?_);refine zbx 31 #[.slice A0 l0.length c0,.int .i64 0,.int .i64 aC] 76 ?_;intro aE hg w6 hbox hb;replace HB:=zbs hb;have aT:=zA hbox;have aK:=zA ((by rw[hg];exact(q0f zw):w.heap.size≤aE));have aN:=zA ((Nat.le_trans HW0.out (by rw[hg];exact(q0f zw):w.heap.size≤aE):w0.heap.size≤aE));replace HBW:=zA (q1b HBW.out hb);clear hb hbox hg))
    go_ret;exact⟨_,rfl,(show q0g w0 _ aE l0 0 aC from ⟨_,_,zk aT,aN.out,aI.out⟩),zb,by repeat (first|(with_reducible first|exact HBW.out|apply q3d|apply q2z|apply q5q|refine q3y ?_ aK.out)|exact HBW.out)⟩

def q4s.f (c:List Int) (b:Int) (a:Int):Option (Int × Int × Int):=if b<(c.length:Int) then(if 0≤b then(some (Go.bits .and .i64 (wrap64 ((Go.bits .and .i64 (Go.bits .xor .i64 ((wrap64 ((wrap64 (a * 6364136223846793005))+1442695040888963407)) / 8589934592) ((wrap64 ((wrap64 (a * 6364136223846793005))+1442695040888963407)) / 140737488355328)) 255)+(wrap64 (rd c b)))) 255,wrap64 (b+1),wrap64 ((wrap64 (a * 6364136223846793005))+1442695040888963407))) else(none)) else(some (Go.bits .and .i64 (Go.bits .xor .i64 ((wrap64 ((wrap64 (a * 6364136223846793005))+1442695040888963407)) / 8589934592) ((wrap64 ((wrap64 (a * 6364136223846793005))+1442695040888963407)) / 140737488355328)) 255,b,wrap64 ((wrap64 (a * 6364136223846793005))+1442695040888963407)))
theorem q4s.calls (g:Nat) (s0_0:List Int) (s0_1:Int) (s0_2:Int) (r1:Int) (r2:Int) (r3:Int) (w0 w:World) (hI:q0g w0 w g s0_0 s0_1 s0_2) (hB:Below w0.heap.size w0 w) (h:q4s.f s0_0 s0_1 s0_2=some (r1,r2,r3)) :
  Calls Try.prog 72 #[.pointer (some ⟨g,0,none⟩)] w fun e w'=>e=.returned (.int .i64 r1)∧q0g w0 w' g s0_0 r2 r3∧Below w0.heap.size w0 w'∧q0d w w' g none:=by
 have HI0:=zA hI;have HK:=zA (q0d.refl w g none);have HL:=zA hB.size;clear hI;have HW0:=zA hB.size;have HB:=zA hB;clear hB;have H:=h;clear h;unfold q4s.f at H;obtain⟨ASz4_0,cSz4_0,HGz4,hgz4,HSz4_0⟩:=HI0.out;have aK:=cellS76_0 HGz4;have aJ:=cellS76_1 HGz4;have aI:=cellS76_2 HGz4;have aH:=q0c HGz4 1;have aG:=q0c HGz4 2;clear HGz4 hgz4
 by_cases c2:s0_1<(s0_0.length:Int)
 ·rw[if_pos c2] at H;have aE:=decide_eq_true c2;clear c2;obtain⟨aQ,H⟩:=q5b H;simp only[Option.some.injEq,Prod.mk.injEq] at H;obtain⟨rfl,rfl,rfl⟩:=H;have aN:=zT (0≤(s0_1:Int));have aM:=zT (s0_1<(s0_0.length:Int));obtain⟨aC,aD,aA⟩:=q3r HSz4_0 s0_1 zd zd;cases aD;have hn104_0:aC.block≠g:=Nat.ne_of_lt (Nat.lt_of_lt_of_le (by have:=World.block_lt_of_cell? _ _ aA;first|rwa [q7d] at this|exact this) (q0g.ge HI0.out));replace aA:=q6r HB.out aA;replace aA:=(cell_far (p:=⟨g,2,none⟩) (by first|(rw[q7d];exact hn104_0)|(show (Addr.add _ _).block≠_;rw[q7d];exact hn104_0)|exact hn104_0) (.int .i64 (wrap64 ((wrap64 (s0_2 * 6364136223846793005))+1442695040888963407)))).trans aA;(try have hy104_0:=fun (n_:Nat)=>(show (((w.drewN n_).setCell ⟨g,2,none⟩ (.int .i64 (wrap64 ((wrap64 (s0_2 * 6364136223846793005))+1442695040888963407))))).cell? _=some _ from aA));clear hn104_0;go_enter Try.func72,Try.ntmps72;go_wp2
  repeat (go_quiet (fail);try go_wp2)
  go_ret;exact⟨zE,zI0,zB0,zK0⟩
 ·rw[if_neg c2] at H;have aE:=decide_eq_false c2;clear c2;simp only[Option.some.injEq,Prod.mk.injEq] at H;obtain⟨rfl,rfl,rfl⟩:=H;go_enter Try.func72,Try.ntmps72;go_wp2
  repeat (go_quiet (fail);try go_wp2)
  go_ret;exact⟨zE,zI0,zB0,zK0⟩

def q0w.f (b:List Int) (c:Int) (d:Int) (a:Int):Option (Int × Int × Int):=if a≤0 then(some (0,c,d)) else(if a≤256 then((q4s.f b c d).bind fun e=>(if a=0 then(none) else(some (Int.tmod e.1 a,e.2.1,e.2.2)))) else((q4s.f b c d).bind fun f=>((q4s.f b f.2.1 f.2.2).bind fun g=>((q4s.f b g.2.1 g.2.2).bind fun h=>(if a=0 then(none) else(some (Int.tmod (wrap64 ((wrap64 ((wrap64 (f.1 * 65536))+(wrap64 (g.1 * 256))))+h.1)) a,h.2.1,h.2.2)))))))
theorem q0w.calls (g:Nat) (s0_0:List Int) (s0_1:Int) (s0_2:Int) (a1:Int) (r1:Int) (r2:Int) (r3:Int) (w0 w:World) (hI:q0g w0 w g s0_0 s0_1 s0_2) (hB:Below w0.heap.size w0 w) (h:q0w.f s0_0 s0_1 s0_2 a1=some (r1,r2,r3)) :
  Calls Try.prog 53 #[.pointer (some ⟨g,0,none⟩),.int .i64 a1] w fun e w'=>e=.returned (.int .i64 r1)∧q0g w0 w' g s0_0 r2 r3∧Below w0.heap.size w0 w'∧q0d w w' g none:=by
 have HI0:=zA hI;have HK:=zA (q0d.refl w g none);have HL:=zA hB.size;clear hI;have HW0:=zA hB.size;have HB:=zA hB;clear hB;have H:=h;clear h;unfold q0w.f at H
 by_cases c3:a1≤0
 ·rw[if_pos c3] at H;have aV:=decide_eq_true c3;clear c3;simp only[Option.some.injEq,Prod.mk.injEq] at H;obtain⟨rfl,rfl,rfl⟩:=H;go_enter Try.func53,Try.ntmps53;go_wp2;go_ret;exact⟨zE,zI0,zB0,zK0⟩
 ·rw[if_neg c3] at H;have aV:=decide_eq_false c3;clear c3
  by_cases c4:a1≤256
  ·rw[if_pos c4] at H;have aU:=decide_eq_true c4;clear c4;obtain⟨⟨aT,aQ,aN⟩,A5,H⟩:=zB H
   by_cases c6:a1=0
   ·rw[if_pos c6] at H;exact absurd H (by simp)
   ·rw[if_neg c6] at H;have bA:(a1==0)=false:=beq_eq_false_iff_ne.mpr c6;have aZ:(a1 != 0)=true:=bne_iff_ne.mpr c6;simp only[Option.some.injEq,Prod.mk.injEq] at H;obtain⟨rfl,rfl,rfl⟩:=H;go_enter Try.func53,Try.ntmps53
    go_wp2_with (first|((with_reducible refine zgf 72 rfl ?_);refine zgl 13 Try.func72 #[.pointer (some ⟨g,0,none⟩)] ?_;(with_reducible refine(q4s.calls g s0_0 s0_1 s0_2 aT aQ aN w0 _ ?s1 ?s2 A5.out).mono ?_);(case s1=>exact zI0);(case s2=>exact zB0);rintro e w7 ⟨rfl,hi,hb,hk⟩;refine⟨_,rfl,?_⟩;replace HK:=zA (q0d.trans zK0 hk (.inl rfl));replace HB:=zA hb;replace HI0:=zA (hi);(try clear hb)))
    go_ret;exact⟨zE,zI0,zB0,zK0⟩
  ·rw[if_neg c4] at H;have aU:=decide_eq_false c4;clear c4;obtain⟨⟨aM,aG,aE⟩,A8,H⟩:=zB H;obtain⟨⟨aK,aD,aC⟩,A9,H⟩:=zB H;obtain⟨⟨aJ,aI,aH⟩,aW,H⟩:=zB H
   by_cases c11:a1=0
   ·rw[if_pos c11] at H;exact absurd H (by simp)
   ·rw[if_neg c11] at H;have aY:(a1==0)=false:=beq_eq_false_iff_ne.mpr c11;have aX:(a1 != 0)=true:=bne_iff_ne.mpr c11;simp only[Option.some.injEq,Prod.mk.injEq] at H;obtain⟨rfl,rfl,rfl⟩:=H;go_enter Try.func53,Try.ntmps53
    go_wp2_with (first|((with_reducible refine zgf 72 rfl ?_);refine zgl 17 Try.func72 #[.pointer (some ⟨g,0,none⟩)] ?_;(with_reducible refine(q4s.calls g s0_0 s0_1 s0_2 aM aG aE w0 _ ?s1 ?s2 A8.out).mono ?_);(case s1=>exact zI0);(case s2=>exact zB0);rintro e bG ⟨rfl,hi,hb,hk⟩;refine⟨_,rfl,?_⟩;replace HK:=zA (q0d.trans zK0 hk (.inl rfl));replace HB:=zA hb;replace HI0:=zA (hi);(try clear hb))|((with_reducible refine zgf 72 rfl ?_);refine zgl 19 Try.func72 #[.pointer (some ⟨g,0,none⟩)] ?_;(with_reducible refine(q4s.calls g s0_0 aG aE aK aD aC w0 _ ?s1 ?s2 A9.out).mono ?_);(case s1=>exact zI0);(case s2=>exact zB0);rintro e bF ⟨rfl,hi,hb,hk⟩;refine⟨_,rfl,?_⟩;replace HK:=zA (q0d.trans zK0 hk (.inl rfl));replace HB:=zA hb;replace HI0:=zA (hi);(try clear hb))|((with_reducible refine zgf 72 rfl ?_);refine zgl 21 Try.func72 #[.pointer (some ⟨g,0,none⟩)] ?_;(with_reducible refine(q4s.calls g s0_0 aD aC aJ aI aH w0 _ ?s1 ?s2 aW.out).mono ?_);(case s1=>exact zI0);(case s2=>exact zB0);rintro e bE ⟨rfl,hi,hb,hk⟩;refine⟨_,rfl,?_⟩;replace HK:=zA (q0d.trans zK0 hk (.inl rfl));replace HB:=zA hb;replace HI0:=zA (hi);(try clear hb)))
    go_ret;exact⟨zE,zI0,zB0,zK0⟩

def q3u.f (c:List Int) (d:Int) (e:Int) (b:List Int):Option (Int × Int × Int):=(q0w.f c d e (b.length:Int)).bind fun a=>(if 0≤a.1 then(if a.1<(b.length:Int) then(some (rd b a.1,a.2.1,a.2.2)) else(none)) else(none))
theorem q3u.calls (g:Nat) (s0_0:List Int) (s0_1:Int) (s0_2:Int) (A1:Option Addr) (c1:Nat) (l1:List Int) (r1:Int) (r2:Int) (r3:Int) (w0 w:World) (hI:q0g w0 w g s0_0 s0_1 s0_2) (hB:Below w0.heap.size w0 w) (aG:Kd.C (Kd.int .i64) w A1 l1.length l1) (aH:l1.length≤c1) (hf1:∀ ad,A1=some ad→0<l1.length→ad.block≠g) (h:q3u.f s0_0 s0_1 s0_2 l1=some (r1,r2,r3)) :
  Calls Try.prog 30 #[.pointer (some ⟨g,0,none⟩),.slice A1 l1.length c1] w fun e w'=>e=.returned (.int .i64 r1)∧q0g w0 w' g s0_0 r2 r3∧Below w0.heap.size w0 w'∧q0d w w' g none:=by
 have aQ:=zA aG;have aY:=zA aH;clear aG aH;have HI0:=zA hI;have HK:=zA (q0d.refl w g none);have HL:=zA hB.size;clear hI;have HW0:=zA hB.size;have HB:=zA hB;clear hB;have H:=h;clear h;unfold q3u.f at H;obtain⟨⟨aC,aJ,aI⟩,A3,H⟩:=zB H;obtain⟨aW,H⟩:=q5b H;obtain⟨aV,H⟩:=q5b H;simp only[Option.some.injEq,Prod.mk.injEq] at H;obtain⟨rfl,rfl,rfl⟩:=H;go_enter Try.func30,Try.ntmps30
 go_wp2_with (first|((with_reducible refine zgf 53 rfl ?_);refine zgl 9 Try.func53 #[.pointer (some ⟨g,0,none⟩),.int .i64 (l1.length:Int)] ?_;(with_reducible refine(q0w.calls g s0_0 s0_1 s0_2 (l1.length:Int) aC aJ aI w0 _ ?s1 ?s2 A3.out).mono ?_);(case s1=>exact zI0);(case s2=>exact zB0);rintro e w6 ⟨rfl,hi,hb,hk⟩;refine⟨_,rfl,?_⟩;replace HK:=zA (q0d.trans zK0 hk (.inl rfl));replace HB:=zA hb;replace HI0:=zA (hi);(try clear hb);have aU:0≤(aC:Int):=zd;have aT:aC<(l1.length:Int):=zd;obtain⟨aE,aK,aA⟩:=q3r aQ.out aC zd zd;cases aK;replace aA:=y0i HK.out aA (by first|(rw[q7d];exact hf1 _ rfl (by omega))|exact hf1 _ rfl (by omega)|exact hf1 aE rfl (by omega));replace aU:=eq_true aU;replace aT:=eq_true aT))
 go_ret;exact⟨zE,zI0,zB0,zK0⟩

def q2c.l0:Nat→Int→List Int→Int→Int→Int→Int→List Int→Option (Int × Int × List Int × Int × Int)
  |0,_,_,_,_,_,_,_=>none
  |k+1,e,f,g,h,b,c,a=>if e<(wrap64 (b * c)) then((q3u.f f g h (([0,0,0,0,1,2]:List Int))).bind fun d=>(if a.length<17592186044416 then(q2c.l0 k (wrap64 (e+1)) f d.2.1 d.2.2 b c (a++[d.1])) else(none))) else(if 0<(a.length:Int) then(some (b,c,(a.set (0:Int).toNat 0),g,h)) else(none))
def q2c.f (k:Nat) (a:List Int) (d:Int) (e:Int):Option (Int × Int × List Int × Int × Int):=(q0w.f a d e 5).bind fun b=>((q0w.f a b.2.1 b.2.2 4).bind fun c=>(q2c.l0 k 0 a c.2.1 c.2.2 (wrap64 (2+b.1)) (wrap64 (2+c.1)) ([]:List Int)))
def q2c.T5:Bool × List (List Nat × List Nat):=(true,[([],[]),([0],[0]),([],[]),([],[]),([2,3],[2,3]),([4],[4]),([1,5,4],[1,5]),([0,1,2,3,4,5,6],[]),([7,6,6,0,1,2,3,4,5,6],[6,7])])
def q2c.B5:List Nat:=[0,1,0,0,12,28,63,127,255]
theorem q2c.tab5:q6q .any (opsOf Try.f49 5)=q2c.T5:=by kernel_rfl
theorem q2c.bits5:q4a q2c.T5.2 q2c.B5=true:=by kernel_rfl
theorem q2c.calls (k:Nat) (g:Nat) (s0_0:List Int) (s0_1:Int) (s0_2:Int) (r1:Int) (r2:Int) (r3:List Int) (r4:Int) (r5:Int) (w0 w:World) (hI:q0g w0 w g s0_0 s0_1 s0_2) (hB:Below w0.heap.size w0 w) (h:q2c.f k s0_0 s0_1 s0_2=some (r1,r2,r3,r4,r5)) :
  Calls Try.prog 49 #[.pointer (some ⟨g,0,none⟩)] w fun e w'=>∃ v2_:Value,e=.returned (.agg #[.int .i64 r1,.int .i64 r2,v2_])∧Kd.R (Kd.int .i64) 3 w' w.heap.size (fun _=>True) v2_ r3∧q0g w0 w' g s0_0 r4 r5∧Below w0.heap.size w0 w'∧q0d w w' g none:=by
 have hu26:=Try.underlying26;have HI0:=zA hI;have HK:=zA (q0d.refl w g none);have HL:=zA hB.size;clear hI;have HW0:=zA hB.size;have HB:=zA hB;clear hB;have H:=h;clear h;unfold q2c.f at H;obtain⟨⟨aW,bY,bX⟩,A2,H⟩:=zB H;obtain⟨⟨aV,bG,bF⟩,A3,H⟩:=zB H;have H':=zA H;clear H;go_enter Try.func49,Try.ntmps49
 go_wp2_with (first|((with_reducible refine zgd 2 rfl ?_);refine zbx 2 #[.int .i64 0,.int .i64 0,.slice none 0 0] 26 ?_;intro aN hg w4 hbox hb;replace HB:=zA (q1b zB0 hb);have aD:=zA hbox;have aI:=zA ((by rw[hg];exact(q0y (w:=w) (g:=g) (row:=none) zK0):w.heap.size≤aN));have aU:=zA ((Nat.le_trans HW0.out (by rw[hg];exact(q0y (w:=w) (g:=g) (row:=none) zK0):w.heap.size≤aN):w0.heap.size≤aN));replace HK:=zA (q0d.trans zK0 (q0d.of_below hb g none) (.inl rfl));have aG:=zA ((by rw[hg];exact Nat.ne_of_lt (q0g.lt (show q0g w0 _ g s0_0 s0_1 s0_2 from zI0)):g≠aN));have aZ:=zA ((by rw[hg];exact Nat.ne_of_gt (q0g.lt (show q0g w0 _ g s0_0 s0_1 s0_2 from zI0)):aN≠g));replace HI0:=zA (q0g.below zI0 hb);clear hb hbox hg)|((with_reducible refine zgf 53 rfl ?_);refine zgl 6 Try.func53 #[.pointer (some ⟨g,0,none⟩),.int .i64 5] ?_;(with_reducible refine(q0w.calls g s0_0 s0_1 s0_2 5 aW bY bX w0 _ ?s1 ?s2 A2.out).mono ?_);(case s1=>exact zI0);(case s2=>exact zB0);rintro e w5 ⟨rfl,hi,hb,hk⟩;refine⟨_,rfl,?_⟩;replace aD:=zkB hk aD aZ;replace HK:=zA (q0d.trans zK0 hk (.inl rfl));replace HB:=zA hb;replace HI0:=zA (hi);(try clear hb))|((with_reducible refine zgf 53 rfl ?_);refine zgl 9 Try.func53 #[.pointer (some ⟨g,0,none⟩),.int .i64 4] ?_;(with_reducible refine(q0w.calls g s0_0 bY bX 4 aV bG bF w0 _ ?s1 ?s2 A3.out).mono ?_);(case s1=>exact zI0);(case s2=>exact zB0);rintro e w6 ⟨rfl,hi,hb,hk⟩;refine⟨_,rfl,?_⟩;replace aD:=zkB hk aD aZ;replace HK:=zA (q0d.trans zK0 hk (.inl rfl));replace HB:=zA hb;replace HI0:=zA (hi);(try clear hb))|((with_reducible refine zgd 3 rfl ?_);refine zbx 3 #[.int .i64 0,.int .i64 0,.slice none 0 0] 26 ?_;intro aJ hg w7 hbox hb;replace HB:=zA (q1b zB0 hb);have aC:=zA hbox;have aT:=zA ((by rw[hg];exact(q0y (w:=w) (g:=g) (row:=none) zK0):w.heap.size≤aJ));have bA:=zA ((Nat.le_trans HW0.out (by rw[hg];exact(q0y (w:=w) (g:=g) (row:=none) zK0):w.heap.size≤aJ):w0.heap.size≤aJ));replace HK:=zA (q0d.trans zK0 (q0d.of_below hb g none) (.inl rfl));replace aD:=zlh aD hg hb;obtain⟨aY,aX,aD⟩:=aD;have aH:=zA ((by rw[hg];exact Nat.ne_of_lt (q0g.lt (show q0g w0 _ g s0_0 bG bF from zI0)):g≠aJ));have bC:=zA ((by rw[hg];exact Nat.ne_of_gt (q0g.lt (show q0g w0 _ g s0_0 bG bF from zI0)):aJ≠g));replace HI0:=zA (q0g.below zI0 hb);clear hb hbox hg;have dW:=aX.out;have dU:=aY.out;have dV:=bC.out;have dT:=aH.out;obtain⟨bU,bT,bS,bR,bQ,bP⟩:=ze3 aC))
 go_loopg [4] k (fun kq v4 w'=>∃ (bB:Int) (aM:Int) (aK:Int) (aE:List Int) (u129002:Value),v4=.int .i64 bB∧q0a (q2c.l0 kq bB s0_0 aM aK (wrap64 (2+aW)) (wrap64 (2+aV)) aE=some (r1,r2,r3,r4,r5))∧q0a (kq≤k)∧q0a (Kd.R (Kd.int .i64) 3 w' w.heap.size (fun _=>True) u129002 aE)∧q0a (w'.heap[aN]?=some (.cells #[.int .i64 0,.int .i64 0,(.slice none 0 0)] 26 (0,0)))∧q0a (w'.heap[aJ]?=some (.cells #[.int .i64 (wrap64 (2+aW)),.int .i64 (wrap64 (2+aV)),u129002] 26 (0,0)))∧q0a (q0g w0 w' g s0_0 aM aK)∧q0a (q0d w w' g none)∧q0a (Below w0.heap.size w0 w'))
 case atStart=>exact⟨(0),(bG),(bF),(([]:List Int)),(.slice none 0 0),zr,H',⟨Nat.le_refl _⟩,⟨by first|exact R_nil _ _ _ _ _|exact N_nil _ _ _ _ _|exact V_nil _ _ _ _ _|exact Q_nil _ _ _ _ _|exact S_nil _ _ _ _ _⟩,⟨zkf aD⟩,⟨zkp aC⟩,⟨zI0⟩,⟨zK0⟩,⟨zB0⟩⟩
 case round =>
  clear H';(try clear bU);(try clear bT);(try clear bS);(try clear bR);(try clear bQ);(try clear bP);obtain⟨bB,aM,aK,aE,u129002,rfl,HA,HK1,aA,aD,aC,HI0,HK,HB⟩:=hrel
  cases gk with
  |zero=>exact absurd HA.out (by simp[q2c.l0])
  |succ k1 =>
   have H:=HA.out;clear HA;simp only[q2c.l0] at H;have dO:=aX.out;have dL:=aY.out;have dN:=bC.out;have dK:=aH.out;obtain⟨dG,dF,dE,cX,cW,cV⟩:=ze3 aC
   by_cases c11:bB<(wrap64 ((wrap64 (2+aW)) * (wrap64 (2+aV))))
   ·rw[if_pos c11] at H;have cI:=decide_eq_true c11;clear c11;obtain⟨bD,bJ⟩:∃ y_:List Int,y_=(([0,0,0,0,1,2]:List Int)):=⟨_,rfl⟩
    replace H:((q3u.f s0_0 aM aK bD).bind fun bt132=>(if aE.length<17592186044416 then(q2c.l0 k1 (wrap64 (bB+1)) s0_0 bt132.2.1 bt132.2.2 (wrap64 (2+aW)) (wrap64 (2+aV)) (aE++[bt132.1])) else(none)))=some (r1,r2,r3,r4,r5):=zY bJ H
    have Ny129:=zA bJ;clear bJ;obtain⟨⟨bE,bN,bM⟩,dI,H⟩:=zB H;obtain⟨cJ,H⟩:=q8c H;obtain⟨bL,bI⟩:∃ y_:List Int,y_=(aE++[bE]):=⟨_,rfl⟩
    replace H:(q2c.l0 k1 (wrap64 (bB+1)) s0_0 bN bM (wrap64 (2+aW)) (wrap64 (2+aV)) bL)=some (r1,r2,r3,r4,r5):=zY bI H
    have Ny135:=zA bI;clear bI;have H':=zA H;clear H
    try go_wp2
    replace aA:=z_d aA;replace aD:=q4h aD;replace aC:=q4h aC;replace HI0:=zA (q0g.drew HI0.out);replace HK:=zA (q6l HK.out);replace HB:=z_b HB;refine q3g (n:=9) (S:=fun w'=>w'.cell? ⟨aJ,0,none⟩=some (.int .i64 (wrap64 (2+aW)))∧w'.cell? ⟨aJ,1,none⟩=some (.int .i64 (wrap64 (2+aV)))∧w'.cell? ⟨aJ,2,none⟩=some (u129002)) (ds:=[8]) #[false,false,false,false,false,false,false,false,false] (by kernel_rfl) rfl rfl ⟨zq aC 0,zq aC 1,zq aC 2⟩ (fun hHeld=>?_);refine q1m q2c.tab5 q2c.bits5 (fun HT_ HW_=>?_);generalize wr.drew=eB at aA aD aC HI0 HK HB hHeld ⊢;refine z_p 0 ?_;refine z_p 2 ?_;refine zt 1 22 HT_ HW_ hHeld ?_;refine zo 3 24 HT_ (fun K hK=>?_);refine q5g (Kd.int .i64) _ 3 ?hg (N:=24) ?hd (xs:=([0,0,0,0,1,2]:List Int)) (inner:=[.int .i64 0,.int .i64 0,.int .i64 0,.int .i64 0,.int .i64 1,.int .i64 2]) (ok:=fun _=>True) (okp:=fun _=>True) ?hr ?hp (fun _ hk=>hk) trivial (Below.refl _ _) (Nat.le_refl _) (by simp) ?_;(case hd=>rfl);(case hg=>rfl);(case hr=>first|(go_simp;done)|(go_simp;rfl));(case hp=>exact(q3o.one (show Kd.M (Kd.int .i64) _ _ _ 0 [.int .i64 0] from rfl) (q3o.one (show Kd.M (Kd.int .i64) _ _ _ 0 [.int .i64 0] from rfl) (q3o.one (show Kd.M (Kd.int .i64) _ _ _ 0 [.int .i64 0] from rfl) (q3o.one (show Kd.M (Kd.int .i64) _ _ _ 0 [.int .i64 0] from rfl) (q3o.one (show Kd.M (Kd.int .i64) _ _ _ 1 [.int .i64 1] from rfl) (q3o.one (show Kd.M (Kd.int .i64) _ _ _ 2 [.int .i64 2] from rfl) (q3o.none _ _))))))));intro v130 eA ho19 hb hg_ hnew_;clear hg_ hnew_;(first|rw[←Ny129.out] at ho19|(simp only[Int.reduceToNat] at ho19;rw[←Ny129.out] at ho19));have aQ:=zA (q3f (z_n ho19 aA) (q0y (w:=w) (g:=g) (row:=none) zK0));replace aA:=z_e aA ho19 hb;replace aD:=zkb aD hb;replace aC:=zA (q1f (g:=aJ) (o:=.cells #[.int .i64 (wrap64 (2+aW)),.int .i64 (wrap64 (2+aV)),u129002] 26 (0,0)) (zk aC) hb);replace HK:=zA (q0d.trans zK0 (q0d.of_below hb g none) (.inl rfl));replace HB:=zA (q1b zB0 hb);replace HI0:=zA (q0g.below zI0 hb);clear hb ho19;obtain⟨cH,cG,cE⟩:=q0j aQ.out;(first|subst cE|(injection cE with f1_ f2_ f3_;have f4_:=f1_.symm;have f5_:=f3_.symm;clear f1_ f2_ f3_;subst f4_;subst f5_));refine hK.out _ _ ⟨zq aC 0,zq aC 1,zq aC 2⟩ (fun hHeld=>?_);clear hK K;refine q1j zV ?_;refine zo 4 25 HT_ (fun K hK=>?_);refine zgo Try.func30 #[.pointer (some ⟨g,0,none⟩),.slice cH bD.length cG] ?_
    with_reducible refine(q3u.calls g s0_0 aM aK _ _ bD bE bN bM w0 _ ?s1 ?s2 ?s3 ?s4 ?s5 dI.out).mono ?_
    (case s1=>exact zI0);(case s2=>exact zB0);(case s3=>exact zCx (q0b aQ.out).2.2);(case s4=>exact(q0b aQ.out).2.1);(case s5=>exact q7n (q0g.q7c HI0.out aQ.out (by decide)));rintro e dZ ⟨rfl,hi,hb,hk⟩;refine⟨_,rfl,?_⟩;replace aA:=z_k aA s0_0 aM aK hk;replace aD:=zkB hk aD aZ;replace aC:=zkB hk aC bC;replace aQ:=z_k aQ s0_0 aM aK hk;replace HK:=zA (q0d.trans zK0 hk (.inl rfl));replace HB:=zA hb;replace HI0:=zA (hi);(try clear hb);refine hK.out _ _ ⟨zq aC 0,zq aC 1,zq aC 2⟩ (fun hHeld=>?_);clear hK K;refine q1j zV ?_;refine zo 5 26 HT_ (fun K hK=>?_);refine value_ (w1:=?_) (v:=?_) (by rfl) rfl ?_ ?_;rotate_left 2
    ·go_simp
     constructor
     ·rfl
     ·rfl
    refine hK.out _ _ ⟨(q2t (q3b aC.out _) 0).trans rfl,(q2t (q3b aC.out _) 1).trans rfl,(q2t (q3b aC.out _) 2).trans rfl⟩ (fun hHeld=>?_);clear hK K;refine q1j zV ?_;refine zo 6 27 HT_ (fun K hK=>?_);refine R_append_step (Kd.int .i64) w.heap.size (by rfl) (.tmp 22) (.tmp 26) 24 3 (.int .i64 0) 8 rfl Try.underlying24 info3 rfl (by decide) (by omega) u129002 aE bE [.int .i64 bE] (fun k_=>some k_≠(.slice cH bD.length cG:Value).ownBlock) (fun _=>False) rfl rfl ?aP (fun _ hk=>hk.elim) ?aF ?aO (Below.refl _ _) ?aS ?aL ?_;(case aP=>exact rfl);(case aF=>exact(fun k_ hk=>fresh' (q7f (zR aQ)) k_ hk));(case aO=>exact(z_2 aA));(case aS=>exact(q0y (w:=w) (g:=g) (row:=none) zK0));(case aL=>have:=cJ.out;omega);intro v136 dH ho hb hg hat;rw[←Ny135.out] at ho;replace aD:=zgr aD hg (q5s aA.out aD.out (by decide));replace aC:=zgr aC hg (q5s aA.out aC.out (by decide));replace aQ:=zA (q4l (ok:=(fun _=>True)) (zR aQ) hg hat);replace HB:=zA (q7y zB0 HL.out hb);replace HI0:=zA (q0g.grown zI0 hg (q0g.q7c HI0.out aA.out (by decide)));replace HK:=zA (q0d.trans zK0 (q0d.q7a hg g) (y0l aA.out));have bO:=zA ho;clear aA;clear ho hb hg hat;obtain⟨cM,cL,cD⟩:=q0j bO.out;(first|subst cD|(injection cD with f1_ f2_ f3_;have f4_:=f1_.symm;have f5_:=f3_.symm;clear f1_ f2_ f3_;subst f4_;subst f5_));refine hK.out _ _ ⟨zq aC 0,zq aC 1,zq aC 2⟩ (fun hHeld=>?_);clear hK K;refine q1j zV ?_;refine z_p 7 ?_;refine last_ (i:=8) (N:=none) #[true,true,true,true,true,true,true,true,true] rfl rfl (q8k HT_.out (by kernel_rfl)) (by decide) (fun K hK=>?_);have dS:dH.cell? ⟨aJ,2,none⟩=some (u129002):=zq aC 2;have dP:=q0c aC.out 2;have cN:=aY.out;have cO:=aX.out;refine q6i (w1:=?_) (by rfl) rfl ?_ ?_;rotate_left
    ·go_simp
     rfl
    refine hK.out _ _ ?_;clear hK K;refine q4j (q2e HT_.out (by kernel_rfl)) ?_
    try go_wp2
    go_roundg k1
    case measure=>have:=HK1.out;omega
    case rel=>exact⟨(wrap64 (bB+1)),(bN),(bM),(bL),(.slice cM bL.length cL),zr,H',⟨by have:=HK1.out;omega⟩,⟨zF1 bO aC⟩,⟨zkf aD⟩,⟨zkp aC⟩,⟨zI0⟩,⟨zK0⟩,⟨zB0⟩⟩
   ·rw[if_neg c11] at H;have cI:=decide_eq_false c11;clear c11;obtain⟨cK,H⟩:=zif H;have dR:=decide_eq_true cK;have dQ:decide (0<aE.length)=true:=decide_eq_true (by omega);clear cK;obtain⟨bV,bH⟩:∃ y_:List Int,y_=(aE.set (0:Int).toNat 0):=⟨_,rfl⟩
    replace H:(some ((wrap64 (2+aW)),(wrap64 (2+aV)),bV,aM,aK))=some (r1,r2,r3,r4,r5):=zY bH H
    have Ny138:=zA bH;clear bH;simp only[Option.some.injEq,Prod.mk.injEq] at H;obtain⟨rfl,rfl,rfl,rfl,rfl⟩:=H;have cA:0≤(0:Int):=(by omega);have bZ:(0:Int)<((aE.length:Int):Int):=zd;have qi26:(0<aE.length)=True:=eq_true (by omega);obtain⟨go26,cF,cC,cB,gl26,cl26,HG26⟩:=q8z aA.out (by omega);(first|cases cC|(injection cC with ea_ en_ ec_;(first|subst ea_|(injection ea_ with ea_;subst ea_));subst ec_;clear en_));have GB26:=zA cB;have GG26:=zA HG26;clear cB gl26 HG26;obtain⟨bK,hf26_0⟩:=q7g 0 aA.out (0:Int) cA bZ;(try rw[show ((0:Int)).toNat=0 from rfl] at bK);(try simp only[Nat.reduceMul,Nat.zero_mul,Nat.zero_add,Nat.reduceAdd] at bK);(try rw[show ((0:Int)).toNat=0 from rfl] at hf26_0);(try simp only[Nat.reduceMul,Nat.zero_mul,Nat.zero_add,Nat.reduceAdd] at hf26_0);replace cA:=eq_true cA;replace bZ:=eq_true bZ;have HP30:=q9u aA.out (0:Int) 0
    go_wp2_with (first|((with_reducible refine q6n (t:=3) (p:=31) rfl ?_);refine q6a (t:=3) (p:=31) (v:=?vo_w31) (w1:=(wr.setCell ⟨go26,(0:Int).toNat,none⟩ (.int .i64 0))) ?hg ?ho ?hn ?hr ?_;(case ho=>rfl);(case hg=>rfl);(case hn=>rfl);(case hr=>first|(go_simp;done)|(go_simp;rfl));intro bW hw;have hg:wr.grownBy bW (some go26):=(by rw[hw];exact HP30.2);have hp_:Kd.R (Kd.int .i64) 3 bW w.heap.size (fun _=>True) (.slice (some ⟨go26,0,none⟩) aE.length cF) bV:=(by rw[hw,Ny138.out];exact HP30.1);clear HP30;replace aD:=zgr aD hg (q5s aA.out aD.out (by decide));replace aC:=zgr aC hg (q5s aA.out aC.out (by decide));replace HI0:=zA (q0g.grown zI0 hg (q0g.q7c HI0.out aA.out (by decide)));replace HB:=zA ((by rw[hw];exact q3y (HB.out) (Nat.le_trans HL.out GB26.out):Below w0.heap.size w0 bW));replace HK:=zA (q0d.trans zK0 (q0d.q7a hg g) (y0l aA.out));replace aA:=zA hp_;clear hg hw hp_;obtain⟨dD,dC,dB,cU,cT,cS⟩:=ze3 aC;have dM:=aZ.out;have dJ:=aG.out;obtain⟨dA,cZ,cY,cR,cQ,cP⟩:=ze3 aD))
    refine bodyPost_ret (results_cell_row rfl _ _ aN 26 #[.int .i64 (wrap64 (2+aW)),.int .i64 (wrap64 (2+aV)),.slice (some ⟨go26,0,none⟩) aE.length cF] (0,0) _ rfl (zkp aD) Try.underlying26 rfl (by kernel_rfl)) rfl ?_;exact⟨_,zE,zF1 aA aD,zI0,zB0,zK0⟩

def q6m.f (c:List Int) (d:Int) (e:Int):Option (Int × Int × Int × Int):=(q0w.f c d e 6).bind fun a=>((q0w.f c a.2.1 a.2.2 (wrap64 (1+a.1))).bind fun b=>(some (b.1,wrap64 (1+a.1),b.2.1,b.2.2)))
theorem q6m.calls (g:Nat) (s0_0:List Int) (s0_1:Int) (s0_2:Int) (r1:Int) (r2:Int) (r3:Int) (r4:Int) (w0 w:World) (hI:q0g w0 w g s0_0 s0_1 s0_2) (hB:Below w0.heap.size w0 w) (h:q6m.f s0_0 s0_1 s0_2=some (r1,r2,r3,r4)) :
  Calls Try.prog 50 #[.pointer (some ⟨g,0,none⟩)] w fun e w'=>e=.returned (.agg #[.int .i64 r1,.int .i64 r2])∧q0g w0 w' g s0_0 r3 r4∧Below w0.heap.size w0 w'∧q0d w w' g none:=by
 have hu28:=Try.underlying28;have HI0:=zA hI;have HK:=zA (q0d.refl w g none);have HL:=zA hB.size;clear hI;have HW0:=zA hB.size;have HB:=zA hB;clear hB;have H:=h;clear h;unfold q6m.f at H;obtain⟨⟨aG,aM,aK⟩,A2,H⟩:=zB H;obtain⟨⟨aJ,aQ,aN⟩,A3,H⟩:=zB H;simp only[Option.some.injEq,Prod.mk.injEq] at H;obtain⟨rfl,rfl,rfl,rfl⟩:=H;go_enter Try.func50,Try.ntmps50
 go_wp2_with (first|((with_reducible refine zgd 2 rfl ?_);refine zbx 2 #[.int .i64 0,.int .i64 0] 28 ?_;intro aA hg w4 hbox hb;replace HB:=zA (q1b zB0 hb);have aD:=zA hbox;have aH:=zA ((by rw[hg];exact(q0y (w:=w) (g:=g) (row:=none) zK0):w.heap.size≤aA));have aI:=zA ((Nat.le_trans HW0.out (by rw[hg];exact(q0y (w:=w) (g:=g) (row:=none) zK0):w.heap.size≤aA):w0.heap.size≤aA));replace HK:=zA (q0d.trans zK0 (q0d.of_below hb g none) (.inl rfl));have aC:=zA ((by rw[hg];exact Nat.ne_of_lt (q0g.lt (show q0g w0 _ g s0_0 s0_1 s0_2 from zI0)):g≠aA));have aE:=zA ((by rw[hg];exact Nat.ne_of_gt (q0g.lt (show q0g w0 _ g s0_0 s0_1 s0_2 from zI0)):aA≠g));replace HI0:=zA (q0g.below zI0 hb);clear hb hbox hg)|((with_reducible refine zgf 53 rfl ?_);refine zgl 5 Try.func53 #[.pointer (some ⟨g,0,none⟩),.int .i64 6] ?_;(with_reducible refine(q0w.calls g s0_0 s0_1 s0_2 6 aG aM aK w0 _ ?s1 ?s2 A2.out).mono ?_);(case s1=>exact zI0);(case s2=>exact zB0);rintro e w5 ⟨rfl,hi,hb,hk⟩;refine⟨_,rfl,?_⟩;replace aD:=zkB hk aD aE;replace HK:=zA (q0d.trans zK0 hk (.inl rfl));replace HB:=zA hb;replace HI0:=zA (hi);(try clear hb))|((with_reducible refine zgf 53 rfl ?_);refine zgl 9 Try.func53 #[.pointer (some ⟨g,0,none⟩),.int .i64 (wrap64 (1+aG))] ?_;(with_reducible refine(q0w.calls g s0_0 aM aK (wrap64 (1+aG)) aJ aQ aN w0 _ ?s1 ?s2 A3.out).mono ?_);(case s1=>exact zI0);(case s2=>exact zB0);rintro e w6 ⟨rfl,hi,hb,hk⟩;refine⟨_,rfl,?_⟩;replace aD:=zkB hk aD aE;replace HK:=zA (q0d.trans zK0 hk (.inl rfl));replace HB:=zA hb;replace HI0:=zA (hi);(try clear hb);have aY:=aE.out;have aX:=aC.out;obtain⟨aW,aV,aU,aT⟩:=ze2 aD))
 refine bodyPost_ret (results_cell_row rfl _ _ aA 28 #[.int .i64 aJ,.int .i64 (wrap64 (1+aG))] (0,0) _ rfl (zkp aD) Try.underlying28 rfl (by kernel_rfl)) rfl ?_;exact⟨zE,zI0,zB0,zK0⟩

def q1x.l0:Nat→List (S59)→Int→Int→Option (Int)
  |0,_,_,_=>none
  |k+1,b,c,a=>if a<(b.length:Int) then(if 0≤a then(if ((q0e b a).f0)=c then(some ((q0e b a).f1)) else(q1x.l0 k b c (wrap64 (a+1)))) else(none)) else(some 0)
def q1x.f (k:Nat) (a:List (S59)) (b:Int):Option (Int):=q1x.l0 k a b 0
theorem q1x.calls (k:Nat) (A0:Option Addr) (c0:Nat) (l0:List (S59)) (a1:Int) (r:Int) (w:World) (aH:Kd.C k59 w A0 l0.length l0) (aI:l0.length≤c0) (h:q1x.f k l0 a1=some r) :
  Calls Try.prog 31 #[.slice A0 l0.length c0,.int .i64 a1] w fun e w'=>e=.returned (.int .i64 r)∧q2k w w':=by
 have aJ:=zA aH;have bF:=zA aI;clear aH aI;have H:=h;clear h;unfold q1x.f at H;have H':=zA H;clear H;go_enter Try.func31,Try.ntmps31;go_wp2
 go_loopg [5] k (fun kq v5 w'=>∃ (aA:Int),v5=.int .i64 aA∧q0a (q1x.l0 kq l0 a1 aA=some r)∧q0a (kq≤k)∧q2k w w')
 case atStart=>exact⟨(0),zr,H',⟨Nat.le_refl _⟩,by repeat (first|exact q2k.refl _|apply q2k.step)⟩
 case round =>
  clear H';obtain⟨aA,rfl,HA,HK1,⟨m1,rfl⟩⟩:=hrel
  cases gk with
  |zero=>exact absurd HA.out (by simp[q1x.l0])
  |succ k1 =>
   have H:=HA.out;clear HA;simp only[q1x.l0] at H
   by_cases c3:aA<(l0.length:Int)
   ·rw[if_pos c3] at H;have aT:=decide_eq_true c3;clear c3;obtain⟨bE,H⟩:=q5b H;have bD:=zT (0≤(aA:Int));have bB:=zT (aA<(l0.length:Int));obtain⟨aG,aM,aX,aW⟩:=q5x aJ.out aA zd zd;cases aM
    by_cases c5:((q0e l0 aA).f0)=a1
    ·rw[if_pos c5] at H;have aQ:(((q0e l0 aA).f0)==a1)=true:=beq_iff_eq.mpr c5;have aN:(((q0e l0 aA).f0) != a1)=false:=bne_eq_false_iff_eq.mpr c5;clear c5;obtain rfl:=zI H;have bC:=zT (0≤(aA:Int));have bA:=zT (aA<(l0.length:Int));obtain⟨aE,aK,aV,aU⟩:=q5x aJ.out aA zd zd;obtain rfl:aG=aE:=(by injection aK);go_wp2;go_ret;exact⟨by first|rfl|(simp;done)|(simp[*];done),by repeat (first|exact q2k.refl _|apply q2k.step)⟩
    ·rw[if_neg c5] at H;have aQ:(((q0e l0 aA).f0)==a1)=false:=beq_eq_false_iff_ne.mpr c5;have aN:(((q0e l0 aA).f0) != a1)=true:=bne_iff_ne.mpr c5;have H':=zA H;clear H;go_wp2
     go_roundg k1
     case measure=>have:=HK1.out;omega
     case rel=>exact⟨(wrap64 (aA+1)),zr,H',⟨by have:=HK1.out;omega⟩,by repeat (first|exact q2k.refl _|apply q2k.step)⟩
   ·rw[if_neg c3] at H;have aT:=decide_eq_false c3;clear c3;obtain rfl:=zI H;go_wp2;go_ret;exact⟨by first|rfl|(simp;done)|(simp[*];done),by repeat (first|exact q2k.refl _|apply q2k.step)⟩

def q1h.f (a:Int) (b:Int) (c:Int):Option (Bool):=if a≥b then(some (decide (a≤c))) else(some false)
theorem q1h.calls (a0:Int) (a1:Int) (a2:Int) (r:Bool) (w:World) (h:q1h.f a0 a1 a2=some r) :
  Calls Try.prog 38 #[.int .i64 a0,.int .i64 a1,.int .i64 a2] w fun e w'=>e=.returned (.bool r)∧q2k w w':=by
 have H:=h;clear h;unfold q1h.f at H;go_enter Try.func38,Try.ntmps38
 by_cases c4:a0≥a1
 ·rw[if_pos c4] at H;have aA:decide (a1≤a0)=true:=decide_eq_true c4;clear c4;obtain rfl:=zI H;(try simp only[aA]);go_wp2;go_ret;exact⟨by first|rfl|(simp;done)|(simp[*];done),by repeat (first|exact q2k.refl _|apply q2k.step)⟩
 ·rw[if_neg c4] at H;have aA:decide (a1≤a0)=false:=decide_eq_false c4;clear c4;obtain rfl:=zI H;(try simp only[aA]);go_wp2;go_ret;exact⟨by first|rfl|(simp;done)|(simp[*];done),by repeat (first|exact q2k.refl _|apply q2k.step)⟩

mutual
def q1i.j0:Nat→Bool→Int→Int→List Int→Option (Bool)
  |0,_,_,_,_=>none
  |k+1,a,b,c,d=>if a=true then(some false) else(q1i.l0 k 0 b c d)
def q1i.l0:Nat→Int→Int→Int→List Int→Option (Bool)
  |0,_,_,_,_=>none
  |k+1,a,c,d,b=>if a<(b.length:Int) then(if 0≤a then((q1h.f (rd b a) 0 2).bind fun e=>(if e=true then(q1i.l0 k (wrap64 (a+1)) c d b) else(some false))) else(none)) else(some true)
end
def q1i.f (k:Nat) (a:Int) (b:Int) (c:List Int):Option (Bool):=(q1h.f a 1 8).bind fun d=>(if d=true then((q1h.f b 1 8).bind fun e=>(if e=true then(q1i.j0 k ((c.length:Int) != (wrap64 (a * b))) a b c) else(q1i.j0 k true a b c))) else(q1i.j0 k true a b c))
theorem q1i.calls (k:Nat) (aC:Int) (aG:Int) (aJ:Option Addr) (aI:Nat) (aA:List Int) (r:Bool) (w:World) (aX:Kd.C (Kd.int .i64) w aJ aA.length aA) (aY:aA.length≤aI) (h:q1i.f k aC aG aA=some r) :
  Calls Try.prog 61 #[.agg #[.int .i64 aC,.int .i64 aG,.slice aJ aA.length aI]] w fun e w'=>e=.returned (.bool r)∧Below w.heap.size w w':=by
 have hu26:=Try.underlying26;have bF:=zA aX;have bV:=zA aY;clear aX aY;have HB:=zA (Below.refl w.heap.size w);have H:=h;clear h;unfold q1i.f at H;have bD:=zA H;clear H;go_enter Try.func61,Try.ntmps61
 go_upto_region 1 with (first|((with_reducible refine zgd 1 rfl ?_);(try (refine q1w (by rfl) ?_;dsimp only));refine zbx 1 #[.int .i64 aC,.int .i64 aG,.slice aJ aA.length aI] 26 ?_;intro aZ hg w3 hbox hb;have aE:=zA hbox;have bW:=zga (w:=w) hg;replace HB:=zbs hb;clear hb hbox hg))
 (try simp only[Act.put,z_L])
 go_cut [24] (fun v24 wc=>∃ (kq:Nat) (aH:Bool),v24=.bool aH∧q0a (q1i.j0 kq aH aC aG aA=some r)∧q0a (kq≤k)∧q0a (wc.heap[aZ]?=some (.cells #[.int .i64 aC,.int .i64 aG,(.slice aJ aA.length aI)] 26 (0,0)))∧q0a (Below w.heap.size w wc))
 case first =>
  have H:=bD.out;clear bD;obtain⟨bJ,A4,H⟩:=zB H;obtain⟨aV,aU,aT,aQ,aN,aM⟩:=ze3 aE
  by_cases c5:bJ=true
  ·subst c5;rw[if_pos rfl] at H;obtain⟨bI,A6,H⟩:=zB H
   by_cases c7:bI=true
   ·subst c7;rw[if_pos rfl] at H;have H':=zA H;clear H
    go_wp2_with (first|((with_reducible refine zgf 38 rfl ?_);refine zgl 6 Try.func38 #[.int .i64 aC,.int .i64 1,.int .i64 8] ?_;(with_reducible refine(q1h.calls aC 1 8 true _ A4.out).mono ?_);rintro e w' ⟨rfl,⟨nd,rfl⟩⟩;refine⟨_,rfl,?_⟩)|(go_at_call 38;(with_reducible refine(q1h.calls aG 1 8 true _ A6.out).mono ?_);rintro e w' ⟨rfl,⟨nd,rfl⟩⟩))
    go_meet
    case rel=>exact⟨_,(((aA.length:Int) != (wrap64 (aC * aG)))),zr,H',⟨by first|omega|exact Nat.le_refl _⟩,⟨zk aE⟩,⟨zb⟩⟩
   ·replace c7:=Bool.eq_false_iff.mpr c7;subst c7;rw[if_neg zNo] at H;have H':=zA H;clear H
    go_wp2_with (first|((with_reducible refine zgf 38 rfl ?_);refine zgl 6 Try.func38 #[.int .i64 aC,.int .i64 1,.int .i64 8] ?_;(with_reducible refine(q1h.calls aC 1 8 true _ A4.out).mono ?_);rintro e w' ⟨rfl,⟨nd,rfl⟩⟩;refine⟨_,rfl,?_⟩)|(go_at_call 38;(with_reducible refine(q1h.calls aG 1 8 false _ A6.out).mono ?_);rintro e w' ⟨rfl,⟨nd,rfl⟩⟩))
    go_meet
    case rel=>exact⟨_,(true),zr,H',⟨by first|omega|exact Nat.le_refl _⟩,⟨zk aE⟩,⟨zb⟩⟩
  ·replace c5:=Bool.eq_false_iff.mpr c5;subst c5;rw[if_neg zNo] at H;have H':=zA H;clear H
   go_wp2_with (first|((with_reducible refine zgf 38 rfl ?_);refine zgl 6 Try.func38 #[.int .i64 aC,.int .i64 1,.int .i64 8] ?_;(with_reducible refine(q1h.calls aC 1 8 false _ A4.out).mono ?_);rintro e w' ⟨rfl,⟨nd,rfl⟩⟩;refine⟨_,rfl,?_⟩))
   go_meet
   case rel=>exact⟨_,(true),zr,H',⟨by first|omega|exact Nat.le_refl _⟩,⟨zk aE⟩,⟨zb⟩⟩
 case rest =>
  clear bD;(try clear c5);(try clear c7);(try clear aV);(try clear aU);(try clear aT);(try clear aQ);(try clear aN);(try clear aM);obtain⟨kq,aH,rfl,HA,HJ1,aE,HB⟩:=hcut;cases kq with
  |zero=>exact absurd HA.out (by simp[q1i.j0])
  |succ kj1 =>
   have H:=HA.out;clear HA;simp only[q1i.j0] at H
   by_cases aW:aH=true
   ·subst aW;rw[if_pos rfl] at H;obtain rfl:=zI H;go_wp2;go_ret;exact⟨zE,zb⟩
   ·replace aW:=Bool.eq_false_iff.mpr aW;subst aW;rw[if_neg zNo] at H;have H':=zA H;clear H;go_wp2
    go_loopg [3] kj1 (fun kq v3 w'=>∃ (aD:Int),v3=.int .i64 aD∧q0a (q1i.l0 kq aD aC aG aA=some r)∧q0a (kq≤kj1)∧q0a (w'.heap[aZ]?=some (.cells #[.int .i64 aC,.int .i64 aG,(.slice aJ aA.length aI)] 26 (0,0)))∧q0a (Below w.heap.size w w'))
    case atStart=>exact⟨(0),zr,H',⟨Nat.le_refl _⟩,⟨zk aE⟩,⟨zb⟩⟩
    case round =>
     clear H';(try clear c5);(try clear c7);(try clear aW);(try clear aV);(try clear aU);(try clear aT);(try clear aQ);(try clear aN);(try clear aM);obtain⟨aD,rfl,HA,HK2,aE,HB⟩:=hrel
     cases gk with
     |zero=>exact absurd HA.out (by simp[q1i.l0])
     |succ k2 =>
      have H:=HA.out;clear HA;simp only[q1i.l0] at H;obtain⟨bR,bQ,bP,bO,bN,bM⟩:=ze3 aE
      by_cases c12:aD<(aA.length:Int)
      ·rw[if_pos c12] at H;have bE:=decide_eq_true c12;clear c12;obtain⟨bT,H⟩:=q5b H;obtain⟨bH,bG,H⟩:=zB H;have bY:=zT (0≤(aD:Int));have bX:=zT (aD<(aA.length:Int));obtain⟨bU,bK,aK⟩:=q3r bF.out aD zd zd;cases bK;replace aK:=zC HB aK
       by_cases bA:bH=true
       ·subst bA;rw[if_pos rfl] at H;have H':=zA H;clear H
        go_wp2_with (first|((with_reducible refine zgf 38 rfl ?_);refine zgl 37 Try.func38 #[.int .i64 (rd aA aD),.int .i64 0,.int .i64 2] ?_;(with_reducible refine(q1h.calls (rd aA aD) 0 2 true _ bG.out).mono ?_);rintro e w' ⟨rfl,⟨nd,rfl⟩⟩;refine⟨_,rfl,?_⟩))
        go_roundg k2
        case measure=>have:=HJ1.out;have:=HK2.out;omega
        case rel=>exact⟨(wrap64 (aD+1)),zr,H',⟨by have:=HJ1.out;have:=HK2.out;omega⟩,⟨zk aE⟩,⟨zb⟩⟩
       ·replace bA:=Bool.eq_false_iff.mpr bA;subst bA;rw[if_neg zNo] at H;obtain rfl:=zI H
        go_wp2_with (first|((with_reducible refine zgf 38 rfl ?_);refine zgl 37 Try.func38 #[.int .i64 (rd aA aD),.int .i64 0,.int .i64 2] ?_;(with_reducible refine(q1h.calls (rd aA aD) 0 2 false _ bG.out).mono ?_);rintro e w' ⟨rfl,⟨nd,rfl⟩⟩;refine⟨_,rfl,?_⟩))
        go_ret;exact⟨zE,zb⟩
      ·rw[if_neg c12] at H;have bE:=decide_eq_false c12;clear c12;obtain rfl:=zI H;go_wp2;go_ret;exact⟨zE,zb⟩

def q4v.f (k:Nat) (b:Int) (c:Int) (a:List Int) (d:Int):Option (Bool):=(q1i.f k b c a).bind fun e=>(if e=true then((q1h.f d 0 (wrap64 ((a.length:Int)-1))).bind fun f=>(some f)) else(some false))
theorem q4v.calls (k:Nat) (aE:Int) (aD:Int) (aH:Option Addr) (aG:Nat) (aA:List Int) (a1:Int) (r:Bool) (w:World) (aI:Kd.C (Kd.int .i64) w aH aA.length aA) (aJ:aA.length≤aG) (h:q4v.f k aE aD aA a1=some r) :
  Calls Try.prog 84 #[.agg #[.int .i64 aE,.int .i64 aD,.slice aH aA.length aG],.int .i64 a1] w fun e w'=>e=.returned (.bool r)∧Below w.heap.size w w':=by
 have hu26:=Try.underlying26;have aK:=zA aI;have aM:=zA aJ;clear aI aJ;have HB:=zA (Below.refl w.heap.size w);have H:=h;clear h;unfold q4v.f at H;obtain⟨aV,A3,H⟩:=zB H;go_enter Try.func84,Try.ntmps84
 by_cases c4:aV=true
 ·subst c4;rw[if_pos rfl] at H;obtain⟨aU,A5,H⟩:=zB H;obtain rfl:=zI H
  go_wp2_with (first|((with_reducible refine zgd 2 rfl ?_);(try (refine q1w (by rfl) ?_;dsimp only));refine zbx 2 #[.int .i64 aE,.int .i64 aD,.slice aH aA.length aG] 26 ?_;intro aN hg w6 hbox hb;have aC:=zA hbox;have aT:=zga (w:=w) hg;replace HB:=zbs hb;clear hb hbox hg;obtain⟨bO,bN,bM,bI,bH,bG⟩:=ze3 aC)|((with_reducible refine zgf 61 rfl ?_);refine zgl 6 Try.func61 #[.agg #[.int .i64 aE,.int .i64 aD,.slice aH aA.length aG]] ?_;(with_reducible refine(q1i.calls k aE aD _ _ aA true _ ?s1 ?s2 A3.out).mono ?_);(case s1=>exact zCb aK);(case s2=>exact aM.out);rintro e w8 ⟨rfl,hb⟩;refine⟨_,rfl,?_⟩;replace aC:=zkb aC hb;replace HB:=zbs hb;(try clear hb);obtain⟨bL,bK,bJ,bF,bE,bD⟩:=ze3 aC)|(go_at_call 38;(with_reducible refine(q1h.calls a1 0 (wrap64 ((aA.length:Int)-1)) aU _ A5.out).mono ?_);rintro e w' ⟨rfl,⟨nd,rfl⟩⟩))
  go_ret;exact⟨zE,zb⟩
 ·replace c4:=Bool.eq_false_iff.mpr c4;subst c4;rw[if_neg zNo] at H;obtain rfl:=zI H
  go_wp2_with (first|((with_reducible refine zgd 2 rfl ?_);(try (refine q1w (by rfl) ?_;dsimp only));refine zbx 2 #[.int .i64 aE,.int .i64 aD,.slice aH aA.length aG] 26 ?_;intro aN hg bS hbox hb;have aC:=zA hbox;have aT:=zga (w:=w) hg;replace HB:=zbs hb;clear hb hbox hg;obtain⟨bC,bB,bA,aZ,aY,aX⟩:=ze3 aC)|((with_reducible refine zgf 61 rfl ?_);refine zgl 6 Try.func61 #[.agg #[.int .i64 aE,.int .i64 aD,.slice aH aA.length aG]] ?_;(with_reducible refine(q1i.calls k aE aD _ _ aA false _ ?s1 ?s2 A3.out).mono ?_);(case s1=>exact zCb aK);(case s2=>exact aM.out);rintro e bR ⟨rfl,hb⟩;refine⟨_,rfl,?_⟩;replace aC:=zkb aC hb;replace HB:=zbs hb;(try clear hb)))
  go_ret;exact⟨zE,zb⟩

def q1y.f (k:Nat) (c:Int) (d:Int) (b:List Int) (a:Int):Option (Bool):=(q4v.f k c d b a).bind fun e=>(if e=true then(if 0≤a then(if a<(b.length:Int) then(some ((rd b a) != 2)) else(none)) else(none)) else(some false))
theorem q1y.calls (k:Nat) (aE:Int) (aD:Int) (aH:Option Addr) (aG:Nat) (aA:List Int) (a1:Int) (r:Bool) (w:World) (aM:Kd.C (Kd.int .i64) w aH aA.length aA) (aN:aA.length≤aG) (h:q1y.f k aE aD aA a1=some r) :
  Calls Try.prog 60 #[.agg #[.int .i64 aE,.int .i64 aD,.slice aH aA.length aG],.int .i64 a1] w fun e w'=>e=.returned (.bool r)∧Below w.heap.size w w':=by
 have hu26:=Try.underlying26;have aK:=zA aM;have aQ:=zA aN;clear aM aN;have HB:=zA (Below.refl w.heap.size w);have H:=h;clear h;unfold q1y.f at H;obtain⟨aW,A3,H⟩:=zB H;go_enter Try.func60,Try.ntmps60
 by_cases c4:aW=true
 ·subst c4;rw[if_pos rfl] at H;obtain⟨bV,H⟩:=q5b H;obtain⟨bU,H⟩:=q5b H;obtain rfl:=zI H
  go_wp2_with (first|((with_reducible refine zgd 2 rfl ?_);refine zbx 2 #[.int .i64 aE,.int .i64 aD,.slice aH aA.length aG] 26 ?_;intro aT hg w7 hbox hb;have aC:=zA hbox;have aV:=zga (w:=w) hg;replace HB:=zbs hb;clear hb hbox hg;obtain⟨bP,bO,bN,bM,bL,bK⟩:=ze3 aC)|((with_reducible refine zgf 84 rfl ?_);refine zgl 7 Try.func84 #[.agg #[.int .i64 aE,.int .i64 aD,.slice aH aA.length aG],.int .i64 a1] ?_;(with_reducible refine(q4v.calls k aE aD _ _ aA a1 true _ ?s1 ?s2 A3.out).mono ?_);(case s1=>exact zCb aK);(case s2=>exact aQ.out);rintro e w9 ⟨rfl,hb⟩;refine⟨_,rfl,?_⟩;replace aC:=zkb aC hb;replace HB:=zbs hb;(try clear hb);obtain⟨bJ,bI,bH,bD,bC,bB⟩:=ze3 aC;have bT:=zT (0≤(a1:Int));have bS:=zT (a1<(aA.length:Int));obtain⟨bR,aX,aI⟩:=q3r aK.out a1 zd zd;cases aX;replace aI:=zC HB aI))
  go_ret;exact⟨zE,zb⟩
 ·replace c4:=Bool.eq_false_iff.mpr c4;subst c4;rw[if_neg zNo] at H;obtain rfl:=zI H
  go_wp2_with (first|((with_reducible refine zgd 2 rfl ?_);refine zbx 2 #[.int .i64 aE,.int .i64 aD,.slice aH aA.length aG] 26 ?_;intro aT hg bX hbox hb;have aC:=zA hbox;have aV:=zga (w:=w) hg;replace HB:=zbs hb;clear hb hbox hg;obtain⟨bG,bF,bE,bA,aZ,aY⟩:=ze3 aC)|((with_reducible refine zgf 84 rfl ?_);refine zgl 7 Try.func84 #[.agg #[.int .i64 aE,.int .i64 aD,.slice aH aA.length aG],.int .i64 a1] ?_;(with_reducible refine(q4v.calls k aE aD _ _ aA a1 false _ ?s1 ?s2 A3.out).mono ?_);(case s1=>exact zCb aK);(case s2=>exact aQ.out);rintro e bW ⟨rfl,hb⟩;refine⟨_,rfl,?_⟩;replace aC:=zkb aC hb;replace HB:=zbs hb;(try clear hb)))
  go_ret;exact⟨zE,zb⟩

def q0m.l0:Nat→List (S59)→Int→Int→Int→List Int→Option (Bool)
  |0,_,_,_,_,_=>none
  |k+1,b,a,c,d,e=>if a<(b.length:Int) then(if 0≤a then((q1y.f k c d e ((q0e b a).f0)).bind fun f=>(if f=true then((q1h.f ((q0e b a).f1) 1 10000).bind fun g=>(if g=true then(if a>0 then(if 0≤(wrap64 (a-1)) then(if (wrap64 (a-1))<(b.length:Int) then(if ((q0e b (wrap64 (a-1))).f0)≥((q0e b a).f0) then(some false) else(q0m.l0 k b (wrap64 (a+1)) c d e)) else(none)) else(none)) else(q0m.l0 k b (wrap64 (a+1)) c d e)) else(some false))) else(some false))) else(none)) else((q1i.f k c d e).bind fun h=>(if h=true then(some (decide ((b.length:Int)≤20))) else(some false)))
def q0m.f (k:Nat) (a:Int) (b:Int) (c:List Int) (d:List (S59)):Option (Bool):=q0m.l0 k d 0 a b c
def q0m.T4:Bool × List (List Nat × List Nat):=(true,[([],[]),([],[]),([],[]),([1,2],[1,2]),([3],[3]),([4],[4]),([0,5],[0,5]),([6],[6]),([7,6],[7]),([8],[8]),([8],[8]),([9,10,8],[8,9,10]),([11,8],[8,11]),([12,8],[8,12]),([13,8,8],[8,13]),([14,8],[8,14]),([8,15],[8,15]),([16,14],[16]),([17],[17]),([18,17],[17,18]),([19,17,17],[17,19]),([20],[20]),([20],[20]),([22,20],[20,22]),([21,23,20],[20,21,23]),([24,20],[20,24]),([25,20],[20,25]),([20],[20]),([20],[20]),([27,28,20],[20,27,28]),([29,20],[20,29]),([30,20],[20,30]),([26,31,20],[20,26,31]),([20,32,17],[17,20,32]),([17,33],[17,33])])
def q0m.B4:List Nat:=[0,0,0,6,14,30,63,127,255,511,511,2047,4095,8191,16383,32767,65535,131071,262143,524287,1048575,2097151,2097151,6291455,16777215,33554431,67108863,2097151,2097151,404750335,941621247,2015363071,4294967295,8589934591,17179869183]
theorem q0m.q9n:q6q .any (opsOf Try.f39 4)=q0m.T4:=by kernel_rfl
theorem q0m.q6y:q4a q0m.T4.2 q0m.B4=true:=by kernel_rfl
theorem q0m.calls (k:Nat) (aK:Int) (aJ:Int) (aT:Option Addr) (aQ:Nat) (aH:List Int) (A1:Option Addr) (c1:Nat) (l1:List (S59)) (r:Bool) (w:World) (bF:Kd.C (Kd.int .i64) w aT aH.length aH) (bG:aH.length≤aQ) (bO:Kd.C k59 w A1 l1.length l1) (bP:l1.length≤c1) (h:q0m.f k aK aJ aH l1=some r) :
  Calls Try.prog 39 #[.agg #[.int .i64 aK,.int .i64 aJ,.slice aT aH.length aQ],.slice A1 l1.length c1] w fun e w'=>e=.returned (.bool r)∧Below w.heap.size w w':=by
 have hu26:=Try.underlying26;have aX:=zA bF;have aY:=zA bG;clear bF bG;have bA:=zA bO;have cW:=zA bP;clear bO bP;have HB:=zA (Below.refl w.heap.size w);have H:=h;clear h;unfold q0m.f at H;have H':=zA H;clear H;go_enter Try.func39,Try.ntmps39
 go_wp2_with (first|((with_reducible refine zgd 2 rfl ?_);(try (refine q1w (by rfl) ?_;dsimp only));refine zbx 2 #[.int .i64 aK,.int .i64 aJ,.slice aT aH.length aQ] 26 ?_;intro aN hg w3 hbox hb;have aA:=zA hbox;have cI:=zga (w:=w) hg;replace HB:=zbs hb;clear hb hbox hg))
 go_loopg [5] k (fun kq v5 w'=>∃ (aC:Int),v5=.int .i64 aC∧q0a (q0m.l0 kq l1 aC aK aJ aH=some r)∧q0a (kq≤k)∧q0a (w'.heap[aN]?=some (.cells #[.int .i64 aK,.int .i64 aJ,(.slice aT aH.length aQ)] 26 (0,0)))∧q0a (Below w.heap.size w w'))
 case atStart=>exact⟨(0),zr,H',⟨Nat.le_refl _⟩,⟨zk aA⟩,⟨zb⟩⟩
 case round =>
  clear H';(try clear c1);obtain⟨aC,rfl,HA,HK1,aA,HB⟩:=hrel
  cases gk with
  |zero=>exact absurd HA.out (by simp[q0m.l0])
  |succ k1 =>
   have H:=HA.out;clear HA;simp only[q0m.l0] at H
   by_cases c4:aC<(l1.length:Int)
   ·rw[if_pos c4] at H;have bW:=decide_eq_true c4;clear c4;obtain⟨cJ,H⟩:=q5b H;obtain⟨bS,A6,H⟩:=zB H
    by_cases c7:bS=true
    ·subst c7;rw[if_pos rfl] at H;obtain⟨bR,A8,H⟩:=zB H
     by_cases c9:bR=true
     ·subst c9;rw[if_pos rfl] at H
      by_cases c10:aC>0
      ·rw[if_pos c10] at H;have bN:decide (0<aC)=true:=decide_eq_true c10;clear c10;obtain⟨aM,aZ⟩:∃ j_:Int,(wrap64 (aC-1))=j_:=⟨_,rfl⟩
       replace H:(if 0≤(aM) then(if (aM)<(l1.length:Int) then(if ((q0e l1 (aM)).f0)≥((q0e l1 aC).f0) then(some false) else(q0m.l0 k1 l1 (wrap64 (aC+1)) aK aJ aH)) else(none)) else(none))=some r:=by first|(rw[aZ] at H;exact H)|(simp only[aZ] at H ⊢;exact H)
       (try rw[aZ] at A6);(try rw[aZ] at A8);have cE:(IntKind.i64.wrap (aC-1))=aM:=(q2n _).trans aZ;obtain⟨cH,H⟩:=q5b H;obtain⟨cG,H⟩:=q5b H
       by_cases c14:((q0e l1 (aM)).f0)≥((q0e l1 aC).f0)
       ·rw[if_pos c14] at H;have bM:decide (((q0e l1 aC).f0)≤((q0e l1 (aM)).f0))=true:=decide_eq_true c14;clear c14;obtain rfl:=zI H
        try go_wp2
        replace aA:=q4h aA;replace HB:=z_b HB;have bC:=zT (0≤(aC:Int));have bB:=zT (aC<(l1.length:Int));obtain⟨aD,aW,aG,aE⟩:=q5x bA.out aC zd zd;cases aW;have bV:=zT (0≤((aM):Int));have bU:=zT ((aM)<(l1.length:Int));obtain⟨bD,bE,aV,aU⟩:=q5x bA.out (aM) zd zd;obtain rfl:aD=bD:=(by injection bE);refine q3g (n:=35) (S:=fun w'=>w'.cell? ⟨aN,0,none⟩=some (.int .i64 aK)∧w'.cell? ⟨aN,1,none⟩=some (.int .i64 aJ)∧w'.cell? ⟨aN,2,none⟩=some (.slice aT aH.length aQ)∧w'.cell? (aD.add ((aC).toNat * 2))=some (.int .i64 ((q0e l1 aC).f0))∧w'.cell? ⟨(aD.add ((aC).toNat * 2)).block,(aD.add ((aC).toNat * 2)).off+1,none⟩=some (.int .i64 ((q0e l1 aC).f1))∧w'.cell? (aD.add (((aM)).toNat * 2))=some (.int .i64 ((q0e l1 (aM)).f0))∧w'.cell? ⟨(aD.add (((aM)).toNat * 2)).block,(aD.add (((aM)).toNat * 2)).off+1,none⟩=some (.int .i64 ((q0e l1 (aM)).f1))) (ds:=[]) _ (by kernel_rfl) rfl rfl ⟨zq aA 0,zq aA 1,zq aA 2,(zC HB aG),(zC HB aE),(zC HB aV),(zC HB aU)⟩ (fun hHeld=>?_);refine q1m q0m.q9n q0m.q6y (fun HT_ HW_=>?_);generalize wr.drew=cV at aA HB hHeld ⊢;refine z_p 1 ?_;refine z_p 2 ?_;refine z_p 3 ?_
        refine z_p 4 ?_;refine zt 0 12 HT_ HW_ hHeld ?_;refine zt 5 17 HT_ HW_ hHeld ?_;refine zo 6 18 HT_ (fun K hK=>?_);refine zgo Try.func60 #[.agg #[.int .i64 aK,.int .i64 aJ,.slice aT aH.length aQ],.int .i64 ((q0e l1 aC).f0)] ?_
        with_reducible refine(q1y.calls k1 aK aJ _ _ aH ((q0e l1 aC).f0) true _ ?s1 ?s2 A6.out).mono ?_
        (case s1=>exact zCb aX);(case s2=>exact aY.out);rintro e cU ⟨rfl,hb⟩;refine⟨_,rfl,?_⟩;replace aA:=zkb aA hb;replace HB:=zbs hb;(try clear hb);refine hK.out _ _ ⟨zq aA 0,zq aA 1,zq aA 2,(zC HB aG),(zC HB aE),(zC HB aV),(zC HB aU)⟩ (fun hHeld=>?_);clear hK K;refine q1j zV ?_;refine z_p 7 ?_;refine z_p 8 ?_;refine z_p 9 ?_;refine z_p 10 ?_;refine z_p 11 ?_;refine z_p 12 ?_;refine zt 13 25 HT_ HW_ hHeld ?_;refine zo 14 26 HT_ (fun K hK=>?_);refine zgo Try.func38 #[.int .i64 ((q0e l1 aC).f1),.int .i64 1,.int .i64 10000] ?_
        with_reducible refine(q1h.calls ((q0e l1 aC).f1) 1 10000 true _ A8.out).mono ?_
        rintro e w' ⟨rfl,⟨nd,rfl⟩⟩;refine⟨_,rfl,?_⟩;refine hK.out _ _ ⟨zq aA 0,zq aA 1,zq aA 2,(zC HB aG :),(zC HB aE :),(zC HB aV :),(zC HB aU :)⟩ (fun hHeld=>?_);clear hK K;refine q1j zV ?_;refine z_p 15 ?_;refine z_p 16 ?_;refine z_p 17 ?_;refine z_p 18 ?_;refine z_p 19 ?_;refine z_p 20 ?_;refine z_p 21 ?_;refine z_p 22 ?_;refine z_p 23 ?_;refine z_p 24 ?_;refine z_p 25 ?_;refine z_p 27 ?_;refine z_p 28 ?_;refine z_p 29 ?_;refine z_p 30 ?_;refine zt 26 38 HT_ HW_ hHeld ?_;refine zt 31 43 HT_ HW_ hHeld ?_;refine z_p 32 ?_;refine z_p 33 ?_;refine z_p 34 ?_;refine q4j (q2e HT_.out (by kernel_rfl)) ?_
        try go_wp2
        go_ret;exact⟨by first|rfl|(simp[q1o,q1n] <;> rfl)|(simp only[←aZ];first|rfl|(simp[q1o,q1n] <;> rfl))|(simp[*,q1o,q1n] <;> rfl),zb⟩
       ·rw[if_neg c14] at H;have bM:decide (((q0e l1 aC).f0)≤((q0e l1 (aM)).f0))=false:=decide_eq_false c14;clear c14;have H':=zA H;clear H
        try go_wp2
        replace aA:=q4h aA;replace HB:=z_b HB;have bC:=zT (0≤(aC:Int));have bB:=zT (aC<(l1.length:Int));obtain⟨aD,aW,aG,aE⟩:=q5x bA.out aC zd zd;cases aW;have bV:=zT (0≤((aM):Int));have bU:=zT ((aM)<(l1.length:Int));obtain⟨bD,bE,aV,aU⟩:=q5x bA.out (aM) zd zd;obtain rfl:aD=bD:=(by injection bE);refine q3g (n:=35) (S:=fun w'=>w'.cell? ⟨aN,0,none⟩=some (.int .i64 aK)∧w'.cell? ⟨aN,1,none⟩=some (.int .i64 aJ)∧w'.cell? ⟨aN,2,none⟩=some (.slice aT aH.length aQ)∧w'.cell? (aD.add ((aC).toNat * 2))=some (.int .i64 ((q0e l1 aC).f0))∧w'.cell? ⟨(aD.add ((aC).toNat * 2)).block,(aD.add ((aC).toNat * 2)).off+1,none⟩=some (.int .i64 ((q0e l1 aC).f1))∧w'.cell? (aD.add (((aM)).toNat * 2))=some (.int .i64 ((q0e l1 (aM)).f0))∧w'.cell? ⟨(aD.add (((aM)).toNat * 2)).block,(aD.add (((aM)).toNat * 2)).off+1,none⟩=some (.int .i64 ((q0e l1 (aM)).f1))) (ds:=[]) _ (by kernel_rfl) rfl rfl ⟨zq aA 0,zq aA 1,zq aA 2,(zC HB aG),(zC HB aE),(zC HB aV),(zC HB aU)⟩ (fun hHeld=>?_);refine q1m q0m.q9n q0m.q6y (fun HT_ HW_=>?_);generalize wr.drew=cT at aA HB hHeld ⊢;refine z_p 1 ?_;refine z_p 2 ?_;refine z_p 3 ?_
        refine z_p 4 ?_;refine zt 0 12 HT_ HW_ hHeld ?_;refine zt 5 17 HT_ HW_ hHeld ?_;refine zo 6 18 HT_ (fun K hK=>?_);refine zgo Try.func60 #[.agg #[.int .i64 aK,.int .i64 aJ,.slice aT aH.length aQ],.int .i64 ((q0e l1 aC).f0)] ?_
        with_reducible refine(q1y.calls k1 aK aJ _ _ aH ((q0e l1 aC).f0) true _ ?s1 ?s2 A6.out).mono ?_
        (case s1=>exact zCb aX);(case s2=>exact aY.out);rintro e cS ⟨rfl,hb⟩;refine⟨_,rfl,?_⟩;replace aA:=zkb aA hb;replace HB:=zbs hb;(try clear hb);refine hK.out _ _ ⟨zq aA 0,zq aA 1,zq aA 2,(zC HB aG),(zC HB aE),(zC HB aV),(zC HB aU)⟩ (fun hHeld=>?_);clear hK K;refine q1j zV ?_;refine z_p 7 ?_;refine z_p 8 ?_;refine z_p 9 ?_;refine z_p 10 ?_;refine z_p 11 ?_;refine z_p 12 ?_;refine zt 13 25 HT_ HW_ hHeld ?_;refine zo 14 26 HT_ (fun K hK=>?_);refine zgo Try.func38 #[.int .i64 ((q0e l1 aC).f1),.int .i64 1,.int .i64 10000] ?_
        with_reducible refine(q1h.calls ((q0e l1 aC).f1) 1 10000 true _ A8.out).mono ?_
        rintro e w' ⟨rfl,⟨nd,rfl⟩⟩;refine⟨_,rfl,?_⟩;refine hK.out _ _ ⟨zq aA 0,zq aA 1,zq aA 2,(zC HB aG :),(zC HB aE :),(zC HB aV :),(zC HB aU :)⟩ (fun hHeld=>?_);clear hK K;refine q1j zV ?_;refine z_p 15 ?_;refine z_p 16 ?_;refine z_p 17 ?_;refine z_p 18 ?_;refine z_p 19 ?_;refine z_p 20 ?_;refine z_p 21 ?_;refine z_p 22 ?_;refine z_p 23 ?_;refine z_p 24 ?_;refine z_p 25 ?_;refine z_p 27 ?_;refine z_p 28 ?_;refine z_p 29 ?_;refine z_p 30 ?_;refine zt 26 38 HT_ HW_ hHeld ?_;refine zt 31 43 HT_ HW_ hHeld ?_;refine z_p 32 ?_;refine z_p 33 ?_;refine z_p 34 ?_;refine q4j (q2e HT_.out (by kernel_rfl)) ?_
        try go_wp2
        go_roundg k1
        case measure=>have:=HK1.out;omega
        case rel=>exact⟨(wrap64 (aC+1)),zr,H',⟨by have:=HK1.out;omega⟩,⟨zk aA⟩,⟨zb⟩⟩
      ·rw[if_neg c10] at H;have bN:decide (0<aC)=false:=decide_eq_false c10;clear c10;have H':=zA H;clear H
       try go_wp2
       replace aA:=q4h aA;replace HB:=z_b HB;have bC:=zT (0≤(aC:Int));have bB:=zT (aC<(l1.length:Int));obtain⟨aD,aW,aG,aE⟩:=q5x bA.out aC zd zd;cases aW;refine q3g (n:=35) (S:=fun w'=>w'.cell? ⟨aN,0,none⟩=some (.int .i64 aK)∧w'.cell? ⟨aN,1,none⟩=some (.int .i64 aJ)∧w'.cell? ⟨aN,2,none⟩=some (.slice aT aH.length aQ)∧w'.cell? (aD.add ((aC).toNat * 2))=some (.int .i64 ((q0e l1 aC).f0))∧w'.cell? ⟨(aD.add ((aC).toNat * 2)).block,(aD.add ((aC).toNat * 2)).off+1,none⟩=some (.int .i64 ((q0e l1 aC).f1))) (ds:=[]) _ (by kernel_rfl) rfl rfl ⟨zq aA 0,zq aA 1,zq aA 2,(zC HB aG),(zC HB aE)⟩ (fun hHeld=>?_);refine q1m q0m.q9n q0m.q6y (fun HT_ HW_=>?_);generalize wr.drew=cR at aA HB hHeld ⊢;refine z_p 1 ?_;refine z_p 2 ?_;refine z_p 3 ?_;refine z_p 4 ?_;refine zt 0 12 HT_ HW_ hHeld ?_;refine zt 5 17 HT_ HW_ hHeld ?_;refine zo 6 18 HT_ (fun K hK=>?_);refine zgo Try.func60 #[.agg #[.int .i64 aK,.int .i64 aJ,.slice aT aH.length aQ],.int .i64 ((q0e l1 aC).f0)] ?_
       with_reducible refine(q1y.calls k1 aK aJ _ _ aH ((q0e l1 aC).f0) true _ ?s1 ?s2 A6.out).mono ?_
       (case s1=>exact zCb aX);(case s2=>exact aY.out);rintro e cQ ⟨rfl,hb⟩;refine⟨_,rfl,?_⟩;replace aA:=zkb aA hb;replace HB:=zbs hb;(try clear hb);refine hK.out _ _ ⟨zq aA 0,zq aA 1,zq aA 2,(zC HB aG),(zC HB aE)⟩ (fun hHeld=>?_);clear hK K;refine q1j zV ?_;refine z_p 7 ?_;refine z_p 8 ?_;refine z_p 9 ?_;refine z_p 10 ?_;refine z_p 11 ?_;refine z_p 12 ?_;refine zt 13 25 HT_ HW_ hHeld ?_;refine zo 14 26 HT_ (fun K hK=>?_);refine zgo Try.func38 #[.int .i64 ((q0e l1 aC).f1),.int .i64 1,.int .i64 10000] ?_
       with_reducible refine(q1h.calls ((q0e l1 aC).f1) 1 10000 true _ A8.out).mono ?_
       rintro e w' ⟨rfl,⟨nd,rfl⟩⟩;refine⟨_,rfl,?_⟩;refine hK.out _ _ ⟨zq aA 0,zq aA 1,zq aA 2,(zC HB aG :),(zC HB aE :)⟩ (fun hHeld=>?_);clear hK K;refine q1j zV ?_;refine z_p 15 ?_;refine z_p 16 ?_;refine z_p 17 ?_;refine z_p 18 ?_;refine z_p 19 ?_;refine z_p 20 ?_;refine z_u 21 ?_;refine z_u 22 ?_;refine z_u 23 ?_;refine z_u 24 ?_;refine z_u 25 ?_;refine z_u 26 ?_;refine z_u 27 ?_;refine z_u 28 ?_;refine z_u 29 ?_;refine z_u 30 ?_;refine z_u 31 ?_;refine z_u 32 ?_;refine z_p 33 ?_;refine z_p 34 ?_;refine q4j (q2e HT_.out (by kernel_rfl)) ?_
       try go_wp2
       go_roundg k1
       case measure=>have:=HK1.out;omega
       case rel=>exact⟨(wrap64 (aC+1)),zr,H',⟨by have:=HK1.out;omega⟩,⟨zk aA⟩,⟨zb⟩⟩
     ·replace c9:=Bool.eq_false_iff.mpr c9;subst c9;rw[if_neg zNo] at H;obtain rfl:=zI H
      try go_wp2
      replace aA:=q4h aA;replace HB:=z_b HB;have bC:=zT (0≤(aC:Int));have bB:=zT (aC<(l1.length:Int));obtain⟨aD,aW,aG,aE⟩:=q5x bA.out aC zd zd;cases aW;refine q3g (n:=35) (S:=fun w'=>w'.cell? ⟨aN,0,none⟩=some (.int .i64 aK)∧w'.cell? ⟨aN,1,none⟩=some (.int .i64 aJ)∧w'.cell? ⟨aN,2,none⟩=some (.slice aT aH.length aQ)∧w'.cell? (aD.add ((aC).toNat * 2))=some (.int .i64 ((q0e l1 aC).f0))∧w'.cell? ⟨(aD.add ((aC).toNat * 2)).block,(aD.add ((aC).toNat * 2)).off+1,none⟩=some (.int .i64 ((q0e l1 aC).f1))) (ds:=[]) _ (by kernel_rfl) rfl rfl ⟨zq aA 0,zq aA 1,zq aA 2,(zC HB aG),(zC HB aE)⟩ (fun hHeld=>?_);refine q1m q0m.q9n q0m.q6y (fun HT_ HW_=>?_);generalize wr.drew=cP at aA HB hHeld ⊢;refine z_p 1 ?_;refine z_p 2 ?_;refine z_p 3 ?_;refine z_p 4 ?_;refine zt 0 12 HT_ HW_ hHeld ?_;refine zt 5 17 HT_ HW_ hHeld ?_;refine zo 6 18 HT_ (fun K hK=>?_);refine zgo Try.func60 #[.agg #[.int .i64 aK,.int .i64 aJ,.slice aT aH.length aQ],.int .i64 ((q0e l1 aC).f0)] ?_
      with_reducible refine(q1y.calls k1 aK aJ _ _ aH ((q0e l1 aC).f0) true _ ?s1 ?s2 A6.out).mono ?_
      (case s1=>exact zCb aX);(case s2=>exact aY.out);rintro e cO ⟨rfl,hb⟩;refine⟨_,rfl,?_⟩;replace aA:=zkb aA hb;replace HB:=zbs hb;(try clear hb);refine hK.out _ _ ⟨zq aA 0,zq aA 1,zq aA 2,(zC HB aG),(zC HB aE)⟩ (fun hHeld=>?_);clear hK K;refine q1j zV ?_;refine z_p 7 ?_;refine z_p 8 ?_;refine z_p 9 ?_;refine z_p 10 ?_;refine z_p 11 ?_;refine z_p 12 ?_;refine zt 13 25 HT_ HW_ hHeld ?_;refine zo 14 26 HT_ (fun K hK=>?_);refine zgo Try.func38 #[.int .i64 ((q0e l1 aC).f1),.int .i64 1,.int .i64 10000] ?_
      with_reducible refine(q1h.calls ((q0e l1 aC).f1) 1 10000 false _ A8.out).mono ?_
      rintro e w' ⟨rfl,⟨nd,rfl⟩⟩;refine⟨_,rfl,?_⟩;refine hK.out _ _ ⟨zq aA 0,zq aA 1,zq aA 2,(zC HB aG :),(zC HB aE :)⟩ (fun hHeld=>?_);clear hK K;refine q1j zV ?_;refine z_p 15 ?_;refine z_p 16 ?_;refine z_p 17 ?_;refine z_u 18 ?_;refine z_u 19 ?_;refine z_u 20 ?_;refine z_u 21 ?_;refine z_u 22 ?_;refine z_u 23 ?_;refine z_u 24 ?_;refine z_u 25 ?_;refine z_u 26 ?_;refine z_u 27 ?_;refine z_u 28 ?_;refine z_u 29 ?_;refine z_u 30 ?_;refine z_u 31 ?_;refine z_u 32 ?_;refine z_u 33 ?_;refine z_p 34 ?_;refine q4j (q2e HT_.out (by kernel_rfl)) ?_
      try go_wp2
      go_ret;exact⟨zE,zb⟩
    ·replace c7:=Bool.eq_false_iff.mpr c7;subst c7;rw[if_neg zNo] at H;obtain rfl:=zI H
     try go_wp2
     replace aA:=q4h aA;replace HB:=z_b HB;have bC:=zT (0≤(aC:Int));have bB:=zT (aC<(l1.length:Int));obtain⟨aD,aW,aG,aE⟩:=q5x bA.out aC zd zd;cases aW;refine q3g (n:=35) (S:=fun w'=>w'.cell? ⟨aN,0,none⟩=some (.int .i64 aK)∧w'.cell? ⟨aN,1,none⟩=some (.int .i64 aJ)∧w'.cell? ⟨aN,2,none⟩=some (.slice aT aH.length aQ)∧w'.cell? (aD.add ((aC).toNat * 2))=some (.int .i64 ((q0e l1 aC).f0))∧w'.cell? ⟨(aD.add ((aC).toNat * 2)).block,(aD.add ((aC).toNat * 2)).off+1,none⟩=some (.int .i64 ((q0e l1 aC).f1))) (ds:=[]) _ (by kernel_rfl) rfl rfl ⟨zq aA 0,zq aA 1,zq aA 2,(zC HB aG),(zC HB aE)⟩ (fun hHeld=>?_);refine q1m q0m.q9n q0m.q6y (fun HT_ HW_=>?_);generalize wr.drew=cN at aA HB hHeld ⊢;refine z_p 1 ?_;refine z_p 2 ?_;refine z_p 3 ?_;refine z_p 4 ?_;refine zt 0 12 HT_ HW_ hHeld ?_;refine zt 5 17 HT_ HW_ hHeld ?_;refine zo 6 18 HT_ (fun K hK=>?_);refine zgo Try.func60 #[.agg #[.int .i64 aK,.int .i64 aJ,.slice aT aH.length aQ],.int .i64 ((q0e l1 aC).f0)] ?_
     with_reducible refine(q1y.calls k1 aK aJ _ _ aH ((q0e l1 aC).f0) false _ ?s1 ?s2 A6.out).mono ?_
     (case s1=>exact zCb aX);(case s2=>exact aY.out);rintro e cM ⟨rfl,hb⟩;refine⟨_,rfl,?_⟩;replace aA:=zkb aA hb;replace HB:=zbs hb;(try clear hb);refine hK.out _ _ ⟨zq aA 0,zq aA 1,zq aA 2,(zC HB aG),(zC HB aE)⟩ (fun hHeld=>?_);clear hK K;refine q1j zV ?_;refine z_p 7 ?_;refine z_p 8 ?_;refine z_u 9 ?_;refine z_u 10 ?_;refine z_u 11 ?_;refine z_u 12 ?_;refine z_u 13 ?_;refine z_u 14 ?_;refine z_u 15 ?_;refine z_p 16 ?_;refine z_p 17 ?_;refine z_u 18 ?_;refine z_u 19 ?_;refine z_u 20 ?_;refine z_u 21 ?_;refine z_u 22 ?_;refine z_u 23 ?_;refine z_u 24 ?_;refine z_u 25 ?_;refine z_u 26 ?_;refine z_u 27 ?_;refine z_u 28 ?_;refine z_u 29 ?_;refine z_u 30 ?_;refine z_u 31 ?_;refine z_u 32 ?_;refine z_u 33 ?_;refine z_p 34 ?_;refine q4j (q2e HT_.out (by kernel_rfl)) ?_
     try go_wp2
     go_ret;exact⟨zE,zb⟩
   ·rw[if_neg c4] at H;have bW:=decide_eq_false c4;clear c4;obtain⟨bT,bQ,H⟩:=zB H;obtain⟨cD,cC,cB,cA,bZ,bY⟩:=ze3 aA
    by_cases bH:bT=true
    ·subst bH;rw[if_pos rfl] at H;obtain rfl:=zI H
     go_wp2_with (first|((with_reducible refine zgf 61 rfl ?_);refine zgl 48 Try.func61 #[.agg #[.int .i64 aK,.int .i64 aJ,.slice aT aH.length aQ]] ?_;(with_reducible refine(q1i.calls k1 aK aJ _ _ aH true _ ?s1 ?s2 bQ.out).mono ?_);(case s1=>exact zCb aX);(case s2=>exact aY.out);rintro e cL ⟨rfl,hb⟩;refine⟨_,rfl,?_⟩;replace aA:=zkb aA hb;replace HB:=zbs hb;(try clear hb)))
     go_ret;exact⟨zE,zb⟩
    ·replace bH:=Bool.eq_false_iff.mpr bH;subst bH;rw[if_neg zNo] at H;obtain rfl:=zI H
     go_wp2_with (first|((with_reducible refine zgf 61 rfl ?_);refine zgl 48 Try.func61 #[.agg #[.int .i64 aK,.int .i64 aJ,.slice aT aH.length aQ]] ?_;(with_reducible refine(q1i.calls k1 aK aJ _ _ aH false _ ?s1 ?s2 bQ.out).mono ?_);(case s1=>exact zCb aX);(case s2=>exact aY.out);rintro e cK ⟨rfl,hb⟩;refine⟨_,rfl,?_⟩;replace aA:=zkb aA hb;replace HB:=zbs hb;(try clear hb)))
     go_ret;exact⟨zE,zb⟩

mutual
def q1q.l0:Nat→List (S59)→Int→Int→List (S59)→Bool→Int→Option ((List (S59)))
  |0,_,_,_,_,_,_=>none
  |k+1,c,d,f,a,e,b=>if b<(c.length:Int) then(if e=true then(q1q.j1 k c d f a e b false) else(if 0≤b then(q1q.j1 k c d f a e b (decide (((q0e c b).f0)≥d))) else(none))) else(if e=true then(some a) else(if a.length<8796093022208 then(some (a++[(⟨d,f⟩:S59)])) else(none)))
def q1q.j1:Nat→List (S59)→Int→Int→List (S59)→Bool→Int→Bool→Option ((List (S59)))
  |0,_,_,_,_,_,_,_=>none
  |k+1,b,c,d,e,g,a,h=>if h=true then(if e.length<8796093022208 then((some (e++[(⟨c,d⟩:S59)]:List (S59))).bind fun f=>(if 0≤a then(if a<(b.length:Int) then(if ((q0e b a).f0)=c then(q1q.l0 k b c d f true (wrap64 (a+1))) else(if f.length<8796093022208 then(q1q.l0 k b c d (f++[(⟨(q0e b a).f0,(q0e b a).f1⟩:S59)]) true (wrap64 (a+1))) else(none))) else(none)) else(none))) else(none)) else(if 0≤a then(if a<(b.length:Int) then(if ((q0e b a).f0)=c then(q1q.l0 k b c d e g (wrap64 (a+1))) else(if e.length<8796093022208 then(q1q.l0 k b c d (e++[(⟨(q0e b a).f0,(q0e b a).f1⟩:S59)]) g (wrap64 (a+1))) else(none))) else(none)) else(none))
end
def q1q.f (k:Nat) (b:List (S59)) (c:Int) (a:Int):Option ((List (S59))):=q1q.l0 k b c a (([]:List (S59))) (a==0) 0
theorem q1q.calls (k:Nat) (A0:Option Addr) (c0:Nat) (l0:List (S59)) (a1:Int) (a2:Int) (r:List (S59)) (w:World) (cH:Kd.C k59 w A0 l0.length l0) (cI:l0.length≤c0) (h:q1q.f k l0 a1 a2=some r) :
  Calls Try.prog 40 #[.slice A0 l0.length c0,.int .i64 a1,.int .i64 a2] w fun e w'=>∃ v0_:Value,e=.returned (v0_)∧Kd.R k59 59 w' w.heap.size (fun _=>True) v0_ r∧Below w.heap.size w w':=by
 have hu59:=Try.underlying59;have bB:=zA cH;have dK:=zA cI;clear cH cI;have HB:=zA (Below.refl w.heap.size w);have H:=h;clear h;unfold q1q.f at H;obtain⟨bP,bG⟩:∃ y_:List (S59),y_=(([]:List (S59))):=⟨_,rfl⟩
 replace H:(q1q.l0 k l0 a1 a2 bP (a2==0) 0)=some r:=zY bG H
 have Ny167:=zA bG;clear bG;have H':=zA H;clear H;go_enter Try.func40,Try.ntmps40
 go_wp2_with (first|((with_reducible refine zgd 10 rfl ?_);refine q5z k59 _ 59 ?hg (N:=10) ?hd (xs:=([]:List (S59))) (inner:=[]) (ok:=fun _=>True) (okp:=fun _=>True) ?hr ?hp (fun _ hk=>hk) trivial (Below.refl _ _) (Nat.le_refl _) (by simp) ?_;(case hd=>rfl);(case hg=>rfl);(case hr=>first|(go_simp;done)|(go_simp;rfl));(case hp=>exact(q3o.none _ _));intro v168 w4 ho5 hb hg_ hnew_;clear hg_ hnew_;(first|rw[←Ny167.out] at ho5|(simp only[Int.reduceToNat] at ho5;rw[←Ny167.out] at ho5));have cG:=z_l ho5;replace HB:=zbs hb;clear hb ho5))
 go_loopg [7,8,9] k (fun kq v7 v8 v9 w'=>∃ (aE:List (S59)) (aK:Bool) (aA:Int),v8=.bool aK∧v9=.int .i64 aA∧q0a (q1q.l0 kq l0 a1 a2 aE aK aA=some r)∧q0a (kq≤k)∧q0a (Kd.R k59 59 w' w.heap.size (fun _=>True) v7 aE)∧q0a (Below w.heap.size w w'))
 case atStart=>exact⟨(bP),((a2==0)),(0),zr,zr,H',⟨Nat.le_refl _⟩,⟨zR cG⟩,⟨zb⟩⟩
 case round =>
  clear H';obtain⟨aE,aK,aA,rfl,rfl,HA,HK1,aG,HB⟩:=hrel
  cases gk with
  |zero=>exact absurd HA.out (by simp[q1q.l0])
  |succ k1 =>
   have H:=HA.out;clear HA;simp only[q1q.l0] at H
   by_cases c6:aA<(l0.length:Int)
   ·rw[if_pos c6] at H;have bR:=decide_eq_true c6;clear c6;have bS:=zA H;clear H
    go_upto_region 6 with (fail)
    go_cut [29] (fun v29 wc=>∃ (kq:Nat) (aT:Bool),v29=.bool aT∧q0a (q1q.j1 kq l0 a1 a2 aE aK aA aT=some r)∧q0a (kq≤k1)∧q0a (Kd.R k59 59 wc w.heap.size (fun _=>True) u7 aE)∧q0a (Below w.heap.size w wc))
    case first =>
     have H:=bS.out;clear bS
     by_cases c8:aK=true
     ·subst c8;rw[if_pos rfl] at H;have H':=zA H;clear H;go_wp2
      go_meet
      case rel=>exact⟨_,(false),zr,H',⟨by have:=HK1.out;first|omega|exact Nat.le_refl _⟩,⟨zR aG⟩,⟨zb⟩⟩
     ·replace c8:=Bool.eq_false_iff.mpr c8;subst c8;rw[if_neg zNo] at H;obtain⟨bI,H⟩:=q5b H;(first|rw[bI]|(simp only[q2n,q3a];rw[bI])|skip);have H':=zA H;clear H;have cN:=zT (0≤(aA:Int));have cL:=zT (aA<(l0.length:Int));obtain⟨cY,cR,aQ,aN⟩:=q5x bB.out aA zd zd;cases cR;replace aQ:=zC HB aQ;replace aN:=zC HB aN;go_wp2
      go_meet
      case rel=>exact⟨_,(decide (((q0e l0 aA).f0)≥a1)),zr,H',⟨by have:=HK1.out;first|omega|exact Nat.le_refl _⟩,⟨zR aG⟩,⟨zb⟩⟩
    case rest =>
     clear bS;(try clear c6);(try clear bR);(try clear c8);(try clear c9);(try clear bI);(try clear aQ);(try clear aN);(try clear cN);(try clear cL);obtain⟨kq,aT,rfl,HA,HJ6,aG,HB⟩:=hcut;cases kq with
     |zero=>exact absurd HA.out (by simp[q1q.j1])
     |succ kj6 =>
      have H:=HA.out;clear HA;simp only[q1q.j1] at H
      by_cases bK:aT=true
      ·subst bK;rw[if_pos rfl] at H;obtain⟨bM,H⟩:=q8c H;obtain⟨aM,bE⟩:∃ y_:List (S59),y_=(aE++[(⟨a1,a2⟩:S59)]):=⟨_,rfl⟩
       replace H:(if 0≤aA then(if aA<(l0.length:Int) then(if ((q0e l0 aA).f0)=a1 then(q1q.l0 kj6 l0 a1 a2 aM true (wrap64 (aA+1))) else(if aM.length<8796093022208 then(q1q.l0 kj6 l0 a1 a2 (aM++[(⟨(q0e l0 aA).f0,(q0e l0 aA).f1⟩:S59)]) true (wrap64 (aA+1))) else(none))) else(none)) else(none))=some r:=zY bE H
       have Ny174:=zA bE;clear bE;obtain⟨cX,H⟩:=q5b H;obtain⟨cW,H⟩:=q5b H
       by_cases c14:((q0e l0 aA).f0)=a1
       ·rw[if_pos c14] at H;have bW:(((q0e l0 aA).f0)==a1)=true:=beq_iff_eq.mpr c14;have bV:(((q0e l0 aA).f0) != a1)=false:=bne_eq_false_iff_eq.mpr c14;clear c14;have H':=zA H;clear H
        go_wp2_with (first|((with_reducible refine q0t (b:=.append) (xs:=#[.tmp 30,.tmp 34]) rfl ?_);at_builtin;refine q2j k59 (w0:=w) w.heap.size rfl (.tmp 30) (.tmp 34) 29 59 (.agg #[(.int .i64 0),(.int .i64 0)]) 16 rfl Try.underlying29 q8m rfl (by decide) (by omega) u7 aE (⟨a1,a2⟩:S59) [.int .i64 a1,.int .i64 a2] (fun _=>True) (fun _=>False) rfl rfl ?aP (fun _ hk=>hk.elim) ?aF ?aO ?aB ?aS ?aL ?_;(case aP=>exact q7m _ _ _ (⟨a1,a2⟩:S59));(case aB=>exact zb);(case aF=>exact(fun _ _=>trivial));(case aO=>exact(zR aG));(case aS=>exact(q0f zb));(case aL=>have:=bM.out;omega);intro v175 dJ ho hb hg hat;rw[←Ny174.out] at ho;replace HB:=zA hb;have aU:=zA ho;clear aG;clear ho hb hg hat;have cM:=zT (0≤(aA:Int));have cK:=zT (aA<(l0.length:Int));obtain⟨bL,bH,aJ,aI⟩:=q5x bB.out aA zd zd;cases bH;replace aJ:=zC HB aJ;replace aI:=zC HB aI))
        go_roundg kj6
        case measure=>have:=HK1.out;have:=HJ6.out;omega
        case rel=>exact⟨(aM),(true),(wrap64 (aA+1)),zr,zr,H',⟨by have:=HK1.out;have:=HJ6.out;omega⟩,⟨zR aU⟩,⟨zb⟩⟩
       ·rw[if_neg c14] at H;have bW:(((q0e l0 aA).f0)==a1)=false:=beq_eq_false_iff_ne.mpr c14;have bV:(((q0e l0 aA).f0) != a1)=true:=bne_iff_ne.mpr c14;obtain⟨cC,H⟩:=q8c H;obtain⟨bO,bD⟩:∃ y_:List (S59),y_=(aM++[(⟨(q0e l0 aA).f0,(q0e l0 aA).f1⟩:S59)]):=⟨_,rfl⟩
        replace H:(q1q.l0 kj6 l0 a1 a2 bO true (wrap64 (aA+1)))=some r:=zY bD H
        have Ny179:=zA bD;clear bD;have H':=zA H;clear H
        go_wp2_with (first|((with_reducible refine q0t (b:=.append) (xs:=#[.tmp 30,.tmp 34]) rfl ?_);at_builtin;refine q2j k59 (w0:=w) w.heap.size rfl (.tmp 30) (.tmp 34) 29 59 (.agg #[(.int .i64 0),(.int .i64 0)]) 16 rfl Try.underlying29 q8m rfl (by decide) (by omega) u7 aE (⟨a1,a2⟩:S59) [.int .i64 a1,.int .i64 a2] (fun _=>True) (fun _=>False) rfl rfl ?aP (fun _ hk=>hk.elim) ?aF ?aO ?aB ?aS ?aL ?_;(case aP=>exact q7m _ _ _ (⟨a1,a2⟩:S59));(case aB=>exact zb);(case aF=>exact(fun _ _=>trivial));(case aO=>exact(zR aG));(case aS=>exact(q0f zb));(case aL=>have:=bM.out;omega);intro v175 dI ho hb hg hat;rw[←Ny174.out] at ho;replace HB:=zA hb;have aU:=zA ho;clear aG;clear ho hb hg hat;have cM:=zT (0≤(aA:Int));have cK:=zT (aA<(l0.length:Int));obtain⟨bL,bH,aJ,aI⟩:=q5x bB.out aA zd zd;cases bH;replace aJ:=zC HB aJ;replace aI:=zC HB aI;have dE:=zT (0≤(aA:Int));have dB:=zT (aA<(l0.length:Int));obtain⟨bZ,cQ,bA,aZ⟩:=q5x bB.out aA zd zd;obtain rfl:bL=bZ:=(by injection cQ);replace bA:=zC HB bA;replace aZ:=zC HB aZ)|((with_reducible refine q0t (b:=.append) (xs:=#[.tmp 43,.tmp 48]) rfl ?_);at_builtin;refine q2j k59 (w0:=w) w.heap.size rfl (.tmp 43) (.tmp 48) 29 59 (.agg #[(.int .i64 0),(.int .i64 0)]) 16 rfl Try.underlying29 q8m rfl (by decide) (by omega) v175 aM (⟨(q0e l0 aA).f0,(q0e l0 aA).f1⟩:S59) [.int .i64 ((q0e l0 aA).f0),.int .i64 ((q0e l0 aA).f1)] (fun _=>True) (fun _=>False) rfl rfl ?aP (fun _ hk=>hk.elim) ?aF ?aO ?aB ?aS ?aL ?_;(case aP=>exact q7m _ _ _ (⟨(q0e l0 aA).f0,(q0e l0 aA).f1⟩:S59));(case aB=>exact zb);(case aF=>exact(fun _ _=>trivial));(case aO=>exact(zR aU));(case aS=>exact(q0f zb));(case aL=>have:=cC.out;omega);intro v180 dH ho hb hg hat;rw[←Ny179.out] at ho;replace HB:=zA hb;have cE:=zA ho;clear aU;clear ho hb hg hat))
        go_roundg kj6
        case measure=>have:=HK1.out;have:=HJ6.out;omega
        case rel=>exact⟨(bO),(true),(wrap64 (aA+1)),zr,zr,H',⟨by have:=HK1.out;have:=HJ6.out;omega⟩,⟨zR cE⟩,⟨zb⟩⟩
      ·replace bK:=Bool.eq_false_iff.mpr bK;subst bK;rw[if_neg zNo] at H;obtain⟨cV,H⟩:=q5b H;obtain⟨cU,H⟩:=q5b H;have dD:=zT (0≤(aA:Int));have dA:=zT (aA<(l0.length:Int));obtain⟨bY,cP,aY,aX⟩:=q5x bB.out aA zd zd;cases cP;replace aY:=zC HB aY;replace aX:=zC HB aX
       by_cases c21:((q0e l0 aA).f0)=a1
       ·rw[if_pos c21] at H;have bU:(((q0e l0 aA).f0)==a1)=true:=beq_iff_eq.mpr c21;have bT:(((q0e l0 aA).f0) != a1)=false:=bne_eq_false_iff_eq.mpr c21;clear c21;have H':=zA H;clear H;go_wp2
        go_roundg kj6
        case measure=>have:=HK1.out;have:=HJ6.out;omega
        case rel=>exact⟨(aE),(aK),(wrap64 (aA+1)),zr,zr,H',⟨by have:=HK1.out;have:=HJ6.out;omega⟩,⟨zR aG⟩,⟨zb⟩⟩
       ·rw[if_neg c21] at H;have bU:(((q0e l0 aA).f0)==a1)=false:=beq_eq_false_iff_ne.mpr c21;have bT:(((q0e l0 aA).f0) != a1)=true:=bne_iff_ne.mpr c21;obtain⟨cB,H⟩:=q8c H;obtain⟨bN,bC⟩:∃ y_:List (S59),y_=(aE++[(⟨(q0e l0 aA).f0,(q0e l0 aA).f1⟩:S59)]):=⟨_,rfl⟩
        replace H:(q1q.l0 kj6 l0 a1 a2 bN aK (wrap64 (aA+1)))=some r:=zY bC H
        have Ny184:=zA bC;clear bC;have H':=zA H;clear H;have dC:=zT (0≤(aA:Int));have cZ:=zT (aA<(l0.length:Int));obtain⟨bX,cO,aW,aV⟩:=q5x bB.out aA zd zd;obtain rfl:bY=bX:=(by injection cO);replace aW:=zC HB aW;replace aV:=zC HB aV
        go_wp2_with (first|((with_reducible refine q0t (b:=.append) (xs:=#[.tmp 43,.tmp 48]) rfl ?_);at_builtin;refine q2j k59 (w0:=w) w.heap.size rfl (.tmp 43) (.tmp 48) 29 59 (.agg #[(.int .i64 0),(.int .i64 0)]) 16 rfl Try.underlying29 q8m rfl (by decide) (by omega) u7 aE (⟨(q0e l0 aA).f0,(q0e l0 aA).f1⟩:S59) [.int .i64 ((q0e l0 aA).f0),.int .i64 ((q0e l0 aA).f1)] (fun _=>True) (fun _=>False) rfl rfl ?aP (fun _ hk=>hk.elim) ?aF ?aO ?aB ?aS ?aL ?_;(case aP=>exact q7m _ _ _ (⟨(q0e l0 aA).f0,(q0e l0 aA).f1⟩:S59));(case aB=>exact zb);(case aF=>exact(fun _ _=>trivial));(case aO=>exact(zR aG));(case aS=>exact(q0f zb));(case aL=>have:=cB.out;omega);intro v185 dG ho hb hg hat;rw[←Ny184.out] at ho;replace HB:=zA hb;have cD:=zA ho;clear aG;clear ho hb hg hat))
        go_roundg kj6
        case measure=>have:=HK1.out;have:=HJ6.out;omega
        case rel=>exact⟨(bN),(aK),(wrap64 (aA+1)),zr,zr,H',⟨by have:=HK1.out;have:=HJ6.out;omega⟩,⟨zR cD⟩,⟨zb⟩⟩
   ·rw[if_neg c6] at H;have bR:=decide_eq_false c6;clear c6
    by_cases bJ:aK=true
    ·subst bJ;rw[if_pos rfl] at H;obtain rfl:=zI H;go_wp2;go_ret;exact⟨_,zE,zR aG,zb⟩
    ·replace bJ:=Bool.eq_false_iff.mpr bJ;subst bJ;rw[if_neg zNo] at H;obtain⟨cA,H⟩:=q8c H;obtain⟨cJ,bF⟩:∃ y_:List (S59),y_=(aE++[(⟨a1,a2⟩:S59)]):=⟨_,rfl⟩
     replace H:(some cJ)=some r:=zY bF H
     have Ny170:=zA bF;clear bF;obtain rfl:=zI H
     go_wp2_with (first|((with_reducible refine q0t (b:=.append) (xs:=#[.tmp 52,.tmp 56]) rfl ?_);at_builtin;refine q2j k59 (w0:=w) w.heap.size rfl (.tmp 52) (.tmp 56) 29 59 (.agg #[(.int .i64 0),(.int .i64 0)]) 16 rfl Try.underlying29 q8m rfl (by decide) (by omega) u7 aE (⟨a1,a2⟩:S59) [.int .i64 a1,.int .i64 a2] (fun _=>True) (fun _=>False) rfl rfl ?aP (fun _ hk=>hk.elim) ?aF ?aO ?aB ?aS ?aL ?_;(case aP=>exact q7m _ _ _ (⟨a1,a2⟩:S59));(case aB=>exact zb);(case aF=>exact(fun _ _=>trivial));(case aO=>exact(zR aG));(case aS=>exact(q0f zb));(case aL=>have:=cA.out;omega);intro v171 dF ho hb hg hat;rw[←Ny170.out] at ho;replace HB:=zA hb;have cF:=zA ho;clear aG;clear ho hb hg hat))
     go_ret;exact⟨_,zE,zR cF,zb⟩

def q3v.j0:Nat→List (S59)→Int→Int→List (S59)→Bool→Int→Int→List Int→Option ((List (S59)) × Bool)
  |0,_,_,_,_,_,_,_,_=>none
  |k+1,a,b,e,c,f,g,h,i=>if f=true then(some (c,false)) else((q1x.f k a b).bind fun j=>((q1q.f k a b (wrap64 (j+e))).bind fun d=>((q0m.f k g h i d).bind fun l=>(if l=true then(some (d,true)) else(some (c,false))))))
def q3v.f (k:Nat) (b:Int) (c:Int) (d:List Int) (a:List (S59)) (f:Int) (e:Int):Option ((List (S59)) × Bool):=(some (([]:List (S59)):List (S59))).bind fun g=>(if g.length+a.length<8796093022208 then((some (g++a:List (S59))).bind fun h=>((q0m.f k b c d a).bind fun i=>(if i=true then((q1h.f e 1 10000).bind fun j=>(q3v.j0 k a f e h (!j) b c d)) else(q3v.j0 k a f e h true b c d)))) else(none))
theorem q3v.calls (k:Nat) (aE:Int) (aD:Int) (aK:Option Addr) (aJ:Nat) (aC:List Int) (A1:Option Addr) (c1:Nat) (l1:List (S59)) (a2:Int) (a3:Int) (r1:List (S59)) (r2:Bool) (w:World) (bK:Kd.C (Kd.int .i64) w aK aC.length aC) (bL:aC.length≤aJ) (bW:Kd.C k59 w A1 l1.length l1) (bX:l1.length≤c1) (h:q3v.f k aE aD aC l1 a2 a3=some (r1,r2)) :
  Calls Try.prog 21 #[.agg #[.int .i64 aE,.int .i64 aD,.slice aK aC.length aJ],.slice A1 l1.length c1,.int .i64 a2,.int .i64 a3] w fun e w'=>∃ v0_:Value,e=.returned (.tuple #[v0_,.bool r2])∧Kd.R k59 59 w' w.heap.size (fun _=>True) v0_ r1∧Below w.heap.size w w':=by
 have hu26:=Try.underlying26;have aY:=zA bK;have aZ:=zA bL;clear bK bL;have bB:=zA bW;have bC:=zA bX;clear bW bX;have HB:=zA (Below.refl w.heap.size w);have H:=h;clear h;unfold q3v.f at H;obtain⟨bD,bF⟩:∃ y_:List (S59),y_=(([]:List (S59))):=⟨_,rfl⟩
 replace H:(if bD.length+l1.length<8796093022208 then((some (bD++l1:List (S59))).bind fun aN=>((q0m.f k aE aD aC l1).bind fun bA=>(if bA=true then((q1h.f a3 1 10000).bind fun aW=>(q3v.j0 k l1 a2 a3 aN (!aW) aE aD aC)) else(q3v.j0 k l1 a2 a3 aN true aE aD aC)))) else(none))=some (r1,r2):=zY bF H
 have Ny188:=zA bF;clear bF;obtain⟨cH,H⟩:=q8c H;obtain⟨aN,bE⟩:∃ y_:List (S59),y_=(bD++l1):=⟨_,rfl⟩
 replace H:((q0m.f k aE aD aC l1).bind fun bA=>(if bA=true then((q1h.f a3 1 10000).bind fun aW=>(q3v.j0 k l1 a2 a3 aN (!aW) aE aD aC)) else(q3v.j0 k l1 a2 a3 aN true aE aD aC)))=some (r1,r2):=zY bE H
 have Ny191:=zA bE;clear bE;have bU:=zA H;clear H;go_enter Try.func21,Try.ntmps21
 go_upto_region 2 with (first|((with_reducible refine zgd 4 rfl ?_);refine zbx 4 #[.int .i64 aE,.int .i64 aD,.slice aK aC.length aJ] 26 ?_;intro bV hg w7 hbox hb;have aA:=zA hbox;have cX:=zga (w:=w) hg;replace HB:=zbs hb;clear hb hbox hg)|((with_reducible refine zgd 12 rfl ?_);refine q5z k59 _ 59 ?hg (N:=12) ?hd (xs:=([]:List (S59))) (inner:=[]) (ok:=fun _=>True) (okp:=fun _=>True) ?hr ?hp (fun _ hk=>hk) trivial (Below.refl _ _) (Nat.le_refl _) (by simp) ?_;(case hd=>rfl);(case hg=>rfl);(case hr=>first|(go_simp;done)|(go_simp;rfl));(case hp=>exact(q3o.none _ _));intro v189 w8 ho9 hb hg_ hnew_;clear hg_ hnew_;(first|rw[←Ny188.out] at ho9|(simp only[Int.reduceToNat] at ho9;rw[←Ny188.out] at ho9));have bH:=z_l ho9;replace aA:=zkb aA hb;replace HB:=zbs hb;clear hb ho9)|((with_reducible refine q0t (b:=.append) (xs:=#[.tmp 12,.tmp 13]) rfl ?_);at_builtin;refine q6h k59 (w0:=w) w.heap.size rfl (.tmp 12) (.tmp 13) 29 59 (.agg #[(.int .i64 0),(.int .i64 0)]) 16 rfl Try.underlying29 q8m rfl (by decide) (by omega) v189 bD l1 _ _ _ (fun _=>True) (fun _=>False) rfl rfl ?aO ?aR (fun _ _ h=>h) (fun _ h=>h.elim) ?aF ?aB ?aS ?aL ?_;(case aR=>repeat (first|exact(q3z bB.out HB.out)|(with_reducible refine q6k ?_ _)|(with_reducible refine q6j ?_ _)|(with_reducible refine q7i ?_)));(case aB=>exact zb);(case aF=>exact(fun _ _=>trivial));(case aO=>exact(zR bH));(case aS=>exact(q0f zb));(case aL=>have:=cH.out;omega);intro v192 dE ho hb hg hat;rw[←Ny191.out] at ho;replace aA:=zgr aA hg (q5s bH.out aA.out (by decide));replace HB:=zA hb;have aM:=zA ho;clear bH;clear ho hb hg hat))
 (try simp only[Act.put,z_L])
 go_cut [23] (fun v23 wc=>∃ (kq:Nat) (aX:Bool),v23=.bool aX∧q0a (q3v.j0 kq l1 a2 a3 aN aX aE aD aC=some (r1,r2))∧q0a (kq≤k)∧q0a (Kd.R k59 59 wc w.heap.size (fun _=>True) v192 aN)∧q0a (wc.heap[bV]?=some (.cells #[.int .i64 aE,.int .i64 aD,(.slice aK aC.length aJ)] 26 (0,0)))∧q0a (Below w.heap.size w wc))
 case first =>
  have H:=bU.out;clear bU;obtain⟨bA,cB,H⟩:=zB H;obtain⟨bT,bS,bR,bQ,bP,bO⟩:=ze3 aA
  by_cases bI:bA=true
  ·subst bI;rw[if_pos rfl] at H;obtain⟨aW,cW,H⟩:=zB H;have H':=zA H;clear H
   go_wp2_with (first|((with_reducible refine zgf 39 rfl ?_);refine zgl 17 Try.func39 #[.agg #[.int .i64 aE,.int .i64 aD,.slice aK aC.length aJ],.slice A1 l1.length c1] ?_;(with_reducible refine(q0m.calls k aE aD _ _ aC _ _ l1 true _ ?s1 ?s2 ?s3 ?s4 cB.out).mono ?_);(case s1=>exact zCb aY);(case s2=>exact aZ.out);(case s3=>exact zCb bB);(case s4=>exact bC.out);rintro e dD ⟨rfl,hb⟩;refine⟨_,rfl,?_⟩;replace aM:=zRb aM hb;replace aA:=zkb aA hb;replace HB:=zbs hb;(try clear hb))|(go_at_call 38;(with_reducible refine(q1h.calls a3 1 10000 aW _ cW.out).mono ?_);rintro e w' ⟨rfl,⟨nd,rfl⟩⟩))
   go_meet
   case rel=>exact⟨_,(!aW),zr,H',⟨by first|omega|exact Nat.le_refl _⟩,⟨zR aM⟩,⟨zk aA⟩,⟨zb⟩⟩
  ·replace bI:=Bool.eq_false_iff.mpr bI;subst bI;rw[if_neg zNo] at H;have H':=zA H;clear H
   go_wp2_with (first|((with_reducible refine zgf 39 rfl ?_);refine zgl 17 Try.func39 #[.agg #[.int .i64 aE,.int .i64 aD,.slice aK aC.length aJ],.slice A1 l1.length c1] ?_;(with_reducible refine(q0m.calls k aE aD _ _ aC _ _ l1 false _ ?s1 ?s2 ?s3 ?s4 cB.out).mono ?_);(case s1=>exact zCb aY);(case s2=>exact aZ.out);(case s3=>exact zCb bB);(case s4=>exact bC.out);rintro e dC ⟨rfl,hb⟩;refine⟨_,rfl,?_⟩;replace aM:=zRb aM hb;replace aA:=zkb aA hb;replace HB:=zbs hb;(try clear hb)))
   go_meet
   case rel=>exact⟨_,(true),zr,H',⟨by first|omega|exact Nat.le_refl _⟩,⟨zR aM⟩,⟨zk aA⟩,⟨zb⟩⟩
 case rest =>
  clear bU;(try clear c1);(try clear c5);(try clear bI);(try clear bT);(try clear bS);(try clear bR);(try clear bQ);(try clear bP);(try clear bO);obtain⟨kq,aX,rfl,HA,HJ5,aG,aA,HB⟩:=hcut;cases kq with
  |zero=>exact absurd HA.out (by simp[q3v.j0])
  |succ kj5 =>
   have H:=HA.out;clear HA;simp only[q3v.j0] at H
   by_cases bN:aX=true
   ·subst bN;rw[if_pos rfl] at H;simp only[Option.some.injEq,Prod.mk.injEq] at H;obtain⟨rfl,rfl⟩:=H;go_wp2;go_ret2;exact⟨_,zE,zR aG,zb⟩
   ·replace bN:=Bool.eq_false_iff.mpr bN;subst bN;rw[if_neg zNo] at H;obtain⟨aV,cA,H⟩:=zB H;obtain⟨aU,bZ,H⟩:=zB H;obtain⟨cC,bY,H⟩:=zB H
    by_cases bM:cC=true
    ·subst bM;rw[if_pos rfl] at H;simp only[Option.some.injEq,Prod.mk.injEq] at H;obtain⟨rfl,rfl⟩:=H
     go_wp2_with (first|((with_reducible refine zgf 31 rfl ?_);refine zgl 29 Try.func31 #[.slice A1 l1.length c1,.int .i64 a2] ?_;(with_reducible refine(q1x.calls kj5 _ _ l1 a2 aV _ ?s1 ?s2 cA.out).mono ?_);(case s1=>exact zCb bB);(case s2=>exact bC.out);rintro e w' ⟨rfl,⟨nd,rfl⟩⟩;refine⟨_,rfl,?_⟩)|((with_reducible refine zgf 40 rfl ?_);refine zgl 32 Try.func40 #[.slice A1 l1.length c1,.int .i64 a2,.int .i64 (wrap64 (aV+a3))] ?_;(with_reducible refine(q1q.calls kj5 _ _ l1 a2 (wrap64 (aV+a3)) aU _ ?s1 ?s2 bZ.out).mono ?_);(case s1=>exact zCb bB);(case s2=>exact bC.out);rintro e dB ⟨v198,rfl,ho0,hb⟩;refine⟨_,rfl,?_⟩;have aH:=z_l (z_n ho0 aG);replace aG:=z_e aG ho0 hb;replace aA:=zkb aA hb;replace HB:=zbs hb;(try clear hb);(try clear ho0);obtain⟨cV,cU,cT,cP,cO,cN⟩:=ze3 aA;obtain⟨cJ,cG,cE⟩:=q0j aH.out;subst cE)|((with_reducible refine zgf 39 rfl ?_);refine zgl 35 Try.func39 #[.agg #[.int .i64 aE,.int .i64 aD,.slice aK aC.length aJ],.slice cJ aU.length cG] ?_;(with_reducible refine(q0m.calls kj5 aE aD _ _ aC _ _ aU true _ ?s1 ?s2 ?s3 ?s4 bY.out).mono ?_);(case s1=>exact zCb aY);(case s2=>exact aZ.out);(case s3=>exact zCx (q0b aH.out).2.2);(case s4=>exact(q0b aH.out).2.1);rintro e dA ⟨rfl,hb⟩;refine⟨_,rfl,?_⟩;replace aG:=zRb aG hb;replace aH:=zRb aH hb;replace aA:=zkb aA hb;replace HB:=zbs hb;(try clear hb)))
     go_ret2;exact⟨_,zE,z_t aH,zb⟩
    ·replace bM:=Bool.eq_false_iff.mpr bM;subst bM;rw[if_neg zNo] at H;simp only[Option.some.injEq,Prod.mk.injEq] at H;obtain⟨rfl,rfl⟩:=H
     go_wp2_with (first|((with_reducible refine zgf 31 rfl ?_);refine zgl 29 Try.func31 #[.slice A1 l1.length c1,.int .i64 a2] ?_;(with_reducible refine(q1x.calls kj5 _ _ l1 a2 aV _ ?s1 ?s2 cA.out).mono ?_);(case s1=>exact zCb bB);(case s2=>exact bC.out);rintro e w' ⟨rfl,⟨nd,rfl⟩⟩;refine⟨_,rfl,?_⟩)|((with_reducible refine zgf 40 rfl ?_);refine zgl 32 Try.func40 #[.slice A1 l1.length c1,.int .i64 a2,.int .i64 (wrap64 (aV+a3))] ?_;(with_reducible refine(q1q.calls kj5 _ _ l1 a2 (wrap64 (aV+a3)) aU _ ?s1 ?s2 bZ.out).mono ?_);(case s1=>exact zCb bB);(case s2=>exact bC.out);rintro e cZ ⟨v198,rfl,ho0,hb⟩;refine⟨_,rfl,?_⟩;have aH:=z_l (z_n ho0 aG);replace aG:=z_e aG ho0 hb;replace aA:=zkb aA hb;replace HB:=zbs hb;(try clear hb);(try clear ho0);obtain⟨cS,cR,cQ,cM,cL,cK⟩:=ze3 aA;obtain⟨cI,cF,cD⟩:=q0j aH.out;subst cD)|((with_reducible refine zgf 39 rfl ?_);refine zgl 35 Try.func39 #[.agg #[.int .i64 aE,.int .i64 aD,.slice aK aC.length aJ],.slice cI aU.length cF] ?_;(with_reducible refine(q0m.calls kj5 aE aD _ _ aC _ _ aU false _ ?s1 ?s2 ?s3 ?s4 bY.out).mono ?_);(case s1=>exact zCb aY);(case s2=>exact aZ.out);(case s3=>exact zCx (q0b aH.out).2.2);(case s4=>exact(q0b aH.out).2.1);rintro e cY ⟨rfl,hb⟩;refine⟨_,rfl,?_⟩;replace aG:=zRb aG hb;replace aH:=zRb aH hb;replace aA:=zkb aA hb;replace HB:=zbs hb;(try clear hb)))
     go_ret2;exact⟨_,zE,z_t aG,zb⟩

def q2i.l0:Nat→List (S59)→Int→List Int→Int→Int→Int→Int→List Int→Option ((List (S59)) × Int × Int)
  |0,_,_,_,_,_,_,_,_=>none
  |k+1,d,e,a,f,g,h,i,j=>if e>0 then((q0w.f a f g 20).bind fun b=>((q0w.f a b.2.1 b.2.2 30).bind fun c=>((q3v.f k h i j d b.1 (wrap64 (1+c.1))).bind fun l=>(q2i.l0 k l.1 (wrap64 (e-1)) a c.2.1 c.2.2 h i j)))) else(some (d,f,g))
def q2i.f (k:Nat) (b:List Int) (c:Int) (d:Int) (e:Int) (f:Int) (g:List Int):Option ((List (S59)) × Int × Int):=(q0w.f b c d 4).bind fun a=>(q2i.l0 k (([]:List (S59))) a.1 b a.2.1 a.2.2 e f g)
def q2i.T5:Bool × List (List Nat × List Nat):=(true,[([],[]),([],[]),([],[]),([2],[2]),([],[]),([4,3],[4]),([5],[5]),([0,1,3,6,5],[0,1,3,6]),([7],[7]),([8],[8]),([8],[8]),([9,7,0,1,2,3,4,5,6,7,8,9],[1,9])])
def q2i.B5:List Nat:=[0,0,0,4,0,28,60,127,255,511,511,1023]
theorem q2i.tab5:q6q .any (opsOf Try.f51 5)=q2i.T5:=by kernel_rfl
theorem q2i.bits5:q4a q2i.T5.2 q2i.B5=true:=by kernel_rfl
theorem q2i.calls (k:Nat) (g:Nat) (s0_0:List Int) (s0_1:Int) (s0_2:Int) (aJ:Int) (aI:Int) (aM:Option Addr) (aT:Nat) (aD:List Int) (r1:List (S59)) (r2:Int) (r3:Int) (w0 w:World) (hI:q0g w0 w g s0_0 s0_1 s0_2) (hB:Below w0.heap.size w0 w) (bD:Kd.C (Kd.int .i64) w aM aD.length aD) (bE:aD.length≤aT) (hf1_2:∀ ad,aM=some ad→0<aD.length→ad.block≠g) (h:q2i.f k s0_0 s0_1 s0_2 aJ aI aD=some (r1,r2,r3)) :
  Calls Try.prog 51 #[.pointer (some ⟨g,0,none⟩),.agg #[.int .i64 aJ,.int .i64 aI,.slice aM aD.length aT]] w fun e w'=>∃ v0_:Value,e=.returned (v0_)∧Kd.R k59 59 w' w.heap.size (fun _=>True) v0_ r1∧q0g w0 w' g s0_0 r2 r3∧Below w0.heap.size w0 w'∧q0d w w' g none:=by
 have hu26:=Try.underlying26;have bN:=zA bD;have bP:=zA bE;clear bD bE;have HI0:=zA hI;have HK:=zA (q0d.refl w g none);have HL:=zA hB.size;clear hI;have HW0:=zA hB.size;have HB:=zA hB;clear hB;have H:=h;clear h;unfold q2i.f at H;obtain⟨bF,aX⟩:∃ y_:List (S59),y_=(([]:List (S59))):=⟨_,rfl⟩
 replace H:((q0w.f s0_0 s0_1 s0_2 4).bind fun bt205=>(q2i.l0 k bF bt205.1 s0_0 bt205.2.1 bt205.2.2 aJ aI aD))=some (r1,r2,r3):=zY aX H
 have Ny202:=zA aX;clear aX;obtain⟨⟨bL,bK,bJ⟩,A3,H⟩:=zB H;have H':=zA H;clear H;go_enter Try.func51,Try.ntmps51
 go_wp2_with (first|((with_reducible refine zgd 3 rfl ?_);refine zbx 3 #[.int .i64 aJ,.int .i64 aI,.slice aM aD.length aT] 26 ?_;intro aE hg w4 hbox hb;replace HB:=zA (q1b zB0 hb);have aA:=zA hbox;have aH:=zA ((by rw[hg];exact(q0y (w:=w) (g:=g) (row:=none) zK0):w.heap.size≤aE));have aK:=zA ((Nat.le_trans HW0.out (by rw[hg];exact(q0y (w:=w) (g:=g) (row:=none) zK0):w.heap.size≤aE):w0.heap.size≤aE));replace HK:=zA (q0d.trans zK0 (q0d.of_below hb g none) (.inl rfl));have aC:=zA ((by rw[hg];exact Nat.ne_of_lt (q0g.lt (show q0g w0 _ g s0_0 s0_1 s0_2 from zI0)):g≠aE));have aV:=zA ((by rw[hg];exact Nat.ne_of_gt (q0g.lt (show q0g w0 _ g s0_0 s0_1 s0_2 from zI0)):aE≠g));replace HI0:=zA (q0g.below zI0 hb);clear hb hbox hg)|((with_reducible refine zgd 7 rfl ?_);refine q5z k59 _ 59 ?hg (N:=7) ?hd (xs:=([]:List (S59))) (inner:=[]) (ok:=fun _=>True) (okp:=fun _=>True) ?hr ?hp (fun _ hk=>hk) trivial (Below.refl _ _) (Nat.le_refl _) (by simp) ?_;(case hd=>rfl);(case hg=>rfl);(case hr=>first|(go_simp;done)|(go_simp;rfl));(case hp=>exact(q3o.none _ _));intro v203 w5 ho6 hb hg_ hnew_;clear hg_ hnew_;(first|rw[←Ny202.out] at ho6|(simp only[Int.reduceToNat] at ho6;rw[←Ny202.out] at ho6));have aY:=zA (q3f ho6 (q0y (w:=w) (g:=g) (row:=none) zK0));replace aA:=zkb aA hb;replace HK:=zA (q0d.trans zK0 (q0d.of_below hb g none) (.inl rfl));replace HB:=zA (q1b zB0 hb);replace HI0:=zA (q0g.below zI0 hb);clear hb ho6)|((with_reducible refine zgf 53 rfl ?_);refine zgl 9 Try.func53 #[.pointer (some ⟨g,0,none⟩),.int .i64 4] ?_;(with_reducible refine(q0w.calls g s0_0 s0_1 s0_2 4 bL bK bJ w0 _ ?s1 ?s2 A3.out).mono ?_);(case s1=>exact zI0);(case s2=>exact zB0);rintro e w7 ⟨rfl,hi,hb,hk⟩;refine⟨_,rfl,?_⟩;replace aA:=zkB hk aA aV;replace aY:=z_k aY s0_0 s0_1 s0_2 hk;replace HK:=zA (q0d.trans zK0 hk (.inl rfl));replace HB:=zA hb;replace HI0:=zA (hi);(try clear hb)))
 go_loopg [5,6] k (fun kq v5 v6 w'=>∃ (aW:List (S59)) (aU:Int) (aQ:Int) (aN:Int),v6=.int .i64 aU∧q0a (q2i.l0 kq aW aU s0_0 aQ aN aJ aI aD=some (r1,r2,r3))∧q0a (kq≤k)∧q0a (Kd.R k59 59 w' w.heap.size (fun _=>True) v5 aW)∧q0a (w'.heap[aE]?=some (.cells #[.int .i64 aJ,.int .i64 aI,(.slice aM aD.length aT)] 26 (0,0)))∧q0a (q0g w0 w' g s0_0 aQ aN)∧q0a (q0d w w' g none)∧q0a (Below w0.heap.size w0 w'))
 case atStart=>exact⟨(bF),(bL),(bK),(bJ),zr,H',⟨Nat.le_refl _⟩,⟨zR aY⟩,⟨zk aA⟩,⟨zI0⟩,⟨zK0⟩,⟨zB0⟩⟩
 case round =>
  clear H';obtain⟨aW,aU,aQ,aN,rfl,HA,HK1,aG,aA,HI0,HK,HB⟩:=hrel
  cases gk with
  |zero=>exact absurd HA.out (by simp[q2i.l0])
  |succ k1 =>
   have H:=HA.out;clear HA;simp only[q2i.l0] at H
   by_cases c8:aU>0
   ·rw[if_pos c8] at H;have bS:decide (0<aU)=true:=decide_eq_true c8;clear c8;obtain⟨⟨bC,bB,bA⟩,A9,H⟩:=zB H;obtain⟨⟨aZ,bI,bH⟩,bV,H⟩:=zB H;obtain⟨⟨bG,bQ⟩,bU,H⟩:=zB H;have H':=zA H;clear H
    try go_wp2
    replace aG:=z_d aG;replace aA:=q4h aA;replace HI0:=zA (q0g.drew HI0.out);replace HK:=zA (q6l HK.out);replace HB:=z_b HB;refine q3g (n:=12) (S:=fun w'=>w'.cell? ⟨aE,0,none⟩=some (.int .i64 aJ)∧w'.cell? ⟨aE,1,none⟩=some (.int .i64 aI)∧w'.cell? ⟨aE,2,none⟩=some (.slice aM aD.length aT)) (ds:=[]) _ (by kernel_rfl) rfl rfl ⟨zq aA 0,zq aA 1,zq aA 2⟩ (fun hHeld=>?_);refine q1m q2i.tab5 q2i.bits5 (fun HT_ HW_=>?_);generalize wr.drew=cB at aG aA HI0 HK HB hHeld ⊢;refine z_p 1 ?_;refine z_p 2 ?_;refine z_p 4 ?_;refine zt 0 15 HT_ HW_ hHeld ?_;refine zo 3 18 HT_ (fun K hK=>?_);refine zgo Try.func53 #[.pointer (some ⟨g,0,none⟩),.int .i64 20] ?_
    with_reducible refine(q0w.calls g s0_0 aQ aN 20 bC bB bA w0 _ ?s1 ?s2 A9.out).mono ?_
    (case s1=>exact zI0);(case s2=>exact zB0);rintro e cA ⟨rfl,hi,hb,hk⟩;refine⟨_,rfl,?_⟩;replace aG:=z_k aG s0_0 aQ aN hk;replace aA:=zkB hk aA aV;replace HK:=zA (q0d.trans zK0 hk (.inl rfl));replace HB:=zA hb;replace HI0:=zA (hi);(try clear hb);refine hK.out _ _ ⟨zq aA 0,zq aA 1,zq aA 2⟩ (fun hHeld=>?_);clear hK K;refine q1j zV ?_;refine zo 5 20 HT_ (fun K hK=>?_);refine zgo Try.func53 #[.pointer (some ⟨g,0,none⟩),.int .i64 30] ?_
    with_reducible refine(q0w.calls g s0_0 bB bA 30 aZ bI bH w0 _ ?s1 ?s2 bV.out).mono ?_
    (case s1=>exact zI0);(case s2=>exact zB0);rintro e bZ ⟨rfl,hi,hb,hk⟩;refine⟨_,rfl,?_⟩;replace aG:=z_k aG s0_0 bB bA hk;replace aA:=zkB hk aA aV;replace HK:=zA (q0d.trans zK0 hk (.inl rfl));replace HB:=zA hb;replace HI0:=zA (hi);(try clear hb);obtain⟨bT,bR,bM⟩:=q0j aG.out;(first|subst bM|(injection bM with f1_ f2_ f3_;have f4_:=f1_.symm;have f5_:=f3_.symm;clear f1_ f2_ f3_;subst f4_;subst f5_));refine hK.out _ _ ⟨zq aA 0,zq aA 1,zq aA 2⟩ (fun hHeld=>?_);clear hK K;refine q1j zV ?_;refine z_p 6 ?_;refine zo 7 22 HT_ (fun K hK=>?_);refine zgo Try.func21 #[.agg #[.int .i64 aJ,.int .i64 aI,.slice aM aD.length aT],.slice bT aW.length bR,.int .i64 bC,.int .i64 (wrap64 (1+aZ))] ?_
    with_reducible refine(q3v.calls k1 aJ aI _ _ aD _ _ aW bC (wrap64 (1+aZ)) bG bQ _ ?s1 ?s2 ?s3 ?s4 bU.out).mono ?_
    (case s1=>exact C_keep 0 bN.out zK0 hf1_2);(case s2=>exact bP.out);(case s3=>exact zCx (q0b aG.out).2.2);(case s4=>exact(q0b aG.out).2.1);rintro e bY ⟨v215,rfl,ho0,hb⟩;refine⟨_,rfl,?_⟩;have bO:=zA (q3f (z_n ho0 aG) (q0y (w:=w) (g:=g) (row:=none) zK0));replace aG:=z_e aG ho0 hb;replace aA:=zkb aA hb;replace HK:=zA (q0d.trans zK0 (q0d.of_below hb g none) (.inl rfl));replace HB:=zA (q1b zB0 hb);replace HI0:=zA (q0g.below zI0 hb);(try clear hb);(try clear ho0);refine hK.out _ _ ⟨zq aA 0,zq aA 1,zq aA 2⟩ (fun hHeld=>?_);clear hK K;refine q1j zV ?_;refine z_p 8 ?_;refine z_p 9 ?_;refine z_p 10 ?_;refine z_p 11 ?_;refine q4j (q2e HT_.out (by kernel_rfl)) ?_
    try go_wp2
    go_roundg k1
    case measure=>have:=HK1.out;omega
    case rel=>exact⟨(bG),(wrap64 (aU-1)),(bI),(bH),zr,H',⟨by have:=HK1.out;omega⟩,⟨z_t bO⟩,⟨zk aA⟩,⟨zI0⟩,⟨zK0⟩,⟨zB0⟩⟩
   ·rw[if_neg c8] at H;have bS:decide (0<aU)=false:=decide_eq_false c8;clear c8;simp only[Option.some.injEq,Prod.mk.injEq] at H;obtain⟨rfl,rfl,rfl⟩:=H;go_wp2;go_ret;exact⟨_,zE,zR aG,zI0,zB0,zK0⟩

def q5c.f (b:List Int) (c:Int) (d:Int) (e:Int):Option (Bool × Int × Int):=(q0w.f b c d e).bind fun a=>(some ((a.1==0),a.2.1,a.2.2))
theorem q5c.calls (g:Nat) (s0_0:List Int) (s0_1:Int) (s0_2:Int) (a1:Int) (r1:Bool) (r2:Int) (r3:Int) (w0 w:World) (hI:q0g w0 w g s0_0 s0_1 s0_2) (hB:Below w0.heap.size w0 w) (h:q5c.f s0_0 s0_1 s0_2 a1=some (r1,r2,r3)) :
  Calls Try.prog 29 #[.pointer (some ⟨g,0,none⟩),.int .i64 a1] w fun e w'=>e=.returned (.bool r1)∧q0g w0 w' g s0_0 r2 r3∧Below w0.heap.size w0 w'∧q0d w w' g none:=by
 have HI0:=zA hI;have HK:=zA (q0d.refl w g none);have HL:=zA hB.size;clear hI;have HW0:=zA hB.size;have HB:=zA hB;clear hB;have H:=h;clear h;unfold q5c.f at H;obtain⟨⟨aE,aD,aC⟩,A3,H⟩:=zB H;simp only[Option.some.injEq,Prod.mk.injEq] at H;obtain⟨rfl,rfl,rfl⟩:=H;go_enter Try.func29,Try.ntmps29
 go_wp2_with (first|((with_reducible refine zgf 53 rfl ?_);refine zgl 7 Try.func53 #[.pointer (some ⟨g,0,none⟩),.int .i64 a1] ?_;(with_reducible refine(q0w.calls g s0_0 s0_1 s0_2 a1 aE aD aC w0 _ ?s1 ?s2 A3.out).mono ?_);(case s1=>exact zI0);(case s2=>exact zB0);rintro e w4 ⟨rfl,hi,hb,hk⟩;refine⟨_,rfl,?_⟩;replace HK:=zA (q0d.trans zK0 hk (.inl rfl));replace HB:=zA hb;replace HI0:=zA (hi);(try clear hb)))
 go_ret;exact⟨zE,zI0,zB0,zK0⟩

def q3p.l0:Nat→List (S95)→Int→List Int→Int→Int→Option ((List (S95)) × Int × Int)
  |0,_,_,_,_,_=>none
  |k+1,c,d,a,h,i=>(q0w.f a h i 4).bind fun b=>(if d≤(wrap64 (1+b.1)) then((q0w.f a b.2.1 b.2.2 20).bind fun e=>((q0w.f a e.2.1 e.2.2 3).bind fun f=>((q5c.f a f.2.1 f.2.2 8).bind fun g=>(if c.length<4398046511104 then(q3p.l0 k (c++[(⟨wrap64 (2 * d),wrap64 (5+e.1),wrap64 (1+f.1),g.1⟩:S95)]) (wrap64 (d+1)) a g.2.1 g.2.2) else(none))))) else(some (c,b.2.1,b.2.2)))
def q3p.f (k:Nat) (a:List Int) (b:Int) (c:Int):Option ((List (S95)) × Int × Int):=q3p.l0 k (([]:List (S95))) 1 a b c
theorem q3p.calls (k:Nat) (g:Nat) (s0_0:List Int) (s0_1:Int) (s0_2:Int) (r1:List (S95)) (r2:Int) (r3:Int) (w0 w:World) (hI:q0g w0 w g s0_0 s0_1 s0_2) (hB:Below w0.heap.size w0 w) (h:q3p.f k s0_0 s0_1 s0_2=some (r1,r2,r3)) :
  Calls Try.prog 69 #[.pointer (some ⟨g,0,none⟩)] w fun e w'=>∃ v0_:Value,e=.returned (v0_)∧Kd.R k95 95 w' w.heap.size (fun _=>True) v0_ r1∧q0g w0 w' g s0_0 r2 r3∧Below w0.heap.size w0 w'∧q0d w w' g none:=by
 have hu95:=Try.underlying95;have HI0:=zA hI;have HK:=zA (q0d.refl w g none);have HL:=zA hB.size;clear hI;have HW0:=zA hB.size;have HB:=zA hB;clear hB;have H:=h;clear h;unfold q3p.f at H;obtain⟨bB,aQ⟩:∃ y_:List (S95),y_=(([]:List (S95))):=⟨_,rfl⟩
 replace H:(q3p.l0 k bB 1 s0_0 s0_1 s0_2)=some (r1,r2,r3):=zY aQ H
 have Ny221:=zA aQ;clear aQ;have H':=zA H;clear H;go_enter Try.func69,Try.ntmps69
 go_wp2_with (first|((with_reducible refine zgd 5 rfl ?_);refine q5z k95 _ 95 ?hg (N:=5) ?hd (xs:=([]:List (S95))) (inner:=[]) (ok:=fun _=>True) (okp:=fun _=>True) ?hr ?hp (fun _ hk=>hk) trivial (Below.refl _ _) (Nat.le_refl _) (by simp) ?_;(case hd=>rfl);(case hg=>rfl);(case hr=>first|(go_simp;done)|(go_simp;rfl));(case hp=>exact(q3o.none _ _));intro v222 w2 ho3 hb hg_ hnew_;clear hg_ hnew_;(first|rw[←Ny221.out] at ho3|(simp only[Int.reduceToNat] at ho3;rw[←Ny221.out] at ho3));have bD:=zA (q3f ho3 (q0y (w:=w) (g:=g) (row:=none) zK0));replace HK:=zA (q0d.trans zK0 (q0d.of_below hb g none) (.inl rfl));replace HB:=zA (q1b zB0 hb);replace HI0:=zA (q0g.below zI0 hb);clear hb ho3))
 go_loopg [3,4] k (fun kq v3 v4 w'=>∃ (aG:List (S95)) (aE:Int) (aD:Int) (aC:Int),v4=.int .i64 aE∧q0a (q3p.l0 kq aG aE s0_0 aD aC=some (r1,r2,r3))∧q0a (kq≤k)∧q0a (Kd.R k95 95 w' w.heap.size (fun _=>True) v3 aG)∧q0a (q0g w0 w' g s0_0 aD aC)∧q0a (q0d w w' g none)∧q0a (Below w0.heap.size w0 w'))
 case atStart=>exact⟨(bB),(1),(s0_1),(s0_2),zr,H',⟨Nat.le_refl _⟩,⟨zR bD⟩,⟨zI0⟩,⟨zK0⟩,⟨zB0⟩⟩
 case round =>
  clear H';obtain⟨aG,aE,aD,aC,rfl,HA,HK1,aA,HI0,HK,HB⟩:=hrel
  cases gk with
  |zero=>exact absurd HA.out (by simp[q3p.l0])
  |succ k1 =>
   have H:=HA.out;clear HA;simp only[q3p.l0] at H;obtain⟨⟨aZ,aM,aK⟩,A4,H⟩:=zB H
   by_cases c5:aE≤(wrap64 (1+aZ))
   ·rw[if_pos c5] at H;have bE:=decide_eq_true c5;clear c5;obtain⟨⟨aJ,aY,aX⟩,A6,H⟩:=zB H;obtain⟨⟨aI,aW,aV⟩,A7,H⟩:=zB H;obtain⟨⟨aH,aU,aT⟩,A8,H⟩:=zB H;obtain⟨bF,H⟩:=q8c H;obtain⟨bA,aN⟩:∃ y_:List (S95),y_=(aG++[(⟨wrap64 (2 * aE),wrap64 (5+aJ),wrap64 (1+aI),aH⟩:S95)]):=⟨_,rfl⟩
    replace H:(q3p.l0 k1 bA (wrap64 (aE+1)) s0_0 aU aT)=some (r1,r2,r3):=zY aN H
    have Ny236:=zA aN;clear aN;have H':=zA H;clear H
    go_wp2_with (first|((with_reducible refine zgf 53 rfl ?_);refine zgl 8 Try.func53 #[.pointer (some ⟨g,0,none⟩),.int .i64 4] ?_;(with_reducible refine(q0w.calls g s0_0 aD aC 4 aZ aM aK w0 _ ?s1 ?s2 A4.out).mono ?_);(case s1=>exact zI0);(case s2=>exact zB0);rintro e bP ⟨rfl,hi,hb,hk⟩;refine⟨_,rfl,?_⟩;replace aA:=z_k aA s0_0 aD aC hk;replace HK:=zA (q0d.trans zK0 hk (.inl rfl));replace HB:=zA hb;replace HI0:=zA (hi);(try clear hb))|((with_reducible refine zgf 53 rfl ?_);refine zgl 17 Try.func53 #[.pointer (some ⟨g,0,none⟩),.int .i64 20] ?_;(with_reducible refine(q0w.calls g s0_0 aM aK 20 aJ aY aX w0 _ ?s1 ?s2 A6.out).mono ?_);(case s1=>exact zI0);(case s2=>exact zB0);rintro e bO ⟨rfl,hi,hb,hk⟩;refine⟨_,rfl,?_⟩;replace aA:=z_k aA s0_0 aM aK hk;replace HK:=zA (q0d.trans zK0 hk (.inl rfl));replace HB:=zA hb;replace HI0:=zA (hi);(try clear hb))|((with_reducible refine zgf 53 rfl ?_);refine zgl 20 Try.func53 #[.pointer (some ⟨g,0,none⟩),.int .i64 3] ?_;(with_reducible refine(q0w.calls g s0_0 aY aX 3 aI aW aV w0 _ ?s1 ?s2 A7.out).mono ?_);(case s1=>exact zI0);(case s2=>exact zB0);rintro e bN ⟨rfl,hi,hb,hk⟩;refine⟨_,rfl,?_⟩;replace aA:=z_k aA s0_0 aY aX hk;replace HK:=zA (q0d.trans zK0 hk (.inl rfl));replace HB:=zA hb;replace HI0:=zA (hi);(try clear hb))|((with_reducible refine zgf 29 rfl ?_);refine zgl 23 Try.func29 #[.pointer (some ⟨g,0,none⟩),.int .i64 8] ?_;(with_reducible refine(q5c.calls g s0_0 aW aV 8 aH aU aT w0 _ ?s1 ?s2 A8.out).mono ?_);(case s1=>exact zI0);(case s2=>exact zB0);rintro e bM ⟨rfl,hi,hb,hk⟩;refine⟨_,rfl,?_⟩;replace aA:=z_k aA s0_0 aW aV hk;replace HK:=zA (q0d.trans zK0 hk (.inl rfl));replace HB:=zA hb;replace HI0:=zA (hi);(try clear hb))|((with_reducible refine q0t (b:=.append) (xs:=#[.tmp 13,.tmp 25]) rfl ?_);at_builtin;refine q2j k95 w.heap.size rfl (.tmp 13) (.tmp 25) 30 95 (.agg #[(.int .i64 0),(.int .i64 0),(.int .i64 0),(.bool false)]) 32 rfl Try.underlying30 info95 rfl (by decide) (by omega) u3 aG (⟨wrap64 (2 * aE),wrap64 (5+aJ),wrap64 (1+aI),aH⟩:S95) [.int .i64 (wrap64 (2 * aE)),.int .i64 (wrap64 (5+aJ)),.int .i64 (wrap64 (1+aI)),.bool aH] (fun _=>True) (fun _=>False) rfl rfl ?aP (fun _ hk=>hk.elim) ?aF ?aO (Below.refl _ _) ?aS ?aL ?_;(case aP=>exact k95_mkM _ _ _ (⟨wrap64 (2 * aE),wrap64 (5+aJ),wrap64 (1+aI),aH⟩:S95));(case aF=>exact(fun _ _=>trivial));(case aO=>exact(zR aA));(case aS=>exact(q0y (w:=w) (g:=g) (row:=none) zK0));(case aL=>have:=bF.out;omega);intro v237 bL ho hb hg hat;rw[←Ny236.out] at ho;replace HB:=zA (q7y zB0 HL.out hb);replace HI0:=zA (q0g.grown zI0 hg (q0g.q7c HI0.out aA.out (by decide)));replace HK:=zA (q0d.trans zK0 (q0d.q7a hg g) (y0l aA.out));have bC:=zA ho;clear aA;clear ho hb hg hat))
    go_roundg k1
    case measure=>have:=HK1.out;omega
    case rel=>exact⟨(bA),(wrap64 (aE+1)),(aU),(aT),zr,H',⟨by have:=HK1.out;omega⟩,⟨zR bC⟩,⟨zI0⟩,⟨zK0⟩,⟨zB0⟩⟩
   ·rw[if_neg c5] at H;have bE:=decide_eq_false c5;clear c5;simp only[Option.some.injEq,Prod.mk.injEq] at H;obtain⟨rfl,rfl,rfl⟩:=H
    go_wp2_with (first|((with_reducible refine zgf 53 rfl ?_);refine zgl 8 Try.func53 #[.pointer (some ⟨g,0,none⟩),.int .i64 4] ?_;(with_reducible refine(q0w.calls g s0_0 aD aC 4 aZ aM aK w0 _ ?s1 ?s2 A4.out).mono ?_);(case s1=>exact zI0);(case s2=>exact zB0);rintro e bK ⟨rfl,hi,hb,hk⟩;refine⟨_,rfl,?_⟩;replace aA:=z_k aA s0_0 aD aC hk;replace HK:=zA (q0d.trans zK0 hk (.inl rfl));replace HB:=zA hb;replace HI0:=zA (hi);(try clear hb)))
    go_ret;exact⟨_,zE,zR aA,zI0,zB0,zK0⟩

def q4i.f (b:Int) (a:Int):Option (Bool):=(q1h.f a 1 10).bind fun c=>(if c=true then((q1h.f b 0 (wrap64 (a-1))).bind fun d=>(some d)) else(some false))
theorem q4i.calls (aC:Int) (aA:Int) (r:Bool) (w:World) (h:q4i.f aC aA=some r) :
  Calls Try.prog 78 #[.agg #[.int .i64 aC,.int .i64 aA]] w fun e w'=>e=.returned (.bool r)∧Below w.heap.size w w':=by
 have hu28:=Try.underlying28;have HB:=zA (Below.refl w.heap.size w);have H:=h;clear h;unfold q4i.f at H;obtain⟨aJ,A2,H⟩:=zB H;go_enter Try.func78,Try.ntmps78
 by_cases c3:aJ=true
 ·subst c3;rw[if_pos rfl] at H;obtain⟨aI,A4,H⟩:=zB H;obtain rfl:=zI H
  go_wp2_with (first|((with_reducible refine zgd 1 rfl ?_);refine zbx 1 #[.int .i64 aC,.int .i64 aA] 28 ?_;intro aE hg w5 hbox hb;have aD:=zA hbox;have aH:=zga (w:=w) hg;replace HB:=zbs hb;clear hb hbox hg;obtain⟨aW,aV,aQ,aN⟩:=ze2 aD)|((with_reducible refine zgf 38 rfl ?_);refine zgl 5 Try.func38 #[.int .i64 aA,.int .i64 1,.int .i64 10] ?_;(with_reducible refine(q1h.calls aA 1 10 true _ A2.out).mono ?_);rintro e w' ⟨rfl,⟨nd,rfl⟩⟩;refine⟨_,rfl,?_⟩)|(go_at_call 38;(with_reducible refine(q1h.calls aC 0 (wrap64 (aA-1)) aI _ A4.out).mono ?_);rintro e w' ⟨rfl,⟨nd,rfl⟩⟩))
  go_ret;exact⟨zE,zb⟩
 ·replace c3:=Bool.eq_false_iff.mpr c3;subst c3;rw[if_neg zNo] at H;obtain rfl:=zI H
  go_wp2_with (first|((with_reducible refine zgd 1 rfl ?_);refine zbx 1 #[.int .i64 aC,.int .i64 aA] 28 ?_;intro aE hg w7 hbox hb;have aD:=zA hbox;have aH:=zga (w:=w) hg;replace HB:=zbs hb;clear hb hbox hg;obtain⟨aU,aT,aM,aK⟩:=ze2 aD)|((with_reducible refine zgf 38 rfl ?_);refine zgl 5 Try.func38 #[.int .i64 aA,.int .i64 1,.int .i64 10] ?_;(with_reducible refine(q1h.calls aA 1 10 false _ A2.out).mono ?_);rintro e w' ⟨rfl,⟨nd,rfl⟩⟩;refine⟨_,rfl,?_⟩))
  go_ret;exact⟨zE,zb⟩

def q4t.f (a:Int) (b:Int):Option (Int):=if b>a then(some b) else(some a)
theorem q4t.calls (a0:Int) (a1:Int) (r:Int) (w:World) (h:q4t.f a0 a1=some r) :
  Calls Try.prog 90 #[.int .i64 a0,.int .i64 a1] w fun e w'=>e=.returned (.int .i64 r)∧q2k w w':=by
 have H:=h;clear h;unfold q4t.f at H;go_enter Try.func90,Try.ntmps90
 by_cases c3:a1>a0
 ·rw[if_pos c3] at H;have aA:decide (a0<a1)=true:=decide_eq_true c3;clear c3;obtain rfl:=zI H;(try simp only[aA]);go_wp2;go_ret;exact⟨by first|rfl|(simp;done)|(simp[*];done),by repeat (first|exact q2k.refl _|apply q2k.step)⟩
 ·rw[if_neg c3] at H;have aA:decide (a0<a1)=false:=decide_eq_false c3;clear c3;obtain rfl:=zI H;(try simp only[aA]);go_wp2;go_ret;exact⟨by first|rfl|(simp;done)|(simp[*];done),by repeat (first|exact q2k.refl _|apply q2k.step)⟩

def q1k.l0:Nat→List Bool→Int→Int→Option (Int)
  |0,_,_,_=>none
  |k+1,b,c,a=>if a<(b.length:Int) then(if 0≤a then(if rdOf false b a=true then(q1k.l0 k b (wrap64 (c+1)) (wrap64 (a+1))) else(q1k.l0 k b c (wrap64 (a+1)))) else(none)) else(some c)
def q1k.f (k:Nat) (a:List Bool):Option (Int):=q1k.l0 k a 0 0
theorem q1k.calls (k:Nat) (A0:Option Addr) (c0:Nat) (l0:List Bool) (r:Int) (w:World) (aJ:Kd.C Kd.bool w A0 l0.length l0) (aK:l0.length≤c0) (h:q1k.f k l0=some r) :
  Calls Try.prog 93 #[.slice A0 l0.length c0] w fun e w'=>e=.returned (.int .i64 r)∧q2k w w':=by
 have aT:=zA aJ;have aX:=zA aK;clear aJ aK;have H:=h;clear h;unfold q1k.f at H;have H':=zA H;clear H;go_enter Try.func93,Try.ntmps93;go_wp2
 go_loopg [3,4] k (fun kq v3 v4 w'=>∃ (aC:Int) (aA:Int),v3=.int .i64 aC∧v4=.int .i64 aA∧q0a (q1k.l0 kq l0 aC aA=some r)∧q0a (kq≤k)∧q2k w w')
 case atStart=>exact⟨(0),(0),zr,zr,H',⟨Nat.le_refl _⟩,by repeat (first|exact q2k.refl _|apply q2k.step)⟩
 case round =>
  clear H';obtain⟨aC,aA,rfl,rfl,HA,HK1,⟨m1,rfl⟩⟩:=hrel
  cases gk with
  |zero=>exact absurd HA.out (by simp[q1k.l0])
  |succ k1 =>
   have H:=HA.out;clear HA;simp only[q1k.l0] at H
   by_cases c2:aA<(l0.length:Int)
   ·rw[if_pos c2] at H;have aN:=decide_eq_true c2;clear c2;obtain⟨aW,H⟩:=q5b H;obtain⟨bq4,hbq4⟩:∃ b_:Bool,b_=(rdOf false l0 aA):=⟨_,rfl⟩
    replace H:(if bq4=true then(q1k.l0 k1 l0 (wrap64 (aC+1)) (wrap64 (aA+1))) else(q1k.l0 k1 l0 aC (wrap64 (aA+1))))=some r:=by rw[←hbq4] at H;exact H
    have Nbq4:=zA hbq4;clear hbq4;have aG:0≤(aA:Int):=zd;have aE:aA<(l0.length:Int):=zd;obtain⟨aV,aM,aH⟩:=at_bool aT.out aA aG aE;(try rw[←Nbq4.out] at aH);cases aM;replace aG:=eq_true aG;replace aE:=eq_true aE
    by_cases c5:bq4=true
    ·subst c5;rw[if_pos rfl] at H;have H':=zA H;clear H;go_wp2
     go_roundg k1
     case measure=>have:=HK1.out;omega
     case rel=>exact⟨(wrap64 (aC+1)),(wrap64 (aA+1)),zr,zr,H',⟨by have:=HK1.out;omega⟩,by repeat (first|exact q2k.refl _|apply q2k.step)⟩
    ·replace c5:=Bool.eq_false_iff.mpr c5;subst c5;rw[if_neg zNo] at H;have H':=zA H;clear H;go_wp2
     go_roundg k1
     case measure=>have:=HK1.out;omega
     case rel=>exact⟨(aC),(wrap64 (aA+1)),zr,zr,H',⟨by have:=HK1.out;omega⟩,by repeat (first|exact q2k.refl _|apply q2k.step)⟩
   ·rw[if_neg c2] at H;have aN:=decide_eq_false c2;clear c2;obtain rfl:=zI H;go_wp2;go_ret;exact⟨by first|rfl|(simp;done)|(simp[*];done),by repeat (first|exact q2k.refl _|apply q2k.step)⟩

def q1t.f (k:Nat) (c:Int) (d:Int) (a:List Bool):Option (Bool):=(q4i.f c d).bind fun e=>(if e=true then((q4t.f 0 (wrap64 ((wrap64 ((a.length:Int)+1))-d))).bind fun b=>(if 0≤b then(if b≤(a.length:Int) then((q1k.f k (a.drop (b:Int).toNat)).bind fun f=>(some (decide (f<c)))) else(none)) else(none))) else(some false))
def q1t.T1:Bool × List (List Nat × List Nat):=(true,[([],[]),([0],[0]),([1,1],[1]),([2],[2]),([2],[2]),([4,2],[2,4]),([5,2],[2,5]),([2],[2]),([7,2],[2,7]),([6,8,2],[2,6,8]),([9,2,2],[2,9]),([3,10,2],[2,3,10]),([11,10,2],[2,11]),([2],[2]),([13,2],[2,13]),([12,14,2],[2,12,14]),([2,15],[2,15]),([16,12,0,1,2,3,4,5,6,7,8,9,10,11,12,13,14,15,16],[16])])
def q1t.B1:List Nat:=[0,1,3,7,7,23,55,7,135,503,1015,2047,4095,7,8199,32767,65535,131071]
theorem q1t.tab1:q6q .any (opsOf Try.f82 1)=q1t.T1:=by kernel_rfl
theorem q1t.q8h:q4a q1t.T1.2 q1t.B1=true:=by kernel_rfl
theorem q1t.calls (k:Nat) (aD:Int) (aC:Int) (A1:Option Addr) (c1:Nat) (l1:List Bool) (r:Bool) (w:World) (aQ:Kd.C Kd.bool w A1 l1.length l1) (aT:l1.length≤c1) (h:q1t.f k aD aC l1=some r) :
  Calls Try.prog 82 #[.agg #[.int .i64 aD,.int .i64 aC],.slice A1 l1.length c1] w fun e w'=>e=.returned (.bool r)∧Below w.heap.size w w':=by
 have hu28:=Try.underlying28;have bA:=zA aQ;have bB:=zA aT;clear aQ aT;have HB:=zA (Below.refl w.heap.size w);have H:=h;clear h;unfold q1t.f at H;obtain⟨aV,A3,H⟩:=zB H;go_enter Try.func82,Try.ntmps82
 by_cases c4:aV=true
 ·subst c4;rw[if_pos rfl] at H;obtain⟨aE,A5,H⟩:=zB H;obtain⟨c6,H⟩:=zif H;have bI:=eq_true c6;have bH:=decide_eq_true c6;clear c6;obtain⟨c7,H⟩:=zif H;have bG:=eq_true c7;have bF:=decide_eq_true c7;clear c7;obtain⟨aU,A8,H⟩:=zB H;obtain rfl:=zI H
  try go_wp2_with (first|((with_reducible refine zgd 2 rfl ?_);(try (refine q1w (by rfl) ?_;dsimp only));refine zbx 2 #[.int .i64 aD,.int .i64 aC] 28 ?_;intro aG hg w9 hbox hb;have aA:=zA hbox;have aN:=zga (w:=w) hg;replace HB:=zbs hb;clear hb hbox hg))
  replace aA:=q4h aA;replace HB:=z_b HB;refine q3g (n:=18) (S:=fun w'=>w'.cell? ⟨aG,0,none⟩=some (.int .i64 aD)∧w'.cell? ⟨aG,1,none⟩=some (.int .i64 aC)) (ds:=[]) _ (by kernel_rfl) rfl rfl ⟨zq aA 0,zq aA 1⟩ (fun hHeld=>?_);refine q1m q1t.tab1 q1t.q8h (fun HT_ HW_=>?_);generalize w9.drew=bO at aA HB hHeld ⊢;refine zt 0 5 HT_ HW_ hHeld ?_;refine zo 1 6 HT_ (fun K hK=>?_);refine zgo Try.func78 #[.agg #[.int .i64 aD,.int .i64 aC]] ?_
  with_reducible refine(q4i.calls aD aC true _ A3.out).mono ?_
  rintro e bN ⟨rfl,hb⟩;refine⟨_,rfl,?_⟩;replace aA:=zkb aA hb;replace HB:=zbs hb;(try clear hb);refine hK.out _ _ ⟨zq aA 0,zq aA 1⟩ (fun hHeld=>?_);clear hK K;refine q1j zV ?_;refine z_p 2 ?_;refine z_p 3 ?_;refine z_p 4 ?_;refine z_p 5 ?_;refine z_p 6 ?_;refine z_p 7 ?_;refine z_p 13 ?_;refine zt 8 13 HT_ HW_ hHeld ?_;refine z_p 9 ?_;refine zt 14 19 HT_ HW_ hHeld ?_;refine zo 10 15 HT_ (fun K hK=>?_);refine zgo Try.func90 #[.int .i64 0,.int .i64 (wrap64 ((wrap64 ((l1.length:Int)+1))-aC))] ?_
  with_reducible refine(q4t.calls 0 (wrap64 ((wrap64 ((l1.length:Int)+1))-aC)) aE _ A5.out).mono ?_
  rintro e w' ⟨rfl,⟨nd,rfl⟩⟩;refine⟨_,rfl,?_⟩;obtain⟨i012,hi012,_,hsz12,_⟩:=info_parts q9a;obtain⟨bD,hcut12,hA12,hC12⟩:=q9g (P:=Try.prog) Value.bool false 31 4 .i64 Try.underlying31 hi012 hsz12 A1 c1 l1 aE zd zd bB.out;have aK:=zA (q9q (h1:=fun _=>rfl) (hA12 _ (Kd.q8b bA.out)));have aM:=zA hC12;clear hA12 hC12 hi012 hsz12;refine hK.out _ _ ⟨zq aA 0,zq aA 1⟩ (fun hHeld=>?_);clear hK K;refine q1j zV ?_;refine z_p 11 ?_;refine zo 12 17 HT_ (fun K hK=>?_);refine goes_ Try.func93 (by kernel_rfl) rfl #[.slice bD (l1.drop (aE:Int).toNat).length (c1-aE.toNat)] (by rfl) rfl rfl (by(try simp only[List.map_toArray,List.map_cons,List.map_nil]);first|done|(rw[show (l1.drop (aE:Int).toNat).length=(l1.length-aE.toNat) from List.length_drop] <;> rfl)|rfl|(simp only[List.length_drop,List.length_take];rfl)) ?_
  with_reducible refine(q1k.calls k _ _ (l1.drop (aE:Int).toNat) aU _ ?s1 ?s2 A8.out).mono ?_
  (case s1=>exact zCb aK);(case s2=>exact aM.out);rintro e w' ⟨rfl,⟨nd,rfl⟩⟩;refine⟨_,rfl,?_⟩;refine hK.out _ _ ⟨zq aA 0,zq aA 1⟩ (fun hHeld=>?_);clear hK K;refine q1j zV ?_;refine z_p 15 ?_;refine z_p 16 ?_;refine z_p 17 ?_;refine q4j (q2e HT_.out (by kernel_rfl)) ?_
  try go_wp2
  go_ret;exact⟨zE,zb⟩
 ·replace c4:=Bool.eq_false_iff.mpr c4;subst c4;rw[if_neg zNo] at H;obtain rfl:=zI H
  try go_wp2_with (first|((with_reducible refine zgd 2 rfl ?_);(try (refine q1w (by rfl) ?_;dsimp only));refine zbx 2 #[.int .i64 aD,.int .i64 aC] 28 ?_;intro aG hg aZ hbox hb;have aA:=zA hbox;have aN:=zga (w:=w) hg;replace HB:=zbs hb;clear hb hbox hg))
  replace aA:=q4h aA;replace HB:=z_b HB;refine q3g (n:=18) (S:=fun w'=>w'.cell? ⟨aG,0,none⟩=some (.int .i64 aD)∧w'.cell? ⟨aG,1,none⟩=some (.int .i64 aC)) (ds:=[]) _ (by kernel_rfl) rfl rfl ⟨zq aA 0,zq aA 1⟩ (fun hHeld=>?_);refine q1m q1t.tab1 q1t.q8h (fun HT_ HW_=>?_);generalize aZ.drew=bM at aA HB hHeld ⊢;refine zt 0 5 HT_ HW_ hHeld ?_;refine zo 1 6 HT_ (fun K hK=>?_);refine zgo Try.func78 #[.agg #[.int .i64 aD,.int .i64 aC]] ?_
  with_reducible refine(q4i.calls aD aC false _ A3.out).mono ?_
  rintro e bL ⟨rfl,hb⟩;refine⟨_,rfl,?_⟩;replace aA:=zkb aA hb;replace HB:=zbs hb;(try clear hb);refine hK.out _ _ ⟨zq aA 0,zq aA 1⟩ (fun hHeld=>?_);clear hK K;refine q1j zV ?_;refine z_p 2 ?_;refine z_u 3 ?_;refine z_u 4 ?_;refine z_u 5 ?_;refine z_u 6 ?_;refine z_u 7 ?_;refine z_u 8 ?_;refine z_u 9 ?_;refine z_u 10 ?_;refine z_u 11 ?_;refine z_u 12 ?_;refine z_u 13 ?_;refine z_u 14 ?_;refine z_u 15 ?_;refine z_p 16 ?_;refine z_p 17 ?_;refine q4j (q2e HT_.out (by kernel_rfl)) ?_
  try go_wp2
  go_ret;exact⟨zE,zb⟩

def q3c.l0:Nat→Int→List Bool→Int→List Int→Int→Int→Int→Int→Option (List Bool × Int × Int)
  |0,_,_,_,_,_,_,_,_=>none
  |k+1,b,a,c,d,e,f,g,h=>if c<b then((q1t.f k g h a).bind fun j=>(if j=true then((q5c.f d e f 2).bind fun i=>(if a.length<140737488355328 then(q3c.l0 k b (a++[i.1]) (wrap64 (c+1)) d i.2.1 i.2.2 g h) else(none))) else(if a.length<140737488355328 then(q3c.l0 k b (a++[false]) (wrap64 (c+1)) d e f g h) else(none)))) else(some (a,e,f))
def q3c.f (k:Nat) (a:List Int) (b:Int) (c:Int) (d:Int) (e:Int) (f:Int):Option (List Bool × Int × Int):=q3c.l0 k f (([]:List Bool)) 0 a b c d e
theorem q3c.calls (k:Nat) (g:Nat) (s0_0:List Int) (s0_1:Int) (s0_2:Int) (aK:Int) (aJ:Int) (a2:Int) (r1:List Bool) (r2:Int) (r3:Int) (w0 w:World) (hI:q0g w0 w g s0_0 s0_1 s0_2) (hB:Below w0.heap.size w0 w) (h:q3c.f k s0_0 s0_1 s0_2 aK aJ a2=some (r1,r2,r3)) :
  Calls Try.prog 70 #[.pointer (some ⟨g,0,none⟩),.agg #[.int .i64 aK,.int .i64 aJ],.int .i64 a2] w fun e w'=>∃ v0_:Value,e=.returned (v0_)∧Kd.R Kd.bool 4 w' w.heap.size (fun _=>True) v0_ r1∧q0g w0 w' g s0_0 r2 r3∧Below w0.heap.size w0 w'∧q0d w w' g none:=by
 have hu28:=Try.underlying28;have HI0:=zA hI;have HK:=zA (q0d.refl w g none);have HL:=zA hB.size;clear hI;have HW0:=zA hB.size;have HB:=zA hB;clear hB;have H:=h;clear h;unfold q3c.f at H;obtain⟨bF,aX⟩:∃ y_:List Bool,y_=(([]:List Bool)):=⟨_,rfl⟩
 replace H:(q3c.l0 k a2 bF 0 s0_0 s0_1 s0_2 aK aJ)=some (r1,r2,r3):=zY aX H
 have Ny249:=zA aX;clear aX;have H':=zA H;clear H;go_enter Try.func70,Try.ntmps70
 go_wp2_with (first|((with_reducible refine zgd 4 rfl ?_);refine zbx 4 #[.int .i64 aK,.int .i64 aJ] 28 ?_;intro aN hg w4 hbox hb;replace HB:=zA (q1b zB0 hb);have aA:=zA hbox;have aE:=zA ((by rw[hg];exact(q0y (w:=w) (g:=g) (row:=none) zK0):w.heap.size≤aN));have aM:=zA ((Nat.le_trans HW0.out (by rw[hg];exact(q0y (w:=w) (g:=g) (row:=none) zK0):w.heap.size≤aN):w0.heap.size≤aN));replace HK:=zA (q0d.trans zK0 (q0d.of_below hb g none) (.inl rfl));have aD:=zA ((by rw[hg];exact Nat.ne_of_lt (q0g.lt (show q0g w0 _ g s0_0 s0_1 s0_2 from zI0)):g≠aN));have aT:=zA ((by rw[hg];exact Nat.ne_of_gt (q0g.lt (show q0g w0 _ g s0_0 s0_1 s0_2 from zI0)):aN≠g));replace HI0:=zA (q0g.below zI0 hb);clear hb hbox hg)|((with_reducible refine zgd 9 rfl ?_);refine q5z Kd.bool _ 4 ?hg (N:=9) ?hd (xs:=([]:List Bool)) (inner:=[]) (ok:=fun _=>True) (okp:=fun _=>True) ?hr ?hp (fun _ hk=>hk) trivial (Below.refl _ _) (Nat.le_refl _) (by simp) ?_;(case hd=>rfl);(case hg=>rfl);(case hr=>first|(go_simp;done)|(go_simp;rfl));(case hp=>exact(q3o.none _ _));intro v250 w5 ho6 hb hg_ hnew_;clear hg_ hnew_;(first|rw[←Ny249.out] at ho6|(simp only[Int.reduceToNat] at ho6;rw[←Ny249.out] at ho6));have bL:=zA (q3f ho6 (q0y (w:=w) (g:=g) (row:=none) zK0));replace aA:=zkb aA hb;replace HK:=zA (q0d.trans zK0 (q0d.of_below hb g none) (.inl rfl));replace HB:=zA (q1b zB0 hb);replace HI0:=zA (q0g.below zI0 hb);clear hb ho6))
 go_loopg [7,8] k (fun kq v7 v8 w'=>∃ (aG:List Bool) (aQ:Int) (aI:Int) (aH:Int),v8=.int .i64 aQ∧q0a (q3c.l0 kq a2 aG aQ s0_0 aI aH aK aJ=some (r1,r2,r3))∧q0a (kq≤k)∧q0a (Kd.R Kd.bool 4 w' w.heap.size (fun _=>True) v7 aG)∧q0a (w'.heap[aN]?=some (.cells #[.int .i64 aK,.int .i64 aJ] 28 (0,0)))∧q0a (q0g w0 w' g s0_0 aI aH)∧q0a (q0d w w' g none)∧q0a (Below w0.heap.size w0 w'))
 case atStart=>exact⟨(bF),(0),(s0_1),(s0_2),zr,H',⟨Nat.le_refl _⟩,⟨zR bL⟩,⟨zk aA⟩,⟨zI0⟩,⟨zK0⟩,⟨zB0⟩⟩
 case round =>
  clear H';obtain⟨aG,aQ,aI,aH,rfl,HA,HK1,aC,aA,HI0,HK,HB⟩:=hrel
  cases gk with
  |zero=>exact absurd HA.out (by simp[q3c.l0])
  |succ k1 =>
   have H:=HA.out;clear HA;simp only[q3c.l0] at H
   by_cases c7:aQ<a2
   ·rw[if_pos c7] at H;have bO:=decide_eq_true c7;clear c7;obtain⟨bM,A8,H⟩:=zB H;have bW:=aT.out;have bV:=aD.out;obtain⟨bS,bR,bQ,bP⟩:=ze2 aA;obtain⟨aZ,aY,bN⟩:=q0j aC.out;subst bN
    by_cases c9:bM=true
    ·subst c9;rw[if_pos rfl] at H;obtain⟨⟨aU,bB,bA⟩,bU,H⟩:=zB H;obtain⟨bI,H⟩:=q8c H;obtain⟨bE,aW⟩:∃ y_:List Bool,y_=(aG++[aU]):=⟨_,rfl⟩
     replace H:(q3c.l0 k1 a2 bE (wrap64 (aQ+1)) s0_0 bB bA aK aJ)=some (r1,r2,r3):=zY aW H
     have Ny256:=zA aW;clear aW;have H':=zA H;clear H
     go_wp2_with (first|((with_reducible refine zgf 82 rfl ?_);refine zgl 18 Try.func82 #[.agg #[.int .i64 aK,.int .i64 aJ],.slice aZ aG.length aY] ?_;(with_reducible refine(q1t.calls k1 aK aJ _ _ aG true _ ?s1 ?s2 A8.out).mono ?_);(case s1=>exact zCx (q0b aC.out).2.2);(case s2=>exact(q0b aC.out).2.1);rintro e cB ⟨rfl,hb⟩;refine⟨_,rfl,?_⟩;replace aC:=zRb aC hb;replace aA:=zkb aA hb;replace HK:=zA (q0d.trans zK0 (q0d.of_below hb g none) (.inl rfl));replace HB:=zA (q1b zB0 hb);replace HI0:=zA (q0g.below zI0 hb);(try clear hb))|(go_at_call 29;(with_reducible refine(q5c.calls g s0_0 aI aH 2 aU bB bA w0 _ ?s1 ?s2 bU.out).mono ?_);(case s1=>exact zI0);(case s2=>exact zB0);rintro e cA ⟨rfl,hi,hb,hk⟩;replace aC:=z_k aC s0_0 aI aH hk;replace aA:=zkB hk aA aT;replace HK:=zA (q0d.trans zK0 hk (.inl rfl));replace HB:=zA hb;replace HI0:=zA (hi);(try clear hb))|((with_reducible refine q0t (b:=.append) (xs:=#[.tmp 15,.tmp 23]) rfl ?_);at_builtin;refine q2j Kd.bool w.heap.size rfl (.tmp 15) (.tmp 23) 31 4 (.bool false) 1 rfl Try.underlying31 q9a rfl (by decide) (by omega) (.slice aZ aG.length aY) aG aU [.bool aU] (fun _=>True) (fun _=>False) rfl rfl ?aP (fun _ hk=>hk.elim) ?aF ?aO (Below.refl _ _) ?aS ?aL ?_;(case aP=>exact rfl);(case aF=>exact(fun _ _=>trivial));(case aO=>exact(zR aC));(case aS=>exact(q0y (w:=w) (g:=g) (row:=none) zK0));(case aL=>have:=bI.out;omega);intro v257 bZ ho hb hg hat;rw[←Ny256.out] at ho;replace aA:=zgr aA hg (q5s aC.out aA.out (by decide));replace HB:=zA (q7y zB0 HL.out hb);replace HI0:=zA (q0g.grown zI0 hg (q0g.q7c HI0.out aC.out (by decide)));replace HK:=zA (q0d.trans zK0 (q0d.q7a hg g) (y0l aC.out));have bK:=zA ho;clear aC;clear ho hb hg hat))
     go_roundg k1
     case measure=>have:=HK1.out;omega
     case rel=>exact⟨(bE),(wrap64 (aQ+1)),(bB),(bA),zr,H',⟨by have:=HK1.out;omega⟩,⟨zR bK⟩,⟨zk aA⟩,⟨zI0⟩,⟨zK0⟩,⟨zB0⟩⟩
    ·replace c9:=Bool.eq_false_iff.mpr c9;subst c9;rw[if_neg zNo] at H;obtain⟨bH,H⟩:=q8c H;obtain⟨bD,aV⟩:∃ y_:List Bool,y_=(aG++[false]):=⟨_,rfl⟩
     replace H:(q3c.l0 k1 a2 bD (wrap64 (aQ+1)) s0_0 aI aH aK aJ)=some (r1,r2,r3):=zY aV H
     have Ny259:=zA aV;clear aV;have H':=zA H;clear H
     go_wp2_with (first|((with_reducible refine zgf 82 rfl ?_);refine zgl 18 Try.func82 #[.agg #[.int .i64 aK,.int .i64 aJ],.slice aZ aG.length aY] ?_;(with_reducible refine(q1t.calls k1 aK aJ _ _ aG false _ ?s1 ?s2 A8.out).mono ?_);(case s1=>exact zCx (q0b aC.out).2.2);(case s2=>exact(q0b aC.out).2.1);rintro e bY ⟨rfl,hb⟩;refine⟨_,rfl,?_⟩;replace aC:=zRb aC hb;replace aA:=zkb aA hb;replace HK:=zA (q0d.trans zK0 (q0d.of_below hb g none) (.inl rfl));replace HB:=zA (q1b zB0 hb);replace HI0:=zA (q0g.below zI0 hb);(try clear hb))|((with_reducible refine q0t (b:=.append) (xs:=#[.tmp 15,.tmp 23]) rfl ?_);at_builtin;refine q2j Kd.bool w.heap.size rfl (.tmp 15) (.tmp 23) 31 4 (.bool false) 1 rfl Try.underlying31 q9a rfl (by decide) (by omega) (.slice aZ aG.length aY) aG false [.bool false] (fun _=>True) (fun _=>False) rfl rfl ?aP (fun _ hk=>hk.elim) ?aF ?aO (Below.refl _ _) ?aS ?aL ?_;(case aP=>exact rfl);(case aF=>exact(fun _ _=>trivial));(case aO=>exact(zR aC));(case aS=>exact(q0y (w:=w) (g:=g) (row:=none) zK0));(case aL=>have:=bH.out;omega);intro v260 bX ho hb hg hat;rw[←Ny259.out] at ho;replace aA:=zgr aA hg (q5s aC.out aA.out (by decide));replace HB:=zA (q7y zB0 HL.out hb);replace HI0:=zA (q0g.grown zI0 hg (q0g.q7c HI0.out aC.out (by decide)));replace HK:=zA (q0d.trans zK0 (q0d.q7a hg g) (y0l aC.out));have bJ:=zA ho;clear aC;clear ho hb hg hat))
     go_roundg k1
     case measure=>have:=HK1.out;omega
     case rel=>exact⟨(bD),(wrap64 (aQ+1)),(aI),(aH),zr,H',⟨by have:=HK1.out;omega⟩,⟨zR bJ⟩,⟨zk aA⟩,⟨zI0⟩,⟨zK0⟩,⟨zB0⟩⟩
   ·rw[if_neg c7] at H;have bO:=decide_eq_false c7;clear c7;simp only[Option.some.injEq,Prod.mk.injEq] at H;obtain⟨rfl,rfl,rfl⟩:=H;go_wp2;go_ret;exact⟨_,zE,zR aC,zI0,zB0,zK0⟩
end Go.Proofs.Ytkonccdanjhngaa.Q
