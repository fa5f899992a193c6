/- Walks of 23 functions of the program: each comes to what a plain function tells. -/
import Derived.Test.YtdnbfegkplpngaaG0
namespace Go.Proofs.Ytdnbfegkplpngaa.Q
open Go.RowKit Go.Proofs.YtdnbfegkplpngaaW.PrintWords Go.Proofs.YtdnbfegkplpngaaW.PrintLast Go.Proofs.YtdnbfegkplpngaaW.PrintMore Go.Proofs.YtdnbfegkplpngaaW.Zip
attribute [local go_sem] max2_int min2_int max_two min_two max_three min_three max_four min_four   -- for this text's walks alone
set_option linter.unusedVariables false
set_option maxHeartbeats 8000000
set_option maxRecDepth 100000
set_option linter.unusedSimpArgs false

def laws_big.f (l0:List Int):Option (Bool):=some (decide ((l0.length:Int)>1048576))
theorem laws_big.calls (A0:Option Addr) (c0:Nat) (l0:List Int) (r:Bool) (w:World) (aC:Kd.C (Kd.int .u8) w A0 l0.length l0) (aD:l0.length≤c0) (h:laws_big.f l0=some r) :
  Calls Try.prog 4 #[.slice A0 l0.length c0] w fun e w'=>e=.returned (.bool r)∧Drawn0 w w':=by
 have aH:=zA aC;have aI:=zA aD;clear aC aD;have H:=h;clear h;unfold laws_big.f at H;obtain rfl:=zI H;go_enter Try.func4,Try.ntmps4;go_wp2;go_ret;exact⟨by first|rfl|(simp;done)|(simp[*];done),by repeat (first|exact Drawn0.refl _|apply Drawn0.step)⟩

/-- A state of type 86 at block g of W; what its slices lead to came in by w0. -/
def IsS86 (w0 W:World) (g:Nat) (f0:List Int) (f1:Int) (f2:Int):Prop:=∃ A0 c0,W.heap[g]?=some (.cells #[.slice A0 f0.length c0,.int .i64 f1,.int .i64 f2] 86 (0,0))∧w0.heap.size≤g∧Kd.C (Kd.int .u8) w0 A0 f0.length f0
theorem IsS86.grown {w0 W:World} {g:Nat} {f0:List Int} {f1:Int} {f2:Int} {W1:World} {row:Option Nat} (h:IsS86 w0 W g f0 f1 f2) (hw:W.grownBy W1 row) (hne:some g≠row):IsS86 w0 W1 g f0 f1 f2:=by
 obtain⟨A0,c0,hb,hg,hr0⟩:=h
 exact⟨A0,c0,blk_grown hb hw hne,hg,hr0⟩
theorem IsS86.own_neN {w0 W:World} {g:Nat} {f0:List Int} {f1:Int} {f2:Int} {α:Type} {d:Kd α} {e:Nat} {base:Nat} {ok:Nat→Prop} {v:Value} {xs:List α} (h:IsS86 w0 W g f0 f1 f2) (ho:Kd.N d e W base ok v xs) (ht:e≠86):some g≠v.ownBlock:=by
 obtain⟨A0,c0,hb,hg,hr0⟩:=h
 exact Kd.N_ne ho hb ht
theorem IsS86.fresh {w0 W:World} {g:Nat} {f0:List Int} {f1:Int} {f2:Int} (h:IsS86 w0 W g f0 f1 f2):∀ k,W.heap.size≤k→k≠g:=by
 obtain⟨A0,c0,hb,hg,hr0⟩:=h
 exact Kd.freshB hb
theorem IsS86.kept {w0 W:World} {g:Nat} {f0:List Int} {f1:Int} {f2:Int} {W1:World} {S:Nat→Prop} (h:IsS86 w0 W g f0 f1 f2) (hk:Kept W W1 S) (hne:¬ S g):IsS86 w0 W1 g f0 f1 f2:=by
 obtain⟨A0,c0,hb,hg,hr0⟩:=h
 exact⟨A0,c0,blk_kept hb hk hne,hg,hr0⟩
theorem IsS86.below {w0 W:World} {g:Nat} {f0:List Int} {f1:Int} {f2:Int} {W1:World} (h:IsS86 w0 W g f0 f1 f2) (hw:Below W.heap.size W W1):IsS86 w0 W1 g f0 f1 f2:=h.grown (grown_of_below hw none) (by simp)
theorem IsS86.alloc {w0 W:World} {g:Nat} {f0:List Int} {f1:Int} {f2:Int} (h:IsS86 w0 W g f0 f1 f2) (o:Obj):IsS86 w0 (W.alloc o) g f0 f1 f2:=h.below (below_alloc (Below.refl _ _) o)
theorem IsS86.drewN {w0 W:World} {g:Nat} {f0:List Int} {f1:Int} {f2:Int} (h:IsS86 w0 W g f0 f1 f2) (m:Nat):IsS86 w0 (W.drewN m) g f0 f1 f2:=h
theorem IsS86.drew {w0 W:World} {g:Nat} {f0:List Int} {f1:Int} {f2:Int} (h:IsS86 w0 W g f0 f1 f2):IsS86 w0 W.drew g f0 f1 f2:=h
theorem IsS86.at_ {w0 W:World} {g:Nat} {f0:List Int} {f1:Int} {f2:Int} {w':World} {m:Nat} (hq:W.drewN m=w') (h:IsS86 w0 W g f0 f1 f2):IsS86 w0 w' g f0 f1 f2:=by subst hq;exact IsS86.drewN h m
theorem IsS86.apart {w0 W:World} {g:Nat} {f0:List Int} {f1:Int} {f2:Int} {α:Type} {d:Kd α} {e:Nat} {base:Nat} {ok:Nat→Prop} {v:Value} {xs:List α} (h:IsS86 w0 W g f0 f1 f2) (ho:d.R e W base ok v xs) (ht:∀ q,q∈e :: d.E→q≠86):d.R e W base (fun k=>ok k∧k≠g) v xs:=by
 obtain⟨A0,c0,hb,hg,hr0⟩:=h
 exact Kd.R_types ho hb ht
theorem IsS86.own_ne {w0 W:World} {g:Nat} {f0:List Int} {f1:Int} {f2:Int} {α:Type} {d:Kd α} {e:Nat} {base:Nat} {ok:Nat→Prop} {v:Value} {xs:List α} (h:IsS86 w0 W g f0 f1 f2) (ho:d.R e W base ok v xs) (ht:e≠86):some g≠v.ownBlock:=by
 obtain⟨A0,c0,hb,hg,hr0⟩:=h
 exact Kd.R_ne ho hb ht
theorem IsS86.apartQ {w0 W:World} {g:Nat} {f0:List Int} {f1:Int} {f2:Int} {α:Type} {d:Kd α} {e:Nat} {base:Nat} {ok:Nat→Prop} {v:Value} {xs:List α} (h:IsS86 w0 W g f0 f1 f2) (ho:d.Q e W base ok v xs) (ht:∀ q,q∈e :: d.E→q≠86):d.Q e W base (fun k=>ok k∧k≠g) v xs:=by
 obtain⟨A0,c0,hb,hg,hr0⟩:=h
 exact Kd.Q_types ho hb ht
theorem IsS86.own_neQ {w0 W:World} {g:Nat} {f0:List Int} {f1:Int} {f2:Int} {α:Type} {d:Kd α} {e:Nat} {base:Nat} {ok:Nat→Prop} {v:Value} {xs:List α} (h:IsS86 w0 W g f0 f1 f2) (ho:d.Q e W base ok v xs) (ht:e≠86):some g≠v.ownBlock:=by
 obtain⟨A0,c0,hb,hg,hr0⟩:=h
 exact Kd.Q_ne ho hb ht
theorem IsS86.apartS {w0 W:World} {g:Nat} {f0:List Int} {f1:Int} {f2:Int} {α:Type} {d:Kd α} {e:Nat} {base:Nat} {ok:Nat→Prop} {v:Value} {xs:List α} (h:IsS86 w0 W g f0 f1 f2) (ho:d.S e W base ok v xs) (ht:∀ q,q∈e :: d.E→q≠86):d.S e W base (fun k=>ok k∧k≠g) v xs:=by
 obtain⟨A0,c0,hb,hg,hr0⟩:=h
 exact Kd.S_types ho hb ht
theorem IsS86.own_neS {w0 W:World} {g:Nat} {f0:List Int} {f1:Int} {f2:Int} {α:Type} {d:Kd α} {e:Nat} {base:Nat} {ok:Nat→Prop} {v:Value} {xs:List α} (h:IsS86 w0 W g f0 f1 f2) (ho:d.S e W base ok v xs) (ht:e≠86):some g≠v.ownBlock:=by
 obtain⟨A0,c0,hb,hg,hr0⟩:=h
 exact Kd.S_ne ho hb ht
theorem IsS86.lt {w0 W:World} {g:Nat} {f0:List Int} {f1:Int} {f2:Int} (h:IsS86 w0 W g f0 f1 f2):g<W.heap.size:=by
 obtain⟨A0,c0,hb,hg,hr0⟩:=h
 exact blk_lt hb
theorem IsS86.ge {w0 W:World} {g:Nat} {f0:List Int} {f1:Int} {f2:Int} (h:IsS86 w0 W g f0 f1 f2):w0.heap.size≤g:=by
 obtain⟨A0,c0,hb,hg,hr0⟩:=h
 exact hg
theorem IsS86.ne_blk {w0 W:World} {g:Nat} {f0:List Int} {f1:Int} {f2:Int} {a:Nat} {cs:Array Value} {t:TypeId} {fr:Nat × Nat} (h:IsS86 w0 W g f0 f1 f2) (hb2:W.heap[a]?=some (.cells cs t fr)) (ht:t≠86):g≠a:=by
 obtain⟨A0,c0,hb,hg,hr0⟩:=h
 rintro rfl
 rw[hb] at hb2
 injection hb2 with hb2
 injection hb2 with _ ht2
 exact ht ht2.symm
theorem IsS86.far {w0 W:World} {g:Nat} {f0:List Int} {f1:Int} {f2:Int} {p:Addr} (h:IsS86 w0 W g f0 f1 f2) (hne:g≠p.block) (u:Value):IsS86 w0 (W.setCell p u) g f0 f1 f2:=by
 obtain⟨A0,c0,hb,hg,hr0⟩:=h
 exact⟨A0,c0,blk_far hb hne u,hg,hr0⟩
theorem cellS86_0 {W:World} {g:Nat} {A0:Option Addr} {c0:Nat} {f0:List Int} {f1:Int} {f2:Int} (h:W.heap[g]?=some (.cells #[.slice A0 f0.length c0,.int .i64 f1,.int .i64 f2] 86 (0,0))):W.cell? ⟨g,0,none⟩=some (.slice A0 f0.length c0):=(blk_cell h 0).trans rfl
theorem cellS86_1 {W:World} {g:Nat} {A0:Option Addr} {c0:Nat} {f0:List Int} {f1:Int} {f2:Int} (h:W.heap[g]?=some (.cells #[.slice A0 f0.length c0,.int .i64 f1,.int .i64 f2] 86 (0,0))):W.cell? ⟨g,1,none⟩=some (.int .i64 f1):=(blk_cell h 1).trans rfl
theorem IsS86.set_1 {w0 W:World} {g:Nat} {f0:List Int} {f1:Int} {f2:Int} (h:IsS86 w0 W g f0 f1 f2) (x:Int):IsS86 w0 (W.setCell ⟨g,1,none⟩ (.int .i64 x)) g f0 x f2:=by
 obtain⟨A0,c0,hb,hg,hr0⟩:=h
 exact⟨A0,c0,by simpa using blk_set hb 1 (.int .i64 x),hg,hr0⟩
theorem cellS86_2 {W:World} {g:Nat} {A0:Option Addr} {c0:Nat} {f0:List Int} {f1:Int} {f2:Int} (h:W.heap[g]?=some (.cells #[.slice A0 f0.length c0,.int .i64 f1,.int .i64 f2] 86 (0,0))):W.cell? ⟨g,2,none⟩=some (.int .i64 f2):=(blk_cell h 2).trans rfl
theorem IsS86.set_2 {w0 W:World} {g:Nat} {f0:List Int} {f1:Int} {f2:Int} (h:IsS86 w0 W g f0 f1 f2) (x:Int):IsS86 w0 (W.setCell ⟨g,2,none⟩ (.int .i64 x)) g f0 f1 x:=by
 obtain⟨A0,c0,hb,hg,hr0⟩:=h
 exact⟨A0,c0,by simpa using blk_set hb 2 (.int .i64 x),hg,hr0⟩
theorem IsS86.new (w0 W:World) (A0:Option Addr) (c0:Nat) (f0:List Int) (f1:Int) (f2:Int) (hB:Below w0.heap.size w0 W) (hr0:Kd.C (Kd.int .u8) w0 A0 f0.length f0):IsS86 w0 (W.alloc (.cells #[.slice A0 f0.length c0,.int .i64 f1,.int .i64 f2] 86)) W.heap.size f0 f1 f2:=⟨A0,c0,by simpa using heap_alloc_new W _,hB.size,hr0⟩
theorem zI0 {p:Prop} (h:p:=by repeat (first|(with_reducible first|exact HI0.out|apply IsS86.alloc|apply IsS86.drewN|apply IsS86.drew|apply IsS86.set_1|apply IsS86.set_2|refine IsS86.far ?_ (Aside0.out (by assumption)) _)|exact HI0.out)):p:=h
theorem zB0 {p:Prop} (h:p:=by repeat (first|(with_reducible first|exact HB.out|apply below_alloc|apply pw_below_drewN|apply below_drew1|refine below_set ?_ (IsS86.ge HI0.out)|refine below_set (w:=w0) ?_ (Aside0.out (by assumption)))|exact HB.out)):p:=h
theorem zCF {p q:Prop} (x:q) (h:q→p:=by intro hx_;(with_reducible repeat (first|exact hx_|refine (cell_far (Aside0.out (by assumption)) _).trans ?_))):p:=h x
theorem zkB {w1 w2 W:World} {g g':Nat} {o:Obj} (hk:KeepBut w1 w2 g none) (x:Aside0 (W.heap[g']?=some o)) (n:Aside0 (g'≠g)) (h:W.heap[g']?=some o→w1.heap[g']?=some o:=by intro hx_;(with_reducible repeat (first|refine blk_drewN ?_ _|refine blk_drew ?_|refine blk_alloc ?_ _|refine blk_far ?_ (Aside0.out (by assumption)) _));exact hx_):Aside0 (w2.heap[g']?=some o):=⟨KeepBut.blk hk (h x.out) n.out (by simp)⟩
theorem zK0 {p:Prop} (h:p:=by repeat (first|(with_reducible first|exact HK.out|apply KeepBut.set_|apply keep_drewN|apply keep_drew|apply keep_alloc|refine keep_far (w:=w) ?_ (Aside0.out (by assumption)) _)|exact HK.out)):p:=h
theorem zI1 {p:Prop} (h:p:=by repeat (first|(with_reducible first|exact HI435.out|apply IsS86.alloc|apply IsS86.drewN|apply IsS86.drew|apply IsS86.set_1|apply IsS86.set_2|refine IsS86.far ?_ (Aside0.out (by assumption)) _)|exact HI435.out)):p:=h
theorem zB1 {p:Prop} (h:p:=by repeat (first|(with_reducible first|exact HB.out|apply below_alloc|apply pw_below_drewN|apply below_drew1|refine below_set ?_ (IsS86.ge HI435.out)|refine below_set (w:=w) ?_ (Aside0.out (by assumption)))|exact HB.out)):p:=h
theorem zI2 {p:Prop} (h:p:=by repeat (first|(with_reducible first|exact HI870.out|apply IsS86.alloc|apply IsS86.drewN|apply IsS86.drew|apply IsS86.set_1|apply IsS86.set_2|refine IsS86.far ?_ (Aside0.out (by assumption)) _)|exact HI870.out)):p:=h
theorem zB2 {p:Prop} (h:p:=by repeat (first|(with_reducible first|exact HB.out|apply below_alloc|apply pw_below_drewN|apply below_drew1|refine below_set ?_ (IsS86.ge HI870.out)|refine below_set (w:=w) ?_ (Aside0.out (by assumption)))|exact HB.out)):p:=h

def spec_l1New.l0:Nat→List Int→Int→Int→Option (List Int × Int × Int)
  |0,_,_,_=>none
  |k+1,x0,x3,x4=>if x4<(x0.length:Int) then(if x4<4000 then(if 0≤x4 then(spec_l1New.l0 k x0 (Go.bits .and .i64 (wrap64 ((wrap64 ((wrap64 (x3 * 137))+(wrap64 (rd x0 x4))))+11)) 1073741823) (wrap64 (x4+1))) else(none)) else(some (x0,0,x3))) else(some (x0,0,x3))
def spec_l1New.f (k:Nat) (l0:List Int):Option (List Int × Int × Int):=spec_l1New.l0 k l0 (wrap64 (193017+(l0.length:Int))) 0
theorem spec_l1New.calls (k:Nat) (A0:Option Addr) (c0:Nat) (l0:List Int) (r1:List Int) (r2:Int) (r3:Int) (w0 w:World) (hB:Below w0.heap.size w0 w) (aW:Kd.C (Kd.int .u8) w0 A0 l0.length l0) (aX:l0.length≤c0) (h:spec_l1New.f k l0=some (r1,r2,r3)) :
  Calls Try.prog 18 #[.slice A0 l0.length c0] w fun e w'=>∃ g_:Nat,e=.returned (.pointer (some ⟨g_,0,none⟩))∧IsS86 w0 w' g_ r1 r2 r3∧Below w0.heap.size w0 w'∧Below w.heap.size w w':=by
 have hu86:=Try.underlying86;have aI:=zA aW;have bF:=zA aX;clear aW aX;have HBW:=zA (Below.refl w.heap.size w);have HW0:=zA hB.size;have HB:=zA hB;clear hB;have H:=h;clear h;unfold spec_l1New.f at H;have H':=zA H;clear H;go_enter Try.func18,Try.ntmps18;go_wp2
 go_loopg [3,4] k (fun kq v3 v4 w'=>∃ (aC:Int) (aA:Int),v3=.int .i64 aC∧v4=.int .i64 aA∧Aside0 (spec_l1New.l0 kq l0 aC aA=some (r1,r2,r3))∧Aside0 (kq≤k)∧Aside0 (Below w0.heap.size w0 w')∧Aside0 (Below w.heap.size w w'))
 case atStart=>exact⟨(wrap64 (193017+(l0.length:Int))),(0),zr,zr,H',⟨Nat.le_refl _⟩,⟨zb⟩,⟨zw⟩⟩
 case round =>
  clear H';obtain⟨aC,aA,rfl,rfl,HA,HK1,HB,HBW⟩:=hrel
  cases gk with
  |zero=>exact absurd HA.out (by simp[spec_l1New.l0])
  |succ k1 =>
   have H:=HA.out;clear HA;simp only[spec_l1New.l0] at H
   by_cases c2:aA<(l0.length:Int)
   ·rw[if_pos c2] at H;have bA:=decide_eq_true c2;clear c2
    by_cases c3:aA<4000
    ·rw[if_pos c3] at H;have aZ:=decide_eq_true c3;clear c3;obtain⟨bE,H⟩:=zifD H;have H':=zA H;clear H;have bD:=zT (0≤(aA:Int));have bC:=zT (aA<(l0.length:Int));obtain⟨bB,aY,aH⟩:=Kd.at_int aI.out aA zd zd;cases aY;replace aH:=pw_cell_below HB.out aH;go_wp2
     go_roundg k1
     case measure=>have:=HK1.out;omega
     case rel=>exact⟨(Go.bits .and .i64 (wrap64 ((wrap64 ((wrap64 (aC * 137))+(wrap64 (rd l0 aA))))+11)) 1073741823),(wrap64 (aA+1)),zr,zr,H',⟨by have:=HK1.out;omega⟩,⟨zb⟩,⟨zw⟩⟩
    ·rw[if_neg c3] at H;have aZ:=decide_eq_false c3;clear c3;simp only[Option.some.injEq,Prod.mk.injEq] at H;obtain⟨rfl,rfl,rfl⟩:=H
     go_wp2_with (first|((with_reducible refine zgd 31 rfl ?_);refine zbx 31 #[.slice A0 l0.length c0,.int .i64 0,.int .i64 aC] 86 ?_;intro aG hg w5 hbox hb;replace HB:=zbs hb;have aU:=zA hbox;have aM:=zA ((by rw[hg];exact(below_size zw):w.heap.size≤aG));have aQ:=zA ((Nat.le_trans HW0.out (by rw[hg];exact(below_size zw):w.heap.size≤aG):w0.heap.size≤aG));replace HBW:=zA (below_step HBW.out hb);clear hb hbox hg))
     go_ret;exact⟨_,rfl,(show IsS86 w0 _ aG l0 0 aC from ⟨_,_,zk aU,aQ.out,aI.out⟩),zb,by repeat (first|(with_reducible first|exact HBW.out|apply below_alloc|apply pw_below_drewN|apply below_drew1|refine below_set ?_ aM.out)|exact HBW.out)⟩
   ·rw[if_neg c2] at H;have bA:=decide_eq_false c2;clear c2;simp only[Option.some.injEq,Prod.mk.injEq] at H;obtain⟨rfl,rfl,rfl⟩:=H
    go_wp2_with (first|((with_reducible refine zgd 31 rfl ?_);refine zbx 31 #[.slice A0 l0.length c0,.int .i64 0,.int .i64 aC] 86 ?_;intro aE hg w6 hbox hb;replace HB:=zbs hb;have aT:=zA hbox;have aK:=zA ((by rw[hg];exact(below_size zw):w.heap.size≤aE));have aN:=zA ((Nat.le_trans HW0.out (by rw[hg];exact(below_size zw):w.heap.size≤aE):w0.heap.size≤aE));replace HBW:=zA (below_step HBW.out hb);clear hb hbox hg))
    go_ret;exact⟨_,rfl,(show IsS86 w0 _ aE l0 0 aC from ⟨_,_,zk aT,aN.out,aI.out⟩),zb,by repeat (first|(with_reducible first|exact HBW.out|apply below_alloc|apply pw_below_drewN|apply below_drew1|refine below_set ?_ aK.out)|exact HBW.out)⟩

def spec_l1Byte.f (s0_0:List Int) (s0_1:Int) (s0_2:Int):Option (Int × Int × Int):=if s0_1<(s0_0.length:Int) then(if 0≤s0_1 then(some (Go.bits .and .i64 (wrap64 ((Go.bits .and .i64 (Go.bits .xor .i64 ((wrap64 ((wrap64 (s0_2 * 6364136223846793005))+1442695040888963407)) / 8589934592) ((wrap64 ((wrap64 (s0_2 * 6364136223846793005))+1442695040888963407)) / 140737488355328)) 255)+(wrap64 (rd s0_0 s0_1)))) 255,wrap64 (s0_1+1),wrap64 ((wrap64 (s0_2 * 6364136223846793005))+1442695040888963407))) else(none)) else(some (Go.bits .and .i64 (Go.bits .xor .i64 ((wrap64 ((wrap64 (s0_2 * 6364136223846793005))+1442695040888963407)) / 8589934592) ((wrap64 ((wrap64 (s0_2 * 6364136223846793005))+1442695040888963407)) / 140737488355328)) 255,s0_1,wrap64 ((wrap64 (s0_2 * 6364136223846793005))+1442695040888963407)))
theorem spec_l1Byte.calls (g:Nat) (s0_0:List Int) (s0_1:Int) (s0_2:Int) (r1:Int) (r2:Int) (r3:Int) (w0 w:World) (hI:IsS86 w0 w g s0_0 s0_1 s0_2) (hB:Below w0.heap.size w0 w) (h:spec_l1Byte.f s0_0 s0_1 s0_2=some (r1,r2,r3)) :
  Calls Try.prog 53 #[.pointer (some ⟨g,0,none⟩)] w fun e w'=>e=.returned (.int .i64 r1)∧IsS86 w0 w' g s0_0 r2 r3∧Below w0.heap.size w0 w'∧KeepBut w w' g none:=by
 have HI0:=zA hI;have HK:=zA (KeepBut.refl w g none);have HL:=zA hB.size;clear hI;have HW0:=zA hB.size;have HB:=zA hB;clear hB;have H:=h;clear h;unfold spec_l1Byte.f at H
 by_cases c2:s0_1<(s0_0.length:Int)
 ·rw[if_pos c2] at H;have aE:=decide_eq_true c2;clear c2;obtain⟨aX,H⟩:=zifD H;simp only[Option.some.injEq,Prod.mk.injEq] at H;obtain⟨rfl,rfl,rfl⟩:=H;obtain⟨ASz4_0,cSz4_0,HGz4,hgz4,HSz4_0⟩:=HI0.out;have aU:=cellS86_0 HGz4;have aT:=cellS86_1 HGz4;have aQ:=cellS86_2 HGz4;have aJ:=blk_frozen HGz4 1;have aI:=blk_frozen HGz4 2;clear HGz4 hgz4;have aW:=zT (0≤(s0_1:Int));have aV:=zT (s0_1<(s0_0.length:Int));obtain⟨aC,aD,aA⟩:=Kd.at_int HSz4_0 s0_1 zd zd;cases aD;have hn104_0:aC.block≠g:=Nat.ne_of_lt (Nat.lt_of_lt_of_le (by have:=World.block_lt_of_cell? _ _ aA;first|rwa [add_block] at this|exact this) (IsS86.ge HI0.out));replace aA:=pw_cell_below HB.out aA;replace aA:=(cell_far (p:=⟨g,2,none⟩) (by first|(rw[add_block];exact hn104_0)|(show (Addr.add _ _).block≠_;rw[add_block];exact hn104_0)|exact hn104_0) (.int .i64 (wrap64 ((wrap64 (s0_2 * 6364136223846793005))+1442695040888963407)))).trans aA;(try have hy104_0:=fun (n_:Nat)=>(show (((w.drewN n_).setCell ⟨g,2,none⟩ (.int .i64 (wrap64 ((wrap64 (s0_2 * 6364136223846793005))+1442695040888963407))))).cell? _=some _ from aA));clear hn104_0;go_enter Try.func53,Try.ntmps53;go_wp2
  repeat (go_quiet (fail);try go_wp2)
  go_ret;exact⟨zE,zI0,zB0,zK0⟩
 ·rw[if_neg c2] at H;have aE:=decide_eq_false c2;clear c2;simp only[Option.some.injEq,Prod.mk.injEq] at H;obtain⟨rfl,rfl,rfl⟩:=H;obtain⟨ASz5_0,cSz5_0,HGz5,hgz5,HSz5_0⟩:=HI0.out;have aN:=cellS86_0 HGz5;have aM:=cellS86_1 HGz5;have aK:=cellS86_2 HGz5;have aH:=blk_frozen HGz5 1;have aG:=blk_frozen HGz5 2;clear HGz5 hgz5;go_enter Try.func53,Try.ntmps53;go_wp2
  repeat (go_quiet (fail);try go_wp2)
  go_ret;exact⟨zE,zI0,zB0,zK0⟩

def spec_l1Below.f (s0_0:List Int) (s0_1:Int) (s0_2:Int) (a1:Int):Option (Int × Int × Int):=if a1≤0 then(some (0,s0_1,s0_2)) else(if a1≤256 then((spec_l1Byte.f s0_0 s0_1 s0_2).bind fun bt105=>(if a1=0 then(none) else(some (Int.tmod bt105.1 a1,bt105.2.1,bt105.2.2)))) else((spec_l1Byte.f s0_0 s0_1 s0_2).bind fun bt108=>((spec_l1Byte.f s0_0 bt108.2.1 bt108.2.2).bind fun bt111=>((spec_l1Byte.f s0_0 bt111.2.1 bt111.2.2).bind fun bt114=>(if a1=0 then(none) else(some (Int.tmod (wrap64 ((wrap64 ((wrap64 (bt108.1 * 65536))+(wrap64 (bt111.1 * 256))))+bt114.1)) a1,bt114.2.1,bt114.2.2)))))))
theorem spec_l1Below.calls (g:Nat) (s0_0:List Int) (s0_1:Int) (s0_2:Int) (a1:Int) (r1:Int) (r2:Int) (r3:Int) (w0 w:World) (hI:IsS86 w0 w g s0_0 s0_1 s0_2) (hB:Below w0.heap.size w0 w) (h:spec_l1Below.f s0_0 s0_1 s0_2 a1=some (r1,r2,r3)) :
  Calls Try.prog 37 #[.pointer (some ⟨g,0,none⟩),.int .i64 a1] w fun e w'=>e=.returned (.int .i64 r1)∧IsS86 w0 w' g s0_0 r2 r3∧Below w0.heap.size w0 w'∧KeepBut w w' g none:=by
 have HI0:=zA hI;have HK:=zA (KeepBut.refl w g none);have HL:=zA hB.size;clear hI;have HW0:=zA hB.size;have HB:=zA hB;clear hB;have H:=h;clear h;unfold spec_l1Below.f at H
 by_cases c3:a1≤0
 ·rw[if_pos c3] at H;have aV:=decide_eq_true c3;clear c3;simp only[Option.some.injEq,Prod.mk.injEq] at H;obtain⟨rfl,rfl,rfl⟩:=H;go_enter Try.func37,Try.ntmps37;go_wp2;go_ret;exact⟨zE,zI0,zB0,zK0⟩
 ·rw[if_neg c3] at H;have aV:=decide_eq_false c3;clear c3
  by_cases c4:a1≤256
  ·rw[if_pos c4] at H;have aU:=decide_eq_true c4;clear c4;obtain⟨⟨aT,aQ,aN⟩,A5,H⟩:=zB H
   by_cases c6:a1=0
   ·rw[if_pos c6] at H;exact absurd H (by simp)
   ·rw[if_neg c6] at H;have bA:(a1==0)=false:=beq_eq_false_iff_ne.mpr c6;have aZ:(a1 != 0)=true:=bne_iff_ne.mpr c6;simp only[Option.some.injEq,Prod.mk.injEq] at H;obtain⟨rfl,rfl,rfl⟩:=H;go_enter Try.func37,Try.ntmps37
    go_wp2_with (first|((with_reducible refine zgf 53 rfl ?_);refine zgl 13 Try.func53 #[.pointer (some ⟨g,0,none⟩)] ?_;(with_reducible refine(spec_l1Byte.calls g s0_0 s0_1 s0_2 aT aQ aN w0 _ ?s1 ?s2 A5.out).mono ?_);(case s1=>exact zI0);(case s2=>exact zB0);rintro e w7 ⟨rfl,hi,hb,hk⟩;refine⟨_,rfl,?_⟩;replace HK:=zA (KeepBut.trans zK0 hk (.inl rfl));replace HB:=zA hb;replace HI0:=zA (hi);(try clear hb)))
    go_ret;exact⟨zE,zI0,zB0,zK0⟩
  ·rw[if_neg c4] at H;have aU:=decide_eq_false c4;clear c4;obtain⟨⟨aM,aG,aE⟩,A8,H⟩:=zB H;obtain⟨⟨aK,aD,aC⟩,A9,H⟩:=zB H;obtain⟨⟨aJ,aI,aH⟩,aW,H⟩:=zB H
   by_cases c11:a1=0
   ·rw[if_pos c11] at H;exact absurd H (by simp)
   ·rw[if_neg c11] at H;have aY:(a1==0)=false:=beq_eq_false_iff_ne.mpr c11;have aX:(a1 != 0)=true:=bne_iff_ne.mpr c11;simp only[Option.some.injEq,Prod.mk.injEq] at H;obtain⟨rfl,rfl,rfl⟩:=H;go_enter Try.func37,Try.ntmps37
    go_wp2_with (first|((with_reducible refine zgf 53 rfl ?_);refine zgl 17 Try.func53 #[.pointer (some ⟨g,0,none⟩)] ?_;(with_reducible refine(spec_l1Byte.calls g s0_0 s0_1 s0_2 aM aG aE w0 _ ?s1 ?s2 A8.out).mono ?_);(case s1=>exact zI0);(case s2=>exact zB0);rintro e bG ⟨rfl,hi,hb,hk⟩;refine⟨_,rfl,?_⟩;replace HK:=zA (KeepBut.trans zK0 hk (.inl rfl));replace HB:=zA hb;replace HI0:=zA (hi);(try clear hb))|((with_reducible refine zgf 53 rfl ?_);refine zgl 19 Try.func53 #[.pointer (some ⟨g,0,none⟩)] ?_;(with_reducible refine(spec_l1Byte.calls g s0_0 aG aE aK aD aC w0 _ ?s1 ?s2 A9.out).mono ?_);(case s1=>exact zI0);(case s2=>exact zB0);rintro e bF ⟨rfl,hi,hb,hk⟩;refine⟨_,rfl,?_⟩;replace HK:=zA (KeepBut.trans zK0 hk (.inl rfl));replace HB:=zA hb;replace HI0:=zA (hi);(try clear hb))|((with_reducible refine zgf 53 rfl ?_);refine zgl 21 Try.func53 #[.pointer (some ⟨g,0,none⟩)] ?_;(with_reducible refine(spec_l1Byte.calls g s0_0 aD aC aJ aI aH w0 _ ?s1 ?s2 aW.out).mono ?_);(case s1=>exact zI0);(case s2=>exact zB0);rintro e bE ⟨rfl,hi,hb,hk⟩;refine⟨_,rfl,?_⟩;replace HK:=zA (KeepBut.trans zK0 hk (.inl rfl));replace HB:=zA hb;replace HI0:=zA (hi);(try clear hb)))
    go_ret;exact⟨zE,zI0,zB0,zK0⟩

def spec_l1Int.f (s0_0:List Int) (s0_1:Int) (s0_2:Int) (l1:List Int):Option (Int × Int × Int):=(spec_l1Below.f s0_0 s0_1 s0_2 (l1.length:Int)).bind fun bt117=>(if 0≤bt117.1 then(if bt117.1<(l1.length:Int) then(some (rd l1 bt117.1,bt117.2.1,bt117.2.2)) else(none)) else(none))
theorem spec_l1Int.calls (g:Nat) (s0_0:List Int) (s0_1:Int) (s0_2:Int) (A1:Option Addr) (c1:Nat) (l1:List Int) (r1:Int) (r2:Int) (r3:Int) (w0 w:World) (hI:IsS86 w0 w g s0_0 s0_1 s0_2) (hB:Below w0.heap.size w0 w) (aG:Kd.C (Kd.int .i64) w A1 l1.length l1) (aH:l1.length≤c1) (hf1:∀ ad,A1=some ad→0<l1.length→ad.block≠g) (h:spec_l1Int.f s0_0 s0_1 s0_2 l1=some (r1,r2,r3)) :
  Calls Try.prog 55 #[.pointer (some ⟨g,0,none⟩),.slice A1 l1.length c1] w fun e w'=>e=.returned (.int .i64 r1)∧IsS86 w0 w' g s0_0 r2 r3∧Below w0.heap.size w0 w'∧KeepBut w w' g none:=by
 have aQ:=zA aG;have aY:=zA aH;clear aG aH;have HI0:=zA hI;have HK:=zA (KeepBut.refl w g none);have HL:=zA hB.size;clear hI;have HW0:=zA hB.size;have HB:=zA hB;clear hB;have H:=h;clear h;unfold spec_l1Int.f at H;obtain⟨⟨aC,aJ,aI⟩,A3,H⟩:=zB H;obtain⟨aW,H⟩:=zifD H;obtain⟨aV,H⟩:=zifD H;simp only[Option.some.injEq,Prod.mk.injEq] at H;obtain⟨rfl,rfl,rfl⟩:=H;go_enter Try.func55,Try.ntmps55
 go_wp2_with (first|((with_reducible refine zgf 37 rfl ?_);refine zgl 9 Try.func37 #[.pointer (some ⟨g,0,none⟩),.int .i64 (l1.length:Int)] ?_;(with_reducible refine(spec_l1Below.calls g s0_0 s0_1 s0_2 (l1.length:Int) aC aJ aI w0 _ ?s1 ?s2 A3.out).mono ?_);(case s1=>exact zI0);(case s2=>exact zB0);rintro e w6 ⟨rfl,hi,hb,hk⟩;refine⟨_,rfl,?_⟩;replace HK:=zA (KeepBut.trans zK0 hk (.inl rfl));replace HB:=zA hb;replace HI0:=zA (hi);(try clear hb);have aU:0≤(aC:Int):=zd;have aT:aC<(l1.length:Int):=zd;obtain⟨aE,aK,aA⟩:=Kd.at_int aQ.out aC zd zd;cases aK;replace aA:=keep_cell HK.out aA (by first|(rw[add_block];exact hf1 _ rfl (by omega))|exact hf1 _ rfl (by omega)|exact hf1 aE rfl (by omega));replace aU:=eq_true aU;replace aT:=eq_true aT))
 go_ret;exact⟨zE,zI0,zB0,zK0⟩

def spec_l4Draw.l0:Nat→Int→List Int→Int→Int→Int→Int→List Int→Option (Int × Int × List Int × Int × Int)
  |0,_,_,_,_,_,_,_=>none
  |k+1,x4,x1000,x1001,x1002,x129000,x129001,x129002=>if x4<(wrap64 (x129000 * x129001)) then((spec_l1Int.f x1000 x1001 x1002 (([0,0,0,0,1,2]:List Int))).bind fun bt132=>(if x129002.length<17592186044416 then(spec_l4Draw.l0 k (wrap64 (x4+1)) x1000 bt132.2.1 bt132.2.2 x129000 x129001 (x129002++[bt132.1])) else(none))) else(if 0<(x129002.length:Int) then(some (x129000,x129001,(x129002.set (0:Int).toNat 0),x1001,x1002)) else(none))
def spec_l4Draw.f (k:Nat) (s0_0:List Int) (s0_1:Int) (s0_2:Int):Option (Int × Int × List Int × Int × Int):=(spec_l1Below.f s0_0 s0_1 s0_2 5).bind fun bt122=>((spec_l1Below.f s0_0 bt122.2.1 bt122.2.2 4).bind fun bt125=>(spec_l4Draw.l0 k 0 s0_0 bt125.2.1 bt125.2.2 (wrap64 (2+bt122.1)) (wrap64 (2+bt125.1)) ([]:List Int)))
def spec_l4Draw.T5:Bool × List (List Nat × List Nat):=(true,[([],[]),([0],[0]),([],[]),([],[]),([2,3],[2,3]),([4],[4]),([1,5,4],[1,5]),([0,1,2,3,4,5,6],[]),([7,6,6,0,1,2,3,4,5,6],[6,7])])
def spec_l4Draw.B5:List Nat:=[0,1,0,0,12,28,63,127,255]
theorem spec_l4Draw.tab5:rtab .any (opsOf Try.f42 5)=spec_l4Draw.T5:=by kernel_rfl
theorem spec_l4Draw.bits5:waitsOk spec_l4Draw.T5.2 spec_l4Draw.B5=true:=by kernel_rfl
theorem spec_l4Draw.calls (k:Nat) (g:Nat) (s0_0:List Int) (s0_1:Int) (s0_2:Int) (r1:Int) (r2:Int) (r3:List Int) (r4:Int) (r5:Int) (w0 w:World) (hI:IsS86 w0 w g s0_0 s0_1 s0_2) (hB:Below w0.heap.size w0 w) (h:spec_l4Draw.f k s0_0 s0_1 s0_2=some (r1,r2,r3,r4,r5)) :
  Calls Try.prog 42 #[.pointer (some ⟨g,0,none⟩)] w fun e w'=>∃ v2_:Value,e=.returned (.agg #[.int .i64 r1,.int .i64 r2,v2_])∧Kd.R (Kd.int .i64) 3 w' w.heap.size (fun _=>True) v2_ r3∧IsS86 w0 w' g s0_0 r4 r5∧Below w0.heap.size w0 w'∧KeepBut w w' g none:=by
 have hu26:=Try.underlying26;have HI0:=zA hI;have HK:=zA (KeepBut.refl w g none);have HL:=zA hB.size;clear hI;have HW0:=zA hB.size;have HB:=zA hB;clear hB;have H:=h;clear h;unfold spec_l4Draw.f at H;obtain⟨⟨aW,bY,bX⟩,A2,H⟩:=zB H;obtain⟨⟨aV,bG,bF⟩,A3,H⟩:=zB H;have H':=zA H;clear H;go_enter Try.func42,Try.ntmps42
 go_wp2_with (first|((with_reducible refine zgd 2 rfl ?_);refine zbx 2 #[.int .i64 0,.int .i64 0,.slice none 0 0] 26 ?_;intro aN hg w4 hbox hb;replace HB:=zA (below_step zB0 hb);have aD:=zA hbox;have aI:=zA ((by rw[hg];exact(keep_size (w:=w) (g:=g) (row:=none) zK0):w.heap.size≤aN));have aU:=zA ((Nat.le_trans HW0.out (by rw[hg];exact(keep_size (w:=w) (g:=g) (row:=none) zK0):w.heap.size≤aN):w0.heap.size≤aN));replace HK:=zA (KeepBut.trans zK0 (KeepBut.of_below hb g none) (.inl rfl));have aG:=zA ((by rw[hg];exact Nat.ne_of_lt (IsS86.lt (show IsS86 w0 _ g s0_0 s0_1 s0_2 from zI0)):g≠aN));have bA:=zA ((by rw[hg];exact Nat.ne_of_gt (IsS86.lt (show IsS86 w0 _ g s0_0 s0_1 s0_2 from zI0)):aN≠g));replace HI0:=zA (IsS86.below zI0 hb);clear hb hbox hg)|((with_reducible refine zgf 37 rfl ?_);refine zgl 6 Try.func37 #[.pointer (some ⟨g,0,none⟩),.int .i64 5] ?_;(with_reducible refine(spec_l1Below.calls g s0_0 s0_1 s0_2 5 aW bY bX w0 _ ?s1 ?s2 A2.out).mono ?_);(case s1=>exact zI0);(case s2=>exact zB0);rintro e w5 ⟨rfl,hi,hb,hk⟩;refine⟨_,rfl,?_⟩;replace aD:=zkB hk aD bA;replace HK:=zA (KeepBut.trans zK0 hk (.inl rfl));replace HB:=zA hb;replace HI0:=zA (hi);(try clear hb))|((with_reducible refine zgf 37 rfl ?_);refine zgl 9 Try.func37 #[.pointer (some ⟨g,0,none⟩),.int .i64 4] ?_;(with_reducible refine(spec_l1Below.calls g s0_0 bY bX 4 aV bG bF w0 _ ?s1 ?s2 A3.out).mono ?_);(case s1=>exact zI0);(case s2=>exact zB0);rintro e w6 ⟨rfl,hi,hb,hk⟩;refine⟨_,rfl,?_⟩;replace aD:=zkB hk aD bA;replace HK:=zA (KeepBut.trans zK0 hk (.inl rfl));replace HB:=zA hb;replace HI0:=zA (hi);(try clear hb))|((with_reducible refine zgd 3 rfl ?_);refine zbx 3 #[.int .i64 0,.int .i64 0,.slice none 0 0] 26 ?_;intro aJ hg w7 hbox hb;replace HB:=zA (below_step zB0 hb);have aC:=zA hbox;have aT:=zA ((by rw[hg];exact(keep_size (w:=w) (g:=g) (row:=none) zK0):w.heap.size≤aJ));have bB:=zA ((Nat.le_trans HW0.out (by rw[hg];exact(keep_size (w:=w) (g:=g) (row:=none) zK0):w.heap.size≤aJ):w0.heap.size≤aJ));replace HK:=zA (KeepBut.trans zK0 (KeepBut.of_below hb g none) (.inl rfl));replace aD:=zlh aD hg hb;obtain⟨aY,aX,aD⟩:=aD;have aH:=zA ((by rw[hg];exact Nat.ne_of_lt (IsS86.lt (show IsS86 w0 _ g s0_0 bG bF from zI0)):g≠aJ));have aZ:=zA ((by rw[hg];exact Nat.ne_of_gt (IsS86.lt (show IsS86 w0 _ g s0_0 bG bF from zI0)):aJ≠g));replace HI0:=zA (IsS86.below zI0 hb);clear hb hbox hg;have eG:=aX.out;have eE:=aY.out;have eF:=aZ.out;have eD:=aH.out;obtain⟨bU,bT,bS,bR,bQ,bP⟩:=ze3 aC))
 go_loopg [4] k (fun kq v4 w'=>∃ (bC:Int) (aM:Int) (aK:Int) (aE:List Int) (u129002:Value),v4=.int .i64 bC∧Aside0 (spec_l4Draw.l0 kq bC s0_0 aM aK (wrap64 (2+aW)) (wrap64 (2+aV)) aE=some (r1,r2,r3,r4,r5))∧Aside0 (kq≤k)∧Aside0 (Kd.R (Kd.int .i64) 3 w' w.heap.size (fun _=>True) u129002 aE)∧Aside0 (w'.heap[aN]?=some (.cells #[.int .i64 0,.int .i64 0,(.slice none 0 0)] 26 (0,0)))∧Aside0 (w'.heap[aJ]?=some (.cells #[.int .i64 (wrap64 (2+aW)),.int .i64 (wrap64 (2+aV)),u129002] 26 (0,0)))∧Aside0 (IsS86 w0 w' g s0_0 aM aK)∧Aside0 (KeepBut w w' g none)∧Aside0 (Below w0.heap.size w0 w'))
 case atStart=>exact⟨(0),(bG),(bF),(([]:List Int)),(.slice none 0 0),zr,H',⟨Nat.le_refl _⟩,⟨by first|exact Kd.R_nil _ _ _ _ _|exact Kd.N_nil _ _ _ _ _|exact Kd.V_nil _ _ _ _ _|exact Kd.Q_nil _ _ _ _ _|exact Kd.S_nil _ _ _ _ _⟩,⟨zkf aD⟩,⟨zkp aC⟩,⟨zI0⟩,⟨zK0⟩,⟨zB0⟩⟩
 case round =>
  clear H';(try clear bU);(try clear bT);(try clear bS);(try clear bR);(try clear bQ);(try clear bP);obtain⟨bC,aM,aK,aE,u129002,rfl,HA,HK1,aA,aD,aC,HI0,HK,HB⟩:=hrel
  cases gk with
  |zero=>exact absurd HA.out (by simp[spec_l4Draw.l0])
  |succ k1 =>
   have H:=HA.out;clear HA;simp only[spec_l4Draw.l0] at H
   by_cases c11:bC<(wrap64 ((wrap64 (2+aW)) * (wrap64 (2+aV))))
   ·rw[if_pos c11] at H;have cI:=decide_eq_true c11;clear c11;obtain⟨bD,bJ⟩:∃ y_:List Int,y_=(([0,0,0,0,1,2]:List Int)):=⟨_,rfl⟩
    replace H:((spec_l1Int.f s0_0 aM aK bD).bind fun bt132=>(if aE.length<17592186044416 then(spec_l4Draw.l0 k1 (wrap64 (bC+1)) s0_0 bt132.2.1 bt132.2.2 (wrap64 (2+aW)) (wrap64 (2+aV)) (aE++[bt132.1])) else(none)))=some (r1,r2,r3,r4,r5):=zY bJ H
    have Ny129:=zA bJ;clear bJ;obtain⟨⟨bE,bN,bM⟩,dO,H⟩:=zB H;obtain⟨cJ,H⟩:=zifA H;obtain⟨bL,bI⟩:∃ y_:List Int,y_=(aE++[bE]):=⟨_,rfl⟩
    replace H:(spec_l4Draw.l0 k1 (wrap64 (bC+1)) s0_0 bN bM (wrap64 (2+aW)) (wrap64 (2+aV)) bL)=some (r1,r2,r3,r4,r5):=zY bI H
    have Ny135:=zA bI;clear bI;have H':=zA H;clear H;have dY:=aX.out;have dT:=aY.out;have dX:=aZ.out;have dS:=aH.out;obtain⟨dM,dL,dK,dA,cZ,cY⟩:=ze3 aC
    try go_wp2
    replace aA:=zA (Kd.R_drew aA.out);replace aD:=zA (blk_drew aD.out);replace aC:=zA (blk_drew aC.out);replace HI0:=zA (IsS86.drew HI0.out);replace HK:=zA (keep_drew HK.out);replace HB:=zA (below_drew1 HB.out);refine start_ (n:=9) (S:=fun w'=>w'.cell? ⟨aJ,0,none⟩=some (.int .i64 (wrap64 (2+aW)))∧w'.cell? ⟨aJ,1,none⟩=some (.int .i64 (wrap64 (2+aV)))∧w'.cell? ⟨aJ,2,none⟩=some (u129002)) (ds:=[8]) #[false,false,false,false,false,false,false,false,false] (by kernel_rfl) rfl rfl ⟨zq aC 0,zq aC 1,zq aC 2⟩ (fun hHeld=>?_);refine with_tabW spec_l4Draw.tab5 spec_l4Draw.bits5 (fun HT_ HW_=>?_);generalize wr.drew=eL at aA aD aC HI0 HK HB hHeld ⊢;refine z_p 0 ?_;refine z_p 2 ?_;refine zt 1 22 HT_ HW_ hHeld ?_;refine zo 3 24 HT_ (fun K hK=>?_);refine Kd.R_lit_step (Kd.int .i64) _ 3 ?hg (N:=24) ?hd (xs:=([0,0,0,0,1,2]:List Int)) (inner:=[.int .i64 0,.int .i64 0,.int .i64 0,.int .i64 0,.int .i64 1,.int .i64 2]) (ok:=fun _=>True) (okp:=fun _=>True) ?hr ?hp (fun _ hk=>hk) trivial (Below.refl _ _) (Nat.le_refl _) (by simp) ?_;(case hd=>rfl);(case hg=>rfl);(case hr=>first|(go_simp;done)|(go_simp;rfl));(case hp=>exact(Reps.one (show Kd.M (Kd.int .i64) _ _ _ 0 [.int .i64 0] from rfl) (Reps.one (show Kd.M (Kd.int .i64) _ _ _ 0 [.int .i64 0] from rfl) (Reps.one (show Kd.M (Kd.int .i64) _ _ _ 0 [.int .i64 0] from rfl) (Reps.one (show Kd.M (Kd.int .i64) _ _ _ 0 [.int .i64 0] from rfl) (Reps.one (show Kd.M (Kd.int .i64) _ _ _ 1 [.int .i64 1] from rfl) (Reps.one (show Kd.M (Kd.int .i64) _ _ _ 2 [.int .i64 2] from rfl) (Reps.none _ _))))))));intro v130 eK ho19 hb hg_ hnew_;clear hg_ hnew_;(first|rw[←Ny129.out] at ho19|(simp only[Int.reduceToNat] at ho19;rw[←Ny129.out] at ho19));have aQ:=zA (Kd.R_lower (Kd.R_new' ho19 (Kd.R_lt (zR aA))) (keep_size (w:=w) (g:=g) (row:=none) zK0));replace aA:=zA (Kd.R_elder' (zR aA) (Kd.R_base ho19) hb);replace aD:=zkb aD hb;replace aC:=zA (blk_below (g:=aJ) (o:=.cells #[.int .i64 (wrap64 (2+aW)),.int .i64 (wrap64 (2+aV)),u129002] 26 (0,0)) (zk aC) hb);replace HK:=zA (KeepBut.trans zK0 (KeepBut.of_below hb g none) (.inl rfl));replace HB:=zA (below_step zB0 hb);replace HI0:=zA (IsS86.below zI0 hb);clear hb ho19;obtain⟨cH,cG,cE⟩:=Kd.R_slice aQ.out;(first|subst cE|(injection cE with f1_ f2_ f3_;have f4_:=f1_.symm;have f5_:=f3_.symm;clear f1_ f2_ f3_;subst f4_;subst f5_));refine hK.out _ _ ⟨zq aC 0,zq aC 1,zq aC 2⟩ (fun hHeld=>?_);clear hK K;refine norm_ zV ?_;refine zo 4 25 HT_ (fun K hK=>?_);refine zgo Try.func55 #[.pointer (some ⟨g,0,none⟩),.slice cH bD.length cG] ?_
    with_reducible refine(spec_l1Int.calls g s0_0 aM aK _ _ bD bE bN bM w0 _ ?s1 ?s2 ?s3 ?s4 ?s5 dO.out).mono ?_
    (case s1=>exact zI0);(case s2=>exact zB0);(case s3=>exact zCx (Kd.R_reads' aQ.out).2.2);(case s4=>exact(Kd.R_reads' aQ.out).2.1);(case s5=>exact far_slice (IsS86.own_ne HI0.out aQ.out (by decide)));rintro e eJ ⟨rfl,hi,hb,hk⟩;refine⟨_,rfl,?_⟩;replace aA:=zA (Kd.R_mono (Kd.R_keep (IsS86.apart (show IsS86 w0 _ g s0_0 aM aK from zI0) (zR aA) (by decide)) hk (fun _ h=>h.2)) (fun _ h=>h.1));replace aD:=zkB hk aD bA;replace aC:=zkB hk aC aZ;replace aQ:=zA (Kd.R_mono (Kd.R_keep (IsS86.apart (show IsS86 w0 _ g s0_0 aM aK from zI0) (zR aQ) (by decide)) hk (fun _ h=>h.2)) (fun _ h=>h.1));replace HK:=zA (KeepBut.trans zK0 hk (.inl rfl));replace HB:=zA hb;replace HI0:=zA (hi);(try clear hb);refine hK.out _ _ ⟨zq aC 0,zq aC 1,zq aC 2⟩ (fun hHeld=>?_);clear hK K;refine norm_ zV ?_;refine zo 5 26 HT_ (fun K hK=>?_);refine value_ (w1:=?_) (v:=?_) (by rfl) rfl ?_ ?_;rotate_left 2
    ·go_simp
     constructor
     ·rfl
     ·rfl
    refine hK.out _ _ ⟨(blk_cell (blk_alloc aC.out _) 0).trans rfl,(blk_cell (blk_alloc aC.out _) 1).trans rfl,(blk_cell (blk_alloc aC.out _) 2).trans rfl⟩ (fun hHeld=>?_);clear hK K;refine norm_ zV ?_;refine zo 6 27 HT_ (fun K hK=>?_);refine Kd.R_append_step (Kd.int .i64) w.heap.size (by rfl) (.tmp 22) (.tmp 26) 24 3 (.int .i64 0) 8 rfl Try.underlying24 info3 rfl (by decide) (by omega) u129002 aE bE [.int .i64 bE] (fun k_=>some k_≠(.slice cH bD.length cG:Value).ownBlock) (fun _=>False) rfl rfl ?aP (fun _ hk=>hk.elim) ?aF ?aO (Below.refl _ _) ?aS ?aL ?_;(case aP=>exact rfl);(case aF=>exact(fun k_ hk=>Kd.fresh' (Kd.R_lt (zR aQ)) k_ hk));(case aO=>exact(z_2 aA));(case aS=>exact(keep_size (w:=w) (g:=g) (row:=none) zK0));(case aL=>have:=cJ.out;omega);intro v136 dN ho hb hg hat;rw[←Ny135.out] at ho;replace aD:=zgr aD hg (Kd.R_ne aA.out aD.out (by decide));replace aC:=zgr aC hg (Kd.R_ne aA.out aC.out (by decide));replace aQ:=zA (Kd.R_after (ok:=(fun _=>True)) (zR aQ) hg hat);replace HB:=zA (below_weaken zB0 HL.out hb);replace HI0:=zA (IsS86.grown zI0 hg (IsS86.own_ne HI0.out aA.out (by decide)));replace HK:=zA (KeepBut.trans zK0 (KeepBut.of_grown hg g) (Kd.R_base2 aA.out));have bO:=zA ho;clear aA;clear ho hb hg hat;obtain⟨cM,cL,cD⟩:=Kd.R_slice bO.out;(first|subst cD|(injection cD with f1_ f2_ f3_;have f4_:=f1_.symm;have f5_:=f3_.symm;clear f1_ f2_ f3_;subst f4_;subst f5_));refine hK.out _ _ ⟨zq aC 0,zq aC 1,zq aC 2⟩ (fun hHeld=>?_);clear hK K;refine norm_ zV ?_;refine z_p 7 ?_;refine last_ (i:=8) (N:=none) #[true,true,true,true,true,true,true,true,true] rfl rfl (one_of HT_.out (by kernel_rfl)) (by decide) (fun K hK=>?_);have eC:dN.cell? ⟨aJ,2,none⟩=some (u129002):=zq aC 2;have dZ:=blk_frozen aC.out 2;have cN:=aY.out;have cO:=aX.out;refine skip_ (w1:=?_) (by rfl) rfl ?_ ?_;rotate_left
    ·go_simp
     rfl
    refine hK.out _ _ ?_;clear hK K;refine done_ (done_of HT_.out (by kernel_rfl)) ?_
    try go_wp2
    go_roundg k1
    case measure=>have:=HK1.out;omega
    case rel=>exact⟨(wrap64 (bC+1)),(bN),(bM),(bL),(.slice cM bL.length cL),zr,H',⟨by have:=HK1.out;omega⟩,⟨zF1 bO aC⟩,⟨zkf aD⟩,⟨zkp aC⟩,⟨zI0⟩,⟨zK0⟩,⟨zB0⟩⟩
   ·rw[if_neg c11] at H;have cI:=decide_eq_false c11;clear c11;obtain⟨cK,H⟩:=zif H;have eB:=decide_eq_true cK;have eA:decide (0<aE.length)=true:=decide_eq_true (by omega);clear cK;obtain⟨bV,bH⟩:∃ y_:List Int,y_=(aE.set (0:Int).toNat 0):=⟨_,rfl⟩
    replace H:(some ((wrap64 (2+aW)),(wrap64 (2+aV)),bV,aM,aK))=some (r1,r2,r3,r4,r5):=zY bH H
    have Ny138:=zA bH;clear bH;simp only[Option.some.injEq,Prod.mk.injEq] at H;obtain⟨rfl,rfl,rfl,rfl,rfl⟩:=H;have dW:=aX.out;have dR:=aY.out;have dV:=aZ.out;have dQ:=aH.out;obtain⟨dJ,dI,dH,cX,cW,cV⟩:=ze3 aC;have cA:0≤(0:Int):=(by omega);have bZ:(0:Int)<((aE.length:Int):Int):=zd;have qi26:(0<aE.length)=True:=eq_true (by omega);obtain⟨go26,cF,cC,cB,gl26,cl26,HG26⟩:=Kd.R_form aA.out (by omega);(first|cases cC|(injection cC with ea_ en_ ec_;(first|subst ea_|(injection ea_ with ea_;subst ea_));subst ec_;clear en_));have GB26:=zA cB;have GG26:=zA HG26;clear cB gl26 HG26;obtain⟨bK,hf26_0⟩:=Kd.R_celln 0 aA.out (0:Int) cA bZ;(try rw[show ((0:Int)).toNat=0 from rfl] at bK);(try simp only[Nat.reduceMul,Nat.zero_mul,Nat.zero_add,Nat.reduceAdd] at bK);(try rw[show ((0:Int)).toNat=0 from rfl] at hf26_0);(try simp only[Nat.reduceMul,Nat.zero_mul,Nat.zero_add,Nat.reduceAdd] at hf26_0);replace cA:=eq_true cA;replace bZ:=eq_true bZ;have HP30:=Kd.R_putg aA.out (0:Int) 0
    go_wp2_with (first|((with_reducible refine gate_store (t:=3) (p:=31) rfl ?_);refine store_event (t:=3) (p:=31) (v:=?vo_w31) (w1:=(wr.setCell ⟨go26,(0:Int).toNat,none⟩ (.int .i64 0))) ?hg ?ho ?hn ?hr ?_;(case ho=>rfl);(case hg=>rfl);(case hn=>rfl);(case hr=>first|(go_simp;done)|(go_simp;rfl));intro bW hw;have hg:wr.grownBy bW (some go26):=(by rw[hw];exact HP30.2);have hp_:Kd.R (Kd.int .i64) 3 bW w.heap.size (fun _=>True) (.slice (some ⟨go26,0,none⟩) aE.length cF) bV:=(by rw[hw,Ny138.out];exact HP30.1);clear HP30;replace aD:=zgr aD hg (Kd.R_ne aA.out aD.out (by decide));replace aC:=zgr aC hg (Kd.R_ne aA.out aC.out (by decide));replace HI0:=zA (IsS86.grown zI0 hg (IsS86.own_ne HI0.out aA.out (by decide)));replace HB:=zA ((by rw[hw];exact below_set (HB.out) (Nat.le_trans HL.out GB26.out):Below w0.heap.size w0 bW));replace HK:=zA (KeepBut.trans zK0 (KeepBut.of_grown hg g) (Kd.R_base2 aA.out));replace aA:=zA hp_;clear hg hw hp_;obtain⟨dG,dF,dE,cU,cT,cS⟩:=ze3 aC;have dU:=bA.out;have dP:=aG.out;obtain⟨dD,dC,dB,cR,cQ,cP⟩:=ze3 aD))
    refine bodyPost_ret (results_cell_row rfl _ _ aN 26 #[.int .i64 (wrap64 (2+aW)),.int .i64 (wrap64 (2+aV)),.slice (some ⟨go26,0,none⟩) aE.length cF] (0,0) _ rfl (zkp aD) Try.underlying26 rfl (by kernel_rfl)) rfl ?_;exact⟨_,zE,zF1 aA aD,zI0,zB0,zK0⟩

def spec_l6Rule.f (s0_0:List Int) (s0_1:Int) (s0_2:Int):Option (Int × Int × Int × Int):=(spec_l1Below.f s0_0 s0_1 s0_2 6).bind fun bt140=>((spec_l1Below.f s0_0 bt140.2.1 bt140.2.2 (wrap64 (1+bt140.1))).bind fun bt143=>(some (bt143.1,wrap64 (1+bt140.1),bt143.2.1,bt143.2.2)))
theorem spec_l6Rule.calls (g:Nat) (s0_0:List Int) (s0_1:Int) (s0_2:Int) (r1:Int) (r2:Int) (r3:Int) (r4:Int) (w0 w:World) (hI:IsS86 w0 w g s0_0 s0_1 s0_2) (hB:Below w0.heap.size w0 w) (h:spec_l6Rule.f s0_0 s0_1 s0_2=some (r1,r2,r3,r4)) :
  Calls Try.prog 43 #[.pointer (some ⟨g,0,none⟩)] w fun e w'=>e=.returned (.agg #[.int .i64 r1,.int .i64 r2])∧IsS86 w0 w' g s0_0 r3 r4∧Below w0.heap.size w0 w'∧KeepBut w w' g none:=by
 have hu28:=Try.underlying28;have HI0:=zA hI;have HK:=zA (KeepBut.refl w g none);have HL:=zA hB.size;clear hI;have HW0:=zA hB.size;have HB:=zA hB;clear hB;have H:=h;clear h;unfold spec_l6Rule.f at H;obtain⟨⟨aG,aM,aK⟩,A2,H⟩:=zB H;obtain⟨⟨aJ,aQ,aN⟩,A3,H⟩:=zB H;simp only[Option.some.injEq,Prod.mk.injEq] at H;obtain⟨rfl,rfl,rfl,rfl⟩:=H;go_enter Try.func43,Try.ntmps43
 go_wp2_with (first|((with_reducible refine zgd 2 rfl ?_);refine zbx 2 #[.int .i64 0,.int .i64 0] 28 ?_;intro aA hg w4 hbox hb;replace HB:=zA (below_step zB0 hb);have aD:=zA hbox;have aH:=zA ((by rw[hg];exact(keep_size (w:=w) (g:=g) (row:=none) zK0):w.heap.size≤aA));have aI:=zA ((Nat.le_trans HW0.out (by rw[hg];exact(keep_size (w:=w) (g:=g) (row:=none) zK0):w.heap.size≤aA):w0.heap.size≤aA));replace HK:=zA (KeepBut.trans zK0 (KeepBut.of_below hb g none) (.inl rfl));have aC:=zA ((by rw[hg];exact Nat.ne_of_lt (IsS86.lt (show IsS86 w0 _ g s0_0 s0_1 s0_2 from zI0)):g≠aA));have aE:=zA ((by rw[hg];exact Nat.ne_of_gt (IsS86.lt (show IsS86 w0 _ g s0_0 s0_1 s0_2 from zI0)):aA≠g));replace HI0:=zA (IsS86.below zI0 hb);clear hb hbox hg)|((with_reducible refine zgf 37 rfl ?_);refine zgl 5 Try.func37 #[.pointer (some ⟨g,0,none⟩),.int .i64 6] ?_;(with_reducible refine(spec_l1Below.calls g s0_0 s0_1 s0_2 6 aG aM aK w0 _ ?s1 ?s2 A2.out).mono ?_);(case s1=>exact zI0);(case s2=>exact zB0);rintro e w5 ⟨rfl,hi,hb,hk⟩;refine⟨_,rfl,?_⟩;replace aD:=zkB hk aD aE;replace HK:=zA (KeepBut.trans zK0 hk (.inl rfl));replace HB:=zA hb;replace HI0:=zA (hi);(try clear hb))|((with_reducible refine zgf 37 rfl ?_);refine zgl 9 Try.func37 #[.pointer (some ⟨g,0,none⟩),.int .i64 (wrap64 (1+aG))] ?_;(with_reducible refine(spec_l1Below.calls g s0_0 aM aK (wrap64 (1+aG)) aJ aQ aN w0 _ ?s1 ?s2 A3.out).mono ?_);(case s1=>exact zI0);(case s2=>exact zB0);rintro e w6 ⟨rfl,hi,hb,hk⟩;refine⟨_,rfl,?_⟩;replace aD:=zkB hk aD aE;replace HK:=zA (KeepBut.trans zK0 hk (.inl rfl));replace HB:=zA hb;replace HI0:=zA (hi);(try clear hb);have aY:=aE.out;have aX:=aC.out;obtain⟨aW,aV,aU,aT⟩:=ze2 aD))
 refine bodyPost_ret (results_cell_row rfl _ _ aA 28 #[.int .i64 aJ,.int .i64 (wrap64 (1+aG))] (0,0) _ rfl (zkp aD) Try.underlying28 rfl (by kernel_rfl)) rfl ?_;exact⟨zE,zI0,zB0,zK0⟩

def spec_l1In.f (a0:Int) (a1:Int) (a2:Int):Option (Bool):=if a0≥a1 then(some (decide (a0≤a2))) else(some false)
theorem spec_l1In.calls (a0:Int) (a1:Int) (a2:Int) (r:Bool) (w:World) (h:spec_l1In.f a0 a1 a2=some r) :
  Calls Try.prog 65 #[.int .i64 a0,.int .i64 a1,.int .i64 a2] w fun e w'=>e=.returned (.bool r)∧Drawn0 w w':=by
 have H:=h;clear h;unfold spec_l1In.f at H
 by_cases c4:a0≥a1
 ·rw[if_pos c4] at H;have aD:decide (a1≤a0)=true:=decide_eq_true c4;clear c4;obtain rfl:=zI H;go_enter Try.func65,Try.ntmps65;go_wp2;go_ret;exact⟨by first|rfl|(simp;done)|(simp[*];done),by repeat (first|exact Drawn0.refl _|apply Drawn0.step)⟩
 ·rw[if_neg c4] at H;have aD:decide (a1≤a0)=false:=decide_eq_false c4;clear c4;obtain rfl:=zI H;go_enter Try.func65,Try.ntmps65;go_wp2;go_ret;exact⟨by first|rfl|(simp;done)|(simp[*];done),by repeat (first|exact Drawn0.refl _|apply Drawn0.step)⟩

mutual
def spec_IsLand.j0:Nat→Bool→Int→Int→List Int→Option (Bool)
  |0,_,_,_,_=>none
  |k+1,x24,x147000,x147001,x147002=>if x24=true then(some false) else(spec_IsLand.l0 k 0 x147000 x147001 x147002)
def spec_IsLand.l0:Nat→Int→Int→Int→List Int→Option (Bool)
  |0,_,_,_,_=>none
  |k+1,x3,x147000,x147001,x147002=>if x3<(x147002.length:Int) then(if 0≤x3 then((spec_l1In.f (rd x147002 x3) 0 2).bind fun t150=>(if t150=true then(spec_IsLand.l0 k (wrap64 (x3+1)) x147000 x147001 x147002) else(some false))) else(none)) else(some true)
end
def spec_IsLand.f (k:Nat) (a0_0:Int) (a0_1:Int) (l0_2:List Int):Option (Bool):=(spec_l1In.f a0_0 1 8).bind fun t147=>(if t147=true then((spec_l1In.f a0_1 1 8).bind fun t148=>(if t148=true then(spec_IsLand.j0 k ((l0_2.length:Int) != (wrap64 (a0_0 * a0_1))) a0_0 a0_1 l0_2) else(spec_IsLand.j0 k true a0_0 a0_1 l0_2))) else(spec_IsLand.j0 k true a0_0 a0_1 l0_2))
theorem spec_IsLand.calls (k:Nat) (aE:Int) (aG:Int) (aK:Option Addr) (aJ:Nat) (aA:List Int) (r:Bool) (w:World) (bK:Kd.C (Kd.int .i64) w aK aA.length aA) (bL:aA.length≤aJ) (h:spec_IsLand.f k aE aG aA=some r) :
  Calls Try.prog 72 #[.agg #[.int .i64 aE,.int .i64 aG,.slice aK aA.length aJ]] w fun e w'=>e=.returned (.bool r)∧Below w.heap.size w w':=by
 have hu26:=Try.underlying26;have bO:=zA bK;have cV:=zA bL;clear bK bL;have HB:=zA (Below.refl w.heap.size w);have H:=h;clear h;unfold spec_IsLand.f at H;have bR:=zA H;clear H;go_enter Try.func72,Try.ntmps72
 go_upto_region 1 with (first|((with_reducible refine zgd 1 rfl ?_);(try (refine gate_guard (by rfl) ?_;dsimp only));refine zbx 1 #[.int .i64 aE,.int .i64 aG,.slice aK aA.length aJ] 26 ?_;intro bM hg w3 hbox hb;have aC:=zA hbox;have cW:=zga (w:=w) hg;replace HB:=zbs hb;clear hb hbox hg))
 (try simp only[Act.put,z_L])
 go_cut [24] (fun v24 wc=>∃ (kq:Nat) (aI:Bool),v24=.bool aI∧Aside0 (spec_IsLand.j0 kq aI aE aG aA=some r)∧Aside0 (kq≤k)∧Aside0 (wc.heap[bM]?=some (.cells #[.int .i64 aE,.int .i64 aG,(.slice aK aA.length aJ)] 26 (0,0)))∧Aside0 (Below w.heap.size w wc))
 case first =>
  have H:=bR.out;clear bR;obtain⟨bX,A4,H⟩:=zB H
  by_cases c5:bX=true
  ·subst c5;rw[if_pos rfl] at H;obtain⟨bW,A6,H⟩:=zB H
   by_cases c7:bW=true
   ·subst c7;rw[if_pos rfl] at H;have H':=zA H;clear H;obtain⟨bH,bG,bF,bB,bA,aZ⟩:=ze3 aC
    go_wp2_with (first|((with_reducible refine zgf 65 rfl ?_);refine zgl 6 Try.func65 #[.int .i64 aE,.int .i64 1,.int .i64 8] ?_;(with_reducible refine(spec_l1In.calls aE 1 8 true _ A4.out).mono ?_);rintro e w' ⟨rfl,⟨nd,rfl⟩⟩;refine⟨_,rfl,?_⟩)|(go_at_call 65;(with_reducible refine(spec_l1In.calls aG 1 8 true _ A6.out).mono ?_);rintro e w' ⟨rfl,⟨nd,rfl⟩⟩))
    go_meet
    case rel=>exact⟨_,(((aA.length:Int) != (wrap64 (aE * aG)))),zr,H',⟨by first|omega|exact Nat.le_refl _⟩,⟨zk aC⟩,⟨zb⟩⟩
   ·replace c7:=Bool.eq_false_iff.mpr c7;subst c7;rw[if_neg zNo] at H;have H':=zA H;clear H;obtain⟨bE,bD,bC,aY,aX,aW⟩:=ze3 aC
    go_wp2_with (first|((with_reducible refine zgf 65 rfl ?_);refine zgl 6 Try.func65 #[.int .i64 aE,.int .i64 1,.int .i64 8] ?_;(with_reducible refine(spec_l1In.calls aE 1 8 true _ A4.out).mono ?_);rintro e w' ⟨rfl,⟨nd,rfl⟩⟩;refine⟨_,rfl,?_⟩)|(go_at_call 65;(with_reducible refine(spec_l1In.calls aG 1 8 false _ A6.out).mono ?_);rintro e w' ⟨rfl,⟨nd,rfl⟩⟩))
    go_meet
    case rel=>exact⟨_,(true),zr,H',⟨by first|omega|exact Nat.le_refl _⟩,⟨zk aC⟩,⟨zb⟩⟩
  ·replace c5:=Bool.eq_false_iff.mpr c5;subst c5;rw[if_neg zNo] at H;have H':=zA H;clear H;obtain⟨aV,aU,aT,aQ,aN,aM⟩:=ze3 aC
   go_wp2_with (first|((with_reducible refine zgf 65 rfl ?_);refine zgl 6 Try.func65 #[.int .i64 aE,.int .i64 1,.int .i64 8] ?_;(with_reducible refine(spec_l1In.calls aE 1 8 false _ A4.out).mono ?_);rintro e w' ⟨rfl,⟨nd,rfl⟩⟩;refine⟨_,rfl,?_⟩))
   go_meet
   case rel=>exact⟨_,(true),zr,H',⟨by first|omega|exact Nat.le_refl _⟩,⟨zk aC⟩,⟨zb⟩⟩
 case rest =>
  clear bR;(try clear c5);(try clear c7);(try clear aV);(try clear aU);(try clear aT);(try clear bH);(try clear bG);(try clear bF);(try clear bE);(try clear bD);(try clear bC);(try clear aQ);(try clear aN);(try clear aM);(try clear bB);(try clear bA);(try clear aZ);(try clear aY);(try clear aX);(try clear aW);obtain⟨kq,aI,rfl,HA,HJ1,aC,HB⟩:=hcut;cases kq with
  |zero=>exact absurd HA.out (by simp[spec_IsLand.j0])
  |succ kj1 =>
   have H:=HA.out;clear HA;simp only[spec_IsLand.j0] at H
   by_cases bI:aI=true
   ·subst bI;rw[if_pos rfl] at H;obtain rfl:=zI H;go_wp2;go_ret;exact⟨zE,zb⟩
   ·replace bI:=Bool.eq_false_iff.mpr bI;subst bI;rw[if_neg zNo] at H;have H':=zA H;clear H;go_wp2
    go_loopg [3] kj1 (fun kq v3 w'=>∃ (aD:Int),v3=.int .i64 aD∧Aside0 (spec_IsLand.l0 kq aD aE aG aA=some r)∧Aside0 (kq≤kj1)∧Aside0 (w'.heap[bM]?=some (.cells #[.int .i64 aE,.int .i64 aG,(.slice aK aA.length aJ)] 26 (0,0)))∧Aside0 (Below w.heap.size w w'))
    case atStart=>exact⟨(0),zr,H',⟨Nat.le_refl _⟩,⟨zk aC⟩,⟨zb⟩⟩
    case round =>
     clear H';(try clear c5);(try clear c7);(try clear bI);(try clear aV);(try clear aU);(try clear aT);(try clear bH);(try clear bG);(try clear bF);(try clear bE);(try clear bD);(try clear bC);(try clear aQ);(try clear aN);(try clear aM);(try clear bB);(try clear bA);(try clear aZ);(try clear aY);(try clear aX);(try clear aW);obtain⟨aD,rfl,HA,HK2,aC,HB⟩:=hrel
     cases gk with
     |zero=>exact absurd HA.out (by simp[spec_IsLand.l0])
     |succ k2 =>
      have H:=HA.out;clear HA;simp only[spec_IsLand.l0] at H
      by_cases c12:aD<(aA.length:Int)
      ·rw[if_pos c12] at H;have bS:=decide_eq_true c12;clear c12;obtain⟨cU,H⟩:=zifD H;obtain⟨bV,bU,H⟩:=zB H
       by_cases bN:bV=true
       ·subst bN;rw[if_pos rfl] at H;have H':=zA H;clear H;obtain⟨cS,cR,cQ,cJ,cI,cH⟩:=ze3 aC;have bZ:=zT (0≤(aD:Int));have bY:=zT (aD<(aA.length:Int));obtain⟨bT,bJ,aH⟩:=Kd.at_int bO.out aD zd zd;cases bJ;replace aH:=zC HB aH
        go_wp2_with (first|((with_reducible refine zgf 65 rfl ?_);refine zgl 37 Try.func65 #[.int .i64 (rd aA aD),.int .i64 0,.int .i64 2] ?_;(with_reducible refine(spec_l1In.calls (rd aA aD) 0 2 true _ bU.out).mono ?_);rintro e w' ⟨rfl,⟨nd,rfl⟩⟩;refine⟨_,rfl,?_⟩))
        go_roundg k2
        case measure=>have:=HJ1.out;have:=HK2.out;omega
        case rel=>exact⟨(wrap64 (aD+1)),zr,H',⟨by have:=HJ1.out;have:=HK2.out;omega⟩,⟨zk aC⟩,⟨zb⟩⟩
       ·replace bN:=Bool.eq_false_iff.mpr bN;subst bN;rw[if_neg zNo] at H;obtain rfl:=zI H;obtain⟨cP,cO,cN,cG,cF,cE⟩:=ze3 aC;have bZ:=zT (0≤(aD:Int));have bY:=zT (aD<(aA.length:Int));obtain⟨bT,bJ,aH⟩:=Kd.at_int bO.out aD zd zd;cases bJ;replace aH:=zC HB aH
        go_wp2_with (first|((with_reducible refine zgf 65 rfl ?_);refine zgl 37 Try.func65 #[.int .i64 (rd aA aD),.int .i64 0,.int .i64 2] ?_;(with_reducible refine(spec_l1In.calls (rd aA aD) 0 2 false _ bU.out).mono ?_);rintro e w' ⟨rfl,⟨nd,rfl⟩⟩;refine⟨_,rfl,?_⟩))
        go_ret;exact⟨zE,zb⟩
      ·rw[if_neg c12] at H;have bS:=decide_eq_false c12;clear c12;obtain rfl:=zI H;obtain⟨cM,cL,cK,cD,cC,cB⟩:=ze3 aC;go_wp2;go_ret;exact⟨zE,zb⟩

def spec_IsCell.f (k:Nat) (a0_0:Int) (a0_1:Int) (l0_2:List Int) (a1:Int):Option (Bool):=(spec_IsLand.f k a0_0 a0_1 l0_2).bind fun t152=>(if t152=true then((spec_l1In.f a1 0 (wrap64 ((l0_2.length:Int)-1))).bind fun t153=>(some t153)) else(some false))
theorem spec_IsCell.calls (k:Nat) (aE:Int) (aD:Int) (aH:Option Addr) (aG:Nat) (aA:List Int) (a1:Int) (r:Bool) (w:World) (aI:Kd.C (Kd.int .i64) w aH aA.length aA) (aJ:aA.length≤aG) (h:spec_IsCell.f k aE aD aA a1=some r) :
  Calls Try.prog 76 #[.agg #[.int .i64 aE,.int .i64 aD,.slice aH aA.length aG],.int .i64 a1] w fun e w'=>e=.returned (.bool r)∧Below w.heap.size w w':=by
 have hu26:=Try.underlying26;have aK:=zA aI;have aM:=zA aJ;clear aI aJ;have HB:=zA (Below.refl w.heap.size w);have H:=h;clear h;unfold spec_IsCell.f at H;obtain⟨aV,A3,H⟩:=zB H
 by_cases c4:aV=true
 ·subst c4;rw[if_pos rfl] at H;obtain⟨aU,A5,H⟩:=zB H;obtain rfl:=zI H;go_enter Try.func76,Try.ntmps76
  go_wp2_with (first|((with_reducible refine zgd 2 rfl ?_);(try (refine gate_guard (by rfl) ?_;dsimp only));refine zbx 2 #[.int .i64 aE,.int .i64 aD,.slice aH aA.length aG] 26 ?_;intro aN hg w6 hbox hb;have aC:=zA hbox;have aT:=zga (w:=w) hg;replace HB:=zbs hb;clear hb hbox hg;obtain⟨bO,bN,bM,bI,bH,bG⟩:=ze3 aC)|((with_reducible refine zgf 72 rfl ?_);refine zgl 6 Try.func72 #[.agg #[.int .i64 aE,.int .i64 aD,.slice aH aA.length aG]] ?_;(with_reducible refine(spec_IsLand.calls k aE aD _ _ aA true _ ?s1 ?s2 A3.out).mono ?_);(case s1=>exact zCb aK);(case s2=>exact aM.out);rintro e w8 ⟨rfl,hb⟩;refine⟨_,rfl,?_⟩;replace aC:=zkb aC hb;replace HB:=zbs hb;(try clear hb);obtain⟨bL,bK,bJ,bF,bE,bD⟩:=ze3 aC)|(go_at_call 65;(with_reducible refine(spec_l1In.calls a1 0 (wrap64 ((aA.length:Int)-1)) aU _ A5.out).mono ?_);rintro e w' ⟨rfl,⟨nd,rfl⟩⟩))
  go_ret;exact⟨zE,zb⟩
 ·replace c4:=Bool.eq_false_iff.mpr c4;subst c4;rw[if_neg zNo] at H;obtain rfl:=zI H;go_enter Try.func76,Try.ntmps76
  go_wp2_with (first|((with_reducible refine zgd 2 rfl ?_);(try (refine gate_guard (by rfl) ?_;dsimp only));refine zbx 2 #[.int .i64 aE,.int .i64 aD,.slice aH aA.length aG] 26 ?_;intro aN hg bS hbox hb;have aC:=zA hbox;have aT:=zga (w:=w) hg;replace HB:=zbs hb;clear hb hbox hg;obtain⟨bC,bB,bA,aZ,aY,aX⟩:=ze3 aC)|((with_reducible refine zgf 72 rfl ?_);refine zgl 6 Try.func72 #[.agg #[.int .i64 aE,.int .i64 aD,.slice aH aA.length aG]] ?_;(with_reducible refine(spec_IsLand.calls k aE aD _ _ aA false _ ?s1 ?s2 A3.out).mono ?_);(case s1=>exact zCb aK);(case s2=>exact aM.out);rintro e bR ⟨rfl,hb⟩;refine⟨_,rfl,?_⟩;replace aC:=zkb aC hb;replace HB:=zbs hb;(try clear hb)))
  go_ret;exact⟨zE,zb⟩

def spec_IsOpen.f (k:Nat) (a0_0:Int) (a0_1:Int) (l0_2:List Int) (a1:Int):Option (Bool):=(spec_IsCell.f k a0_0 a0_1 l0_2 a1).bind fun t155=>(if t155=true then(if 0≤a1 then(if a1<(l0_2.length:Int) then(some ((rd l0_2 a1) != 2)) else(none)) else(none)) else(some false))
theorem spec_IsOpen.calls (k:Nat) (aE:Int) (aD:Int) (aH:Option Addr) (aG:Nat) (aA:List Int) (a1:Int) (r:Bool) (w:World) (aM:Kd.C (Kd.int .i64) w aH aA.length aA) (aN:aA.length≤aG) (h:spec_IsOpen.f k aE aD aA a1=some r) :
  Calls Try.prog 69 #[.agg #[.int .i64 aE,.int .i64 aD,.slice aH aA.length aG],.int .i64 a1] w fun e w'=>e=.returned (.bool r)∧Below w.heap.size w w':=by
 have hu26:=Try.underlying26;have aK:=zA aM;have aQ:=zA aN;clear aM aN;have HB:=zA (Below.refl w.heap.size w);have H:=h;clear h;unfold spec_IsOpen.f at H;obtain⟨aW,A3,H⟩:=zB H
 by_cases c4:aW=true
 ·subst c4;rw[if_pos rfl] at H;obtain⟨bV,H⟩:=zifD H;obtain⟨bU,H⟩:=zifD H;obtain rfl:=zI H;go_enter Try.func69,Try.ntmps69
  go_wp2_with (first|((with_reducible refine zgd 2 rfl ?_);refine zbx 2 #[.int .i64 aE,.int .i64 aD,.slice aH aA.length aG] 26 ?_;intro aT hg w7 hbox hb;have aC:=zA hbox;have aV:=zga (w:=w) hg;replace HB:=zbs hb;clear hb hbox hg;obtain⟨bP,bO,bN,bM,bL,bK⟩:=ze3 aC)|((with_reducible refine zgf 76 rfl ?_);refine zgl 7 Try.func76 #[.agg #[.int .i64 aE,.int .i64 aD,.slice aH aA.length aG],.int .i64 a1] ?_;(with_reducible refine(spec_IsCell.calls k aE aD _ _ aA a1 true _ ?s1 ?s2 A3.out).mono ?_);(case s1=>exact zCb aK);(case s2=>exact aQ.out);rintro e w9 ⟨rfl,hb⟩;refine⟨_,rfl,?_⟩;replace aC:=zkb aC hb;replace HB:=zbs hb;(try clear hb);obtain⟨bJ,bI,bH,bD,bC,bB⟩:=ze3 aC;have bT:=zT (0≤(a1:Int));have bS:=zT (a1<(aA.length:Int));obtain⟨bR,aX,aI⟩:=Kd.at_int aK.out a1 zd zd;cases aX;replace aI:=zC HB aI))
  go_ret;exact⟨zE,zb⟩
 ·replace c4:=Bool.eq_false_iff.mpr c4;subst c4;rw[if_neg zNo] at H;obtain rfl:=zI H;go_enter Try.func69,Try.ntmps69
  go_wp2_with (first|((with_reducible refine zgd 2 rfl ?_);refine zbx 2 #[.int .i64 aE,.int .i64 aD,.slice aH aA.length aG] 26 ?_;intro aT hg bX hbox hb;have aC:=zA hbox;have aV:=zga (w:=w) hg;replace HB:=zbs hb;clear hb hbox hg;obtain⟨bG,bF,bE,bA,aZ,aY⟩:=ze3 aC)|((with_reducible refine zgf 76 rfl ?_);refine zgl 7 Try.func76 #[.agg #[.int .i64 aE,.int .i64 aD,.slice aH aA.length aG],.int .i64 a1] ?_;(with_reducible refine(spec_IsCell.calls k aE aD _ _ aA a1 false _ ?s1 ?s2 A3.out).mono ?_);(case s1=>exact zCb aK);(case s2=>exact aQ.out);rintro e bW ⟨rfl,hb⟩;refine⟨_,rfl,?_⟩;replace aC:=zkb aC hb;replace HB:=zbs hb;(try clear hb)))
  go_ret;exact⟨zE,zb⟩

def spec_AreDepots.l0:Nat→List (S73)→Int→Int→Int→List Int→Option (Bool)
  |0,_,_,_,_,_=>none
  |k+1,x1,x5,x158000,x158001,x158002=>if x5<(x1.length:Int) then(if 0≤x5 then((spec_IsOpen.f k x158000 x158001 x158002 ((rd_T73 x1 x5).f0)).bind fun t160=>(if t160=true then((spec_l1In.f ((rd_T73 x1 x5).f1) 1 10000).bind fun t162=>(if t162=true then(if x5>0 then(if 0≤(wrap64 (x5-1)) then(if (wrap64 (x5-1))<(x1.length:Int) then(if ((rd_T73 x1 (wrap64 (x5-1))).f0)≥((rd_T73 x1 x5).f0) then(some false) else(spec_AreDepots.l0 k x1 (wrap64 (x5+1)) x158000 x158001 x158002)) else(none)) else(none)) else(spec_AreDepots.l0 k x1 (wrap64 (x5+1)) x158000 x158001 x158002)) else(some false))) else(some false))) else(none)) else((spec_IsLand.f k x158000 x158001 x158002).bind fun t158=>(if t158=true then(some (decide ((x1.length:Int)≤20))) else(some false)))
def spec_AreDepots.f (k:Nat) (a0_0:Int) (a0_1:Int) (l0_2:List Int) (l1:List (S73)):Option (Bool):=spec_AreDepots.l0 k l1 0 a0_0 a0_1 l0_2
def spec_AreDepots.T4:Bool × List (List Nat × List Nat):=(true,[([],[]),([],[]),([],[]),([1,2],[1,2]),([3],[3]),([4],[4]),([0,5],[0,5]),([6],[6]),([7,6],[7]),([8],[8]),([8],[8]),([9,10,8],[8,9,10]),([11,8],[8,11]),([12,8],[8,12]),([13,8,8],[8,13]),([14,8],[8,14]),([8,15],[8,15]),([16,14],[16]),([17],[17]),([18,17],[17,18]),([19,17,17],[17,19]),([20],[20]),([20],[20]),([22,20],[20,22]),([21,23,20],[20,21,23]),([24,20],[20,24]),([25,20],[20,25]),([20],[20]),([20],[20]),([27,28,20],[20,27,28]),([29,20],[20,29]),([30,20],[20,30]),([26,31,20],[20,26,31]),([20,32,17],[17,20,32]),([17,33],[17,33])])
def spec_AreDepots.B4:List Nat:=[0,0,0,6,14,30,63,127,255,511,511,2047,4095,8191,16383,32767,65535,131071,262143,524287,1048575,2097151,2097151,6291455,16777215,33554431,67108863,2097151,2097151,404750335,941621247,2015363071,4294967295,8589934591,17179869183]
theorem spec_AreDepots.tab4:rtab .any (opsOf Try.f64 4)=spec_AreDepots.T4:=by kernel_rfl
theorem spec_AreDepots.bits4:waitsOk spec_AreDepots.T4.2 spec_AreDepots.B4=true:=by kernel_rfl
theorem spec_AreDepots.calls (k:Nat) (aK:Int) (aJ:Int) (aT:Option Addr) (aQ:Nat) (aH:List Int) (A1:Option Addr) (c1:Nat) (l1:List (S73)) (r:Bool) (w:World) (bF:Kd.C (Kd.int .i64) w aT aH.length aH) (bG:aH.length≤aQ) (bO:Kd.C k73 w A1 l1.length l1) (bP:l1.length≤c1) (h:spec_AreDepots.f k aK aJ aH l1=some r) :
  Calls Try.prog 64 #[.agg #[.int .i64 aK,.int .i64 aJ,.slice aT aH.length aQ],.slice A1 l1.length c1] w fun e w'=>e=.returned (.bool r)∧Below w.heap.size w w':=by
 have hu26:=Try.underlying26;have aX:=zA bF;have aY:=zA bG;clear bF bG;have bA:=zA bO;have dC:=zA bP;clear bO bP;have HB:=zA (Below.refl w.heap.size w);have H:=h;clear h;unfold spec_AreDepots.f at H;have H':=zA H;clear H;go_enter Try.func64,Try.ntmps64
 go_wp2_with (first|((with_reducible refine zgd 2 rfl ?_);(try (refine gate_guard (by rfl) ?_;dsimp only));refine zbx 2 #[.int .i64 aK,.int .i64 aJ,.slice aT aH.length aQ] 26 ?_;intro aN hg w3 hbox hb;have aA:=zA hbox;have cO:=zga (w:=w) hg;replace HB:=zbs hb;clear hb hbox hg))
 go_loopg [5] k (fun kq v5 w'=>∃ (aC:Int),v5=.int .i64 aC∧Aside0 (spec_AreDepots.l0 kq l1 aC aK aJ aH=some r)∧Aside0 (kq≤k)∧Aside0 (w'.heap[aN]?=some (.cells #[.int .i64 aK,.int .i64 aJ,(.slice aT aH.length aQ)] 26 (0,0)))∧Aside0 (Below w.heap.size w w'))
 case atStart=>exact⟨(0),zr,H',⟨Nat.le_refl _⟩,⟨zk aA⟩,⟨zb⟩⟩
 case round =>
  clear H';(try clear c1);obtain⟨aC,rfl,HA,HK1,aA,HB⟩:=hrel
  cases gk with
  |zero=>exact absurd HA.out (by simp[spec_AreDepots.l0])
  |succ k1 =>
   have H:=HA.out;clear HA;simp only[spec_AreDepots.l0] at H
   by_cases c4:aC<(l1.length:Int)
   ·rw[if_pos c4] at H;have bW:=decide_eq_true c4;clear c4;obtain⟨cP,H⟩:=zifD H;obtain⟨bS,A6,H⟩:=zB H
    by_cases c7:bS=true
    ·subst c7;rw[if_pos rfl] at H;obtain⟨bR,A8,H⟩:=zB H
     by_cases c9:bR=true
     ·subst c9;rw[if_pos rfl] at H
      by_cases c10:aC>0
      ·rw[if_pos c10] at H;have bN:decide (0<aC)=true:=decide_eq_true c10;clear c10;obtain⟨aM,aZ⟩:∃ j_:Int,(wrap64 (aC-1))=j_:=⟨_,rfl⟩
       replace H:(if 0≤(aM) then(if (aM)<(l1.length:Int) then(if ((rd_T73 l1 (aM)).f0)≥((rd_T73 l1 aC).f0) then(some false) else(spec_AreDepots.l0 k1 l1 (wrap64 (aC+1)) aK aJ aH)) else(none)) else(none))=some r:=by first|(rw[aZ] at H;exact H)|(simp only[aZ] at H ⊢;exact H)
       (try rw[aZ] at A6);(try rw[aZ] at A8);have cK:(IntKind.i64.wrap (aC-1))=aM:=(i64_w _).trans aZ;obtain⟨cN,H⟩:=zifD H;obtain⟨cM,H⟩:=zifD H
       by_cases c14:((rd_T73 l1 (aM)).f0)≥((rd_T73 l1 aC).f0)
       ·rw[if_pos c14] at H;have bM:decide (((rd_T73 l1 aC).f0)≤((rd_T73 l1 (aM)).f0))=true:=decide_eq_true c14;clear c14;obtain rfl:=zI H
        try go_wp2
        replace aA:=zA (blk_drew aA.out);replace HB:=zA (below_drew1 HB.out);have bC:=zT (0≤(aC:Int));have bB:=zT (aC<(l1.length:Int));obtain⟨aD,aW,aG,aE⟩:=at_T73 bA.out aC zd zd;cases aW;have bV:=zT (0≤((aM):Int));have bU:=zT ((aM)<(l1.length:Int));obtain⟨bD,bE,aV,aU⟩:=at_T73 bA.out (aM) zd zd;obtain rfl:aD=bD:=(by injection bE);refine start_ (n:=35) (S:=fun w'=>w'.cell? ⟨aN,0,none⟩=some (.int .i64 aK)∧w'.cell? ⟨aN,1,none⟩=some (.int .i64 aJ)∧w'.cell? ⟨aN,2,none⟩=some (.slice aT aH.length aQ)∧w'.cell? (aD.add ((aC).toNat * 2))=some (.int .i64 ((rd_T73 l1 aC).f0))∧w'.cell? ⟨(aD.add ((aC).toNat * 2)).block,(aD.add ((aC).toNat * 2)).off+1,none⟩=some (.int .i64 ((rd_T73 l1 aC).f1))∧w'.cell? (aD.add (((aM)).toNat * 2))=some (.int .i64 ((rd_T73 l1 (aM)).f0))∧w'.cell? ⟨(aD.add (((aM)).toNat * 2)).block,(aD.add (((aM)).toNat * 2)).off+1,none⟩=some (.int .i64 ((rd_T73 l1 (aM)).f1))) (ds:=[]) _ (by kernel_rfl) rfl rfl ⟨zq aA 0,zq aA 1,zq aA 2,(zC HB aG),(zC HB aE),(zC HB aV),(zC HB aU)⟩ (fun hHeld=>?_);refine with_tabW spec_AreDepots.tab4 spec_AreDepots.bits4 (fun HT_ HW_=>?_);generalize wr.drew=dB at aA HB hHeld ⊢;refine z_p 1 ?_;refine z_p 2 ?_;refine z_p 3 ?_
        refine z_p 4 ?_;refine zt 0 12 HT_ HW_ hHeld ?_;refine zt 5 17 HT_ HW_ hHeld ?_;refine zo 6 18 HT_ (fun K hK=>?_);refine zgo Try.func69 #[.agg #[.int .i64 aK,.int .i64 aJ,.slice aT aH.length aQ],.int .i64 ((rd_T73 l1 aC).f0)] ?_
        with_reducible refine(spec_IsOpen.calls k1 aK aJ _ _ aH ((rd_T73 l1 aC).f0) true _ ?s1 ?s2 A6.out).mono ?_
        (case s1=>exact zCb aX);(case s2=>exact aY.out);rintro e dA ⟨rfl,hb⟩;refine⟨_,rfl,?_⟩;replace aA:=zkb aA hb;replace HB:=zbs hb;(try clear hb);refine hK.out _ _ ⟨zq aA 0,zq aA 1,zq aA 2,(zC HB aG),(zC HB aE),(zC HB aV),(zC HB aU)⟩ (fun hHeld=>?_);clear hK K;refine norm_ zV ?_;refine z_p 7 ?_;refine z_p 8 ?_;refine z_p 9 ?_;refine z_p 10 ?_;refine z_p 11 ?_;refine z_p 12 ?_;refine zt 13 25 HT_ HW_ hHeld ?_;refine zo 14 26 HT_ (fun K hK=>?_);refine zgo Try.func65 #[.int .i64 ((rd_T73 l1 aC).f1),.int .i64 1,.int .i64 10000] ?_
        with_reducible refine(spec_l1In.calls ((rd_T73 l1 aC).f1) 1 10000 true _ A8.out).mono ?_
        rintro e w' ⟨rfl,⟨nd,rfl⟩⟩;refine⟨_,rfl,?_⟩;refine hK.out _ _ ⟨zq aA 0,zq aA 1,zq aA 2,(zC HB aG :),(zC HB aE :),(zC HB aV :),(zC HB aU :)⟩ (fun hHeld=>?_);clear hK K;refine norm_ zV ?_;refine z_p 15 ?_;refine z_p 16 ?_;refine z_p 17 ?_;refine z_p 18 ?_;refine z_p 19 ?_;refine z_p 20 ?_;refine z_p 21 ?_;refine z_p 22 ?_;refine z_p 23 ?_;refine z_p 24 ?_;refine z_p 25 ?_;refine z_p 27 ?_;refine z_p 28 ?_;refine z_p 29 ?_;refine z_p 30 ?_;refine zt 26 38 HT_ HW_ hHeld ?_;refine zt 31 43 HT_ HW_ hHeld ?_;refine z_p 32 ?_;refine z_p 33 ?_;refine z_p 34 ?_;refine done_ (done_of HT_.out (by kernel_rfl)) ?_
        try go_wp2
        go_ret;exact⟨by first|rfl|(simp[errW_none,errW_some] <;> rfl)|(simp only[←aZ];first|rfl|(simp[errW_none,errW_some] <;> rfl))|(simp[*,errW_none,errW_some] <;> rfl),zb⟩
       ·rw[if_neg c14] at H;have bM:decide (((rd_T73 l1 aC).f0)≤((rd_T73 l1 (aM)).f0))=false:=decide_eq_false c14;clear c14;have H':=zA H;clear H
        try go_wp2
        replace aA:=zA (blk_drew aA.out);replace HB:=zA (below_drew1 HB.out);have bC:=zT (0≤(aC:Int));have bB:=zT (aC<(l1.length:Int));obtain⟨aD,aW,aG,aE⟩:=at_T73 bA.out aC zd zd;cases aW;have bV:=zT (0≤((aM):Int));have bU:=zT ((aM)<(l1.length:Int));obtain⟨bD,bE,aV,aU⟩:=at_T73 bA.out (aM) zd zd;obtain rfl:aD=bD:=(by injection bE);refine start_ (n:=35) (S:=fun w'=>w'.cell? ⟨aN,0,none⟩=some (.int .i64 aK)∧w'.cell? ⟨aN,1,none⟩=some (.int .i64 aJ)∧w'.cell? ⟨aN,2,none⟩=some (.slice aT aH.length aQ)∧w'.cell? (aD.add ((aC).toNat * 2))=some (.int .i64 ((rd_T73 l1 aC).f0))∧w'.cell? ⟨(aD.add ((aC).toNat * 2)).block,(aD.add ((aC).toNat * 2)).off+1,none⟩=some (.int .i64 ((rd_T73 l1 aC).f1))∧w'.cell? (aD.add (((aM)).toNat * 2))=some (.int .i64 ((rd_T73 l1 (aM)).f0))∧w'.cell? ⟨(aD.add (((aM)).toNat * 2)).block,(aD.add (((aM)).toNat * 2)).off+1,none⟩=some (.int .i64 ((rd_T73 l1 (aM)).f1))) (ds:=[]) _ (by kernel_rfl) rfl rfl ⟨zq aA 0,zq aA 1,zq aA 2,(zC HB aG),(zC HB aE),(zC HB aV),(zC HB aU)⟩ (fun hHeld=>?_);refine with_tabW spec_AreDepots.tab4 spec_AreDepots.bits4 (fun HT_ HW_=>?_);generalize wr.drew=cZ at aA HB hHeld ⊢;refine z_p 1 ?_;refine z_p 2 ?_;refine z_p 3 ?_
        refine z_p 4 ?_;refine zt 0 12 HT_ HW_ hHeld ?_;refine zt 5 17 HT_ HW_ hHeld ?_;refine zo 6 18 HT_ (fun K hK=>?_);refine zgo Try.func69 #[.agg #[.int .i64 aK,.int .i64 aJ,.slice aT aH.length aQ],.int .i64 ((rd_T73 l1 aC).f0)] ?_
        with_reducible refine(spec_IsOpen.calls k1 aK aJ _ _ aH ((rd_T73 l1 aC).f0) true _ ?s1 ?s2 A6.out).mono ?_
        (case s1=>exact zCb aX);(case s2=>exact aY.out);rintro e cY ⟨rfl,hb⟩;refine⟨_,rfl,?_⟩;replace aA:=zkb aA hb;replace HB:=zbs hb;(try clear hb);refine hK.out _ _ ⟨zq aA 0,zq aA 1,zq aA 2,(zC HB aG),(zC HB aE),(zC HB aV),(zC HB aU)⟩ (fun hHeld=>?_);clear hK K;refine norm_ zV ?_;refine z_p 7 ?_;refine z_p 8 ?_;refine z_p 9 ?_;refine z_p 10 ?_;refine z_p 11 ?_;refine z_p 12 ?_;refine zt 13 25 HT_ HW_ hHeld ?_;refine zo 14 26 HT_ (fun K hK=>?_);refine zgo Try.func65 #[.int .i64 ((rd_T73 l1 aC).f1),.int .i64 1,.int .i64 10000] ?_
        with_reducible refine(spec_l1In.calls ((rd_T73 l1 aC).f1) 1 10000 true _ A8.out).mono ?_
        rintro e w' ⟨rfl,⟨nd,rfl⟩⟩;refine⟨_,rfl,?_⟩;refine hK.out _ _ ⟨zq aA 0,zq aA 1,zq aA 2,(zC HB aG :),(zC HB aE :),(zC HB aV :),(zC HB aU :)⟩ (fun hHeld=>?_);clear hK K;refine norm_ zV ?_;refine z_p 15 ?_;refine z_p 16 ?_;refine z_p 17 ?_;refine z_p 18 ?_;refine z_p 19 ?_;refine z_p 20 ?_;refine z_p 21 ?_;refine z_p 22 ?_;refine z_p 23 ?_;refine z_p 24 ?_;refine z_p 25 ?_;refine z_p 27 ?_;refine z_p 28 ?_;refine z_p 29 ?_;refine z_p 30 ?_;refine zt 26 38 HT_ HW_ hHeld ?_;refine zt 31 43 HT_ HW_ hHeld ?_;refine z_p 32 ?_;refine z_p 33 ?_;refine z_p 34 ?_;refine done_ (done_of HT_.out (by kernel_rfl)) ?_
        try go_wp2
        go_roundg k1
        case measure=>have:=HK1.out;omega
        case rel=>exact⟨(wrap64 (aC+1)),zr,H',⟨by have:=HK1.out;omega⟩,⟨zk aA⟩,⟨zb⟩⟩
      ·rw[if_neg c10] at H;have bN:decide (0<aC)=false:=decide_eq_false c10;clear c10;have H':=zA H;clear H
       try go_wp2
       replace aA:=zA (blk_drew aA.out);replace HB:=zA (below_drew1 HB.out);have bC:=zT (0≤(aC:Int));have bB:=zT (aC<(l1.length:Int));obtain⟨aD,aW,aG,aE⟩:=at_T73 bA.out aC zd zd;cases aW;refine start_ (n:=35) (S:=fun w'=>w'.cell? ⟨aN,0,none⟩=some (.int .i64 aK)∧w'.cell? ⟨aN,1,none⟩=some (.int .i64 aJ)∧w'.cell? ⟨aN,2,none⟩=some (.slice aT aH.length aQ)∧w'.cell? (aD.add ((aC).toNat * 2))=some (.int .i64 ((rd_T73 l1 aC).f0))∧w'.cell? ⟨(aD.add ((aC).toNat * 2)).block,(aD.add ((aC).toNat * 2)).off+1,none⟩=some (.int .i64 ((rd_T73 l1 aC).f1))) (ds:=[]) _ (by kernel_rfl) rfl rfl ⟨zq aA 0,zq aA 1,zq aA 2,(zC HB aG),(zC HB aE)⟩ (fun hHeld=>?_);refine with_tabW spec_AreDepots.tab4 spec_AreDepots.bits4 (fun HT_ HW_=>?_);generalize wr.drew=cX at aA HB hHeld ⊢;refine z_p 1 ?_;refine z_p 2 ?_;refine z_p 3 ?_;refine z_p 4 ?_;refine zt 0 12 HT_ HW_ hHeld ?_;refine zt 5 17 HT_ HW_ hHeld ?_;refine zo 6 18 HT_ (fun K hK=>?_);refine zgo Try.func69 #[.agg #[.int .i64 aK,.int .i64 aJ,.slice aT aH.length aQ],.int .i64 ((rd_T73 l1 aC).f0)] ?_
       with_reducible refine(spec_IsOpen.calls k1 aK aJ _ _ aH ((rd_T73 l1 aC).f0) true _ ?s1 ?s2 A6.out).mono ?_
       (case s1=>exact zCb aX);(case s2=>exact aY.out);rintro e cW ⟨rfl,hb⟩;refine⟨_,rfl,?_⟩;replace aA:=zkb aA hb;replace HB:=zbs hb;(try clear hb);refine hK.out _ _ ⟨zq aA 0,zq aA 1,zq aA 2,(zC HB aG),(zC HB aE)⟩ (fun hHeld=>?_);clear hK K;refine norm_ zV ?_;refine z_p 7 ?_;refine z_p 8 ?_;refine z_p 9 ?_;refine z_p 10 ?_;refine z_p 11 ?_;refine z_p 12 ?_;refine zt 13 25 HT_ HW_ hHeld ?_;refine zo 14 26 HT_ (fun K hK=>?_);refine zgo Try.func65 #[.int .i64 ((rd_T73 l1 aC).f1),.int .i64 1,.int .i64 10000] ?_
       with_reducible refine(spec_l1In.calls ((rd_T73 l1 aC).f1) 1 10000 true _ A8.out).mono ?_
       rintro e w' ⟨rfl,⟨nd,rfl⟩⟩;refine⟨_,rfl,?_⟩;refine hK.out _ _ ⟨zq aA 0,zq aA 1,zq aA 2,(zC HB aG :),(zC HB aE :)⟩ (fun hHeld=>?_);clear hK K;refine norm_ zV ?_;refine z_p 15 ?_;refine z_p 16 ?_;refine z_p 17 ?_;refine z_p 18 ?_;refine z_p 19 ?_;refine z_p 20 ?_;refine z_u 21 ?_;refine z_u 22 ?_;refine z_u 23 ?_;refine z_u 24 ?_;refine z_u 25 ?_;refine z_u 26 ?_;refine z_u 27 ?_;refine z_u 28 ?_;refine z_u 29 ?_;refine z_u 30 ?_;refine z_u 31 ?_;refine z_u 32 ?_;refine z_p 33 ?_;refine z_p 34 ?_;refine done_ (done_of HT_.out (by kernel_rfl)) ?_
       try go_wp2
       go_roundg k1
       case measure=>have:=HK1.out;omega
       case rel=>exact⟨(wrap64 (aC+1)),zr,H',⟨by have:=HK1.out;omega⟩,⟨zk aA⟩,⟨zb⟩⟩
     ·replace c9:=Bool.eq_false_iff.mpr c9;subst c9;rw[if_neg zNo] at H;obtain rfl:=zI H
      try go_wp2
      replace aA:=zA (blk_drew aA.out);replace HB:=zA (below_drew1 HB.out);have bC:=zT (0≤(aC:Int));have bB:=zT (aC<(l1.length:Int));obtain⟨aD,aW,aG,aE⟩:=at_T73 bA.out aC zd zd;cases aW;refine start_ (n:=35) (S:=fun w'=>w'.cell? ⟨aN,0,none⟩=some (.int .i64 aK)∧w'.cell? ⟨aN,1,none⟩=some (.int .i64 aJ)∧w'.cell? ⟨aN,2,none⟩=some (.slice aT aH.length aQ)∧w'.cell? (aD.add ((aC).toNat * 2))=some (.int .i64 ((rd_T73 l1 aC).f0))∧w'.cell? ⟨(aD.add ((aC).toNat * 2)).block,(aD.add ((aC).toNat * 2)).off+1,none⟩=some (.int .i64 ((rd_T73 l1 aC).f1))) (ds:=[]) _ (by kernel_rfl) rfl rfl ⟨zq aA 0,zq aA 1,zq aA 2,(zC HB aG),(zC HB aE)⟩ (fun hHeld=>?_);refine with_tabW spec_AreDepots.tab4 spec_AreDepots.bits4 (fun HT_ HW_=>?_);generalize wr.drew=cV at aA HB hHeld ⊢;refine z_p 1 ?_;refine z_p 2 ?_;refine z_p 3 ?_;refine z_p 4 ?_;refine zt 0 12 HT_ HW_ hHeld ?_;refine zt 5 17 HT_ HW_ hHeld ?_;refine zo 6 18 HT_ (fun K hK=>?_);refine zgo Try.func69 #[.agg #[.int .i64 aK,.int .i64 aJ,.slice aT aH.length aQ],.int .i64 ((rd_T73 l1 aC).f0)] ?_
      with_reducible refine(spec_IsOpen.calls k1 aK aJ _ _ aH ((rd_T73 l1 aC).f0) true _ ?s1 ?s2 A6.out).mono ?_
      (case s1=>exact zCb aX);(case s2=>exact aY.out);rintro e cU ⟨rfl,hb⟩;refine⟨_,rfl,?_⟩;replace aA:=zkb aA hb;replace HB:=zbs hb;(try clear hb);refine hK.out _ _ ⟨zq aA 0,zq aA 1,zq aA 2,(zC HB aG),(zC HB aE)⟩ (fun hHeld=>?_);clear hK K;refine norm_ zV ?_;refine z_p 7 ?_;refine z_p 8 ?_;refine z_p 9 ?_;refine z_p 10 ?_;refine z_p 11 ?_;refine z_p 12 ?_;refine zt 13 25 HT_ HW_ hHeld ?_;refine zo 14 26 HT_ (fun K hK=>?_);refine zgo Try.func65 #[.int .i64 ((rd_T73 l1 aC).f1),.int .i64 1,.int .i64 10000] ?_
      with_reducible refine(spec_l1In.calls ((rd_T73 l1 aC).f1) 1 10000 false _ A8.out).mono ?_
      rintro e w' ⟨rfl,⟨nd,rfl⟩⟩;refine⟨_,rfl,?_⟩;refine hK.out _ _ ⟨zq aA 0,zq aA 1,zq aA 2,(zC HB aG :),(zC HB aE :)⟩ (fun hHeld=>?_);clear hK K;refine norm_ zV ?_;refine z_p 15 ?_;refine z_p 16 ?_;refine z_p 17 ?_;refine z_u 18 ?_;refine z_u 19 ?_;refine z_u 20 ?_;refine z_u 21 ?_;refine z_u 22 ?_;refine z_u 23 ?_;refine z_u 24 ?_;refine z_u 25 ?_;refine z_u 26 ?_;refine z_u 27 ?_;refine z_u 28 ?_;refine z_u 29 ?_;refine z_u 30 ?_;refine z_u 31 ?_;refine z_u 32 ?_;refine z_u 33 ?_;refine z_p 34 ?_;refine done_ (done_of HT_.out (by kernel_rfl)) ?_
      try go_wp2
      go_ret;exact⟨zE,zb⟩
    ·replace c7:=Bool.eq_false_iff.mpr c7;subst c7;rw[if_neg zNo] at H;obtain rfl:=zI H
     try go_wp2
     replace aA:=zA (blk_drew aA.out);replace HB:=zA (below_drew1 HB.out);have bC:=zT (0≤(aC:Int));have bB:=zT (aC<(l1.length:Int));obtain⟨aD,aW,aG,aE⟩:=at_T73 bA.out aC zd zd;cases aW;refine start_ (n:=35) (S:=fun w'=>w'.cell? ⟨aN,0,none⟩=some (.int .i64 aK)∧w'.cell? ⟨aN,1,none⟩=some (.int .i64 aJ)∧w'.cell? ⟨aN,2,none⟩=some (.slice aT aH.length aQ)∧w'.cell? (aD.add ((aC).toNat * 2))=some (.int .i64 ((rd_T73 l1 aC).f0))∧w'.cell? ⟨(aD.add ((aC).toNat * 2)).block,(aD.add ((aC).toNat * 2)).off+1,none⟩=some (.int .i64 ((rd_T73 l1 aC).f1))) (ds:=[]) _ (by kernel_rfl) rfl rfl ⟨zq aA 0,zq aA 1,zq aA 2,(zC HB aG),(zC HB aE)⟩ (fun hHeld=>?_);refine with_tabW spec_AreDepots.tab4 spec_AreDepots.bits4 (fun HT_ HW_=>?_);generalize wr.drew=cT at aA HB hHeld ⊢;refine z_p 1 ?_;refine z_p 2 ?_;refine z_p 3 ?_;refine z_p 4 ?_;refine zt 0 12 HT_ HW_ hHeld ?_;refine zt 5 17 HT_ HW_ hHeld ?_;refine zo 6 18 HT_ (fun K hK=>?_);refine zgo Try.func69 #[.agg #[.int .i64 aK,.int .i64 aJ,.slice aT aH.length aQ],.int .i64 ((rd_T73 l1 aC).f0)] ?_
     with_reducible refine(spec_IsOpen.calls k1 aK aJ _ _ aH ((rd_T73 l1 aC).f0) false _ ?s1 ?s2 A6.out).mono ?_
     (case s1=>exact zCb aX);(case s2=>exact aY.out);rintro e cS ⟨rfl,hb⟩;refine⟨_,rfl,?_⟩;replace aA:=zkb aA hb;replace HB:=zbs hb;(try clear hb);refine hK.out _ _ ⟨zq aA 0,zq aA 1,zq aA 2,(zC HB aG),(zC HB aE)⟩ (fun hHeld=>?_);clear hK K;refine norm_ zV ?_;refine z_p 7 ?_;refine z_p 8 ?_;refine z_u 9 ?_;refine z_u 10 ?_;refine z_u 11 ?_;refine z_u 12 ?_;refine z_u 13 ?_;refine z_u 14 ?_;refine z_u 15 ?_;refine z_p 16 ?_;refine z_p 17 ?_;refine z_u 18 ?_;refine z_u 19 ?_;refine z_u 20 ?_;refine z_u 21 ?_;refine z_u 22 ?_;refine z_u 23 ?_;refine z_u 24 ?_;refine z_u 25 ?_;refine z_u 26 ?_;refine z_u 27 ?_;refine z_u 28 ?_;refine z_u 29 ?_;refine z_u 30 ?_;refine z_u 31 ?_;refine z_u 32 ?_;refine z_u 33 ?_;refine z_p 34 ?_;refine done_ (done_of HT_.out (by kernel_rfl)) ?_
     try go_wp2
     go_ret;exact⟨zE,zb⟩
   ·rw[if_neg c4] at H;have bW:=decide_eq_false c4;clear c4;obtain⟨bT,bQ,H⟩:=zB H
    by_cases bH:bT=true
    ·subst bH;rw[if_pos rfl] at H;obtain rfl:=zI H;obtain⟨cJ,cI,cH,cD,cC,cB⟩:=ze3 aA
     go_wp2_with (first|((with_reducible refine zgf 72 rfl ?_);refine zgl 48 Try.func72 #[.agg #[.int .i64 aK,.int .i64 aJ,.slice aT aH.length aQ]] ?_;(with_reducible refine(spec_IsLand.calls k1 aK aJ _ _ aH true _ ?s1 ?s2 bQ.out).mono ?_);(case s1=>exact zCb aX);(case s2=>exact aY.out);rintro e cR ⟨rfl,hb⟩;refine⟨_,rfl,?_⟩;replace aA:=zkb aA hb;replace HB:=zbs hb;(try clear hb)))
     go_ret;exact⟨zE,zb⟩
    ·replace bH:=Bool.eq_false_iff.mpr bH;subst bH;rw[if_neg zNo] at H;obtain rfl:=zI H;obtain⟨cG,cF,cE,cA,bZ,bY⟩:=ze3 aA
     go_wp2_with (first|((with_reducible refine zgf 72 rfl ?_);refine zgl 48 Try.func72 #[.agg #[.int .i64 aK,.int .i64 aJ,.slice aT aH.length aQ]] ?_;(with_reducible refine(spec_IsLand.calls k1 aK aJ _ _ aH false _ ?s1 ?s2 bQ.out).mono ?_);(case s1=>exact zCb aX);(case s2=>exact aY.out);rintro e cQ ⟨rfl,hb⟩;refine⟨_,rfl,?_⟩;replace aA:=zkb aA hb;replace HB:=zbs hb;(try clear hb)))
     go_ret;exact⟨zE,zb⟩

mutual
def spec_l8Set.l0:Nat→List (S73)→Int→Int→List (S73)→Bool→Int→Option ((List (S73)))
  |0,_,_,_,_,_,_=>none
  |k+1,x0,x1,x2,x7,x8,x9=>if x9<(x0.length:Int) then(if x8=true then(spec_l8Set.j1 k x0 x1 x2 x7 x8 x9 false) else(if 0≤x9 then(spec_l8Set.j1 k x0 x1 x2 x7 x8 x9 (decide (((rd_T73 x0 x9).f0)≥x1))) else(none))) else(if x8=true then(some x7) else(if x7.length<8796093022208 then(some (x7++[(⟨x1,x2⟩:S73)])) else(none)))
def spec_l8Set.j1:Nat→List (S73)→Int→Int→List (S73)→Bool→Int→Bool→Option ((List (S73)))
  |0,_,_,_,_,_,_,_=>none
  |k+1,x0,x1,x2,x7,x8,x9,x29=>if x29=true then(if x7.length<8796093022208 then((some (x7++[(⟨x1,x2⟩:S73)]:List (S73))).bind fun y172=>(if 0≤x9 then(if x9<(x0.length:Int) then(if ((rd_T73 x0 x9).f0)=x1 then(spec_l8Set.l0 k x0 x1 x2 y172 true (wrap64 (x9+1))) else(if y172.length<8796093022208 then(spec_l8Set.l0 k x0 x1 x2 (y172++[(⟨(rd_T73 x0 x9).f0,(rd_T73 x0 x9).f1⟩:S73)]) true (wrap64 (x9+1))) else(none))) else(none)) else(none))) else(none)) else(if 0≤x9 then(if x9<(x0.length:Int) then(if ((rd_T73 x0 x9).f0)=x1 then(spec_l8Set.l0 k x0 x1 x2 x7 x8 (wrap64 (x9+1))) else(if x7.length<8796093022208 then(spec_l8Set.l0 k x0 x1 x2 (x7++[(⟨(rd_T73 x0 x9).f0,(rd_T73 x0 x9).f1⟩:S73)]) x8 (wrap64 (x9+1))) else(none))) else(none)) else(none))
end
def spec_l8Set.f (k:Nat) (l0:List (S73)) (a1:Int) (a2:Int):Option ((List (S73))):=spec_l8Set.l0 k l0 a1 a2 (([]:List (S73))) (a2==0) 0
theorem spec_l8Set.calls (k:Nat) (A0:Option Addr) (c0:Nat) (l0:List (S73)) (a1:Int) (a2:Int) (r:List (S73)) (w:World) (cI:Kd.C k73 w A0 l0.length l0) (cJ:l0.length≤c0) (h:spec_l8Set.f k l0 a1 a2=some r) :
  Calls Try.prog 66 #[.slice A0 l0.length c0,.int .i64 a1,.int .i64 a2] w fun e w'=>∃ v0_:Value,e=.returned (v0_)∧Kd.R k73 73 w' w.heap.size (fun _=>True) v0_ r∧Below w.heap.size w w':=by
 have hu73:=Try.underlying73;have aX:=zA cI;have dK:=zA cJ;clear cI cJ;have HB:=zA (Below.refl w.heap.size w);have H:=h;clear h;unfold spec_l8Set.f at H;obtain⟨bR,bG⟩:∃ y_:List (S73),y_=(([]:List (S73))):=⟨_,rfl⟩
 replace H:(spec_l8Set.l0 k l0 a1 a2 bR (a2==0) 0)=some r:=zY bG H
 have Ny165:=zA bG;clear bG;have H':=zA H;clear H;go_enter Try.func66,Try.ntmps66
 go_wp2_with (first|((with_reducible refine zgd 10 rfl ?_);refine Kd.R_lit k73 _ 73 ?hg (N:=10) ?hd (xs:=([]:List (S73))) (inner:=[]) (ok:=fun _=>True) (okp:=fun _=>True) ?hr ?hp (fun _ hk=>hk) trivial (Below.refl _ _) (Nat.le_refl _) (by simp) ?_;(case hd=>rfl);(case hg=>rfl);(case hr=>first|(go_simp;done)|(go_simp;rfl));(case hp=>exact(Reps.none _ _));intro v166 w4 ho5 hb hg_ hnew_;clear hg_ hnew_;(first|rw[←Ny165.out] at ho5|(simp only[Int.reduceToNat] at ho5;rw[←Ny165.out] at ho5));have cH:=zA (Kd.R_lower ho5 (below_size zb));replace HB:=zbs hb;clear hb ho5))
 go_loopg [7,8,9] k (fun kq v7 v8 v9 w'=>∃ (aE:List (S73)) (aN:Bool) (aA:Int),v8=.bool aN∧v9=.int .i64 aA∧Aside0 (spec_l8Set.l0 kq l0 a1 a2 aE aN aA=some r)∧Aside0 (kq≤k)∧Aside0 (Kd.R k73 73 w' w.heap.size (fun _=>True) v7 aE)∧Aside0 (Below w.heap.size w w'))
 case atStart=>exact⟨(bR),((a2==0)),(0),zr,zr,H',⟨Nat.le_refl _⟩,⟨zR cH⟩,⟨zb⟩⟩
 case round =>
  clear H';obtain⟨aE,aN,aA,rfl,rfl,HA,HK1,aG,HB⟩:=hrel
  cases gk with
  |zero=>exact absurd HA.out (by simp[spec_l8Set.l0])
  |succ k1 =>
   have H:=HA.out;clear HA;simp only[spec_l8Set.l0] at H
   by_cases c6:aA<(l0.length:Int)
   ·rw[if_pos c6] at H;have bT:=decide_eq_true c6;clear c6;have bU:=zA H;clear H
    go_upto_region 6 with (fail)
    go_cut [29] (fun v29 wc=>∃ (kq:Nat) (aV:Bool),v29=.bool aV∧Aside0 (spec_l8Set.j1 kq l0 a1 a2 aE aN aA aV=some r)∧Aside0 (kq≤k1)∧Aside0 (Kd.R k73 73 wc w.heap.size (fun _=>True) u7 aE)∧Aside0 (Below w.heap.size w wc))
    case first =>
     have H:=bU.out;clear bU
     by_cases c8:aN=true
     ·subst c8;rw[if_pos rfl] at H;have H':=zA H;clear H;go_wp2
      go_meet
      case rel=>exact⟨_,(false),zr,H',⟨by have:=HK1.out;first|omega|exact Nat.le_refl _⟩,⟨zR aG⟩,⟨zb⟩⟩
     ·replace c8:=Bool.eq_false_iff.mpr c8;subst c8;rw[if_neg zNo] at H;obtain⟨bJ,H⟩:=zifD H;(first|rw[bJ]|(simp only[i64_w,i32_w];rw[bJ])|skip);have H':=zA H;clear H;have cQ:=zT (0≤(aA:Int));have cN:=zT (aA<(l0.length:Int));obtain⟨dA,cT,aU,aT⟩:=at_T73 aX.out aA zd zd;cases cT;replace aU:=zC HB aU;replace aT:=zC HB aT;go_wp2
      go_meet
      case rel=>exact⟨_,(decide (((rd_T73 l0 aA).f0)≥a1)),zr,H',⟨by have:=HK1.out;first|omega|exact Nat.le_refl _⟩,⟨zR aG⟩,⟨zb⟩⟩
    case rest =>
     clear bU;(try clear c6);(try clear bT);(try clear c8);(try clear c9);(try clear bJ);(try clear aU);(try clear aT);(try clear cQ);(try clear cN);obtain⟨kq,aV,rfl,HA,HJ6,aG,HB⟩:=hcut;cases kq with
     |zero=>exact absurd HA.out (by simp[spec_l8Set.j1])
     |succ kj6 =>
      have H:=HA.out;clear HA;simp only[spec_l8Set.j1] at H
      by_cases bL:aV=true
      ·subst bL;rw[if_pos rfl] at H;obtain⟨bO,H⟩:=zifA H;obtain⟨aQ,bE⟩:∃ y_:List (S73),y_=(aE++[(⟨a1,a2⟩:S73)]):=⟨_,rfl⟩
       replace H:(if 0≤aA then(if aA<(l0.length:Int) then(if ((rd_T73 l0 aA).f0)=a1 then(spec_l8Set.l0 kj6 l0 a1 a2 aQ true (wrap64 (aA+1))) else(if aQ.length<8796093022208 then(spec_l8Set.l0 kj6 l0 a1 a2 (aQ++[(⟨(rd_T73 l0 aA).f0,(rd_T73 l0 aA).f1⟩:S73)]) true (wrap64 (aA+1))) else(none))) else(none)) else(none))=some r:=zY bE H
       have Ny172:=zA bE;clear bE;obtain⟨cZ,H⟩:=zifD H;obtain⟨cY,H⟩:=zifD H
       by_cases c14:((rd_T73 l0 aA).f0)=a1
       ·rw[if_pos c14] at H;have bY:(((rd_T73 l0 aA).f0)==a1)=true:=beq_iff_eq.mpr c14;have bX:(((rd_T73 l0 aA).f0) != a1)=false:=bne_eq_false_iff_eq.mpr c14;clear c14;have H':=zA H;clear H
        go_wp2_with (first|((with_reducible refine gate_builtin (b:=.append) (xs:=#[.tmp 30,.tmp 34]) rfl ?_);at_builtin;refine Kd.R_append k73 (w0:=w) w.heap.size rfl (.tmp 30) (.tmp 34) 29 73 (.agg #[(.int .i64 0),(.int .i64 0)]) 16 rfl Try.underlying29 info73 rfl (by decide) (by omega) u7 aE (⟨a1,a2⟩:S73) [.int .i64 a1,.int .i64 a2] (fun _=>True) (fun _=>False) rfl rfl ?aP (fun _ hk=>hk.elim) ?aF ?aO ?aB ?aS ?aL ?_;(case aP=>exact k73_mkM _ _ _ (⟨a1,a2⟩:S73));(case aB=>exact zb);(case aF=>exact(fun _ _=>trivial));(case aO=>exact(zR aG));(case aS=>exact(below_size zb));(case aL=>have:=bO.out;omega);intro v173 dJ ho hb hg hat;rw[←Ny172.out] at ho;replace HB:=zA hb;have aW:=zA ho;clear aG;clear ho hb hg hat;have cP:=zT (0≤(aA:Int));have cM:=zT (aA<(l0.length:Int));obtain⟨bN,bI,aM,aK⟩:=at_T73 aX.out aA zd zd;cases bI;replace aM:=zC HB aM;replace aK:=zC HB aK))
        go_roundg kj6
        case measure=>have:=HK1.out;have:=HJ6.out;omega
        case rel=>exact⟨(aQ),(true),(wrap64 (aA+1)),zr,zr,H',⟨by have:=HK1.out;have:=HJ6.out;omega⟩,⟨zR aW⟩,⟨zb⟩⟩
       ·rw[if_neg c14] at H;have bY:(((rd_T73 l0 aA).f0)==a1)=false:=beq_eq_false_iff_ne.mpr c14;have bX:(((rd_T73 l0 aA).f0) != a1)=true:=bne_iff_ne.mpr c14;obtain⟨cD,H⟩:=zifA H;obtain⟨bQ,bD⟩:∃ y_:List (S73),y_=(aQ++[(⟨(rd_T73 l0 aA).f0,(rd_T73 l0 aA).f1⟩:S73)]):=⟨_,rfl⟩
        replace H:(spec_l8Set.l0 kj6 l0 a1 a2 bQ true (wrap64 (aA+1)))=some r:=zY bD H
        have Ny177:=zA bD;clear bD;have H':=zA H;clear H
        go_wp2_with (first|((with_reducible refine gate_builtin (b:=.append) (xs:=#[.tmp 30,.tmp 34]) rfl ?_);at_builtin;refine Kd.R_append k73 (w0:=w) w.heap.size rfl (.tmp 30) (.tmp 34) 29 73 (.agg #[(.int .i64 0),(.int .i64 0)]) 16 rfl Try.underlying29 info73 rfl (by decide) (by omega) u7 aE (⟨a1,a2⟩:S73) [.int .i64 a1,.int .i64 a2] (fun _=>True) (fun _=>False) rfl rfl ?aP (fun _ hk=>hk.elim) ?aF ?aO ?aB ?aS ?aL ?_;(case aP=>exact k73_mkM _ _ _ (⟨a1,a2⟩:S73));(case aB=>exact zb);(case aF=>exact(fun _ _=>trivial));(case aO=>exact(zR aG));(case aS=>exact(below_size zb));(case aL=>have:=bO.out;omega);intro v173 dI ho hb hg hat;rw[←Ny172.out] at ho;replace HB:=zA hb;have aW:=zA ho;clear aG;clear ho hb hg hat;have cP:=zT (0≤(aA:Int));have cM:=zT (aA<(l0.length:Int));obtain⟨bN,bI,aM,aK⟩:=at_T73 aX.out aA zd zd;cases bI;replace aM:=zC HB aM;replace aK:=zC HB aK;have dE:=zT (0≤(aA:Int));have dC:=zT (aA<(l0.length:Int));obtain⟨cA,cS,bB,bA⟩:=at_T73 aX.out aA zd zd;obtain rfl:bN=cA:=(by injection cS);replace bB:=zC HB bB;replace bA:=zC HB bA)|((with_reducible refine gate_builtin (b:=.append) (xs:=#[.tmp 43,.tmp 48]) rfl ?_);at_builtin;refine Kd.R_append k73 (w0:=w) w.heap.size rfl (.tmp 43) (.tmp 48) 29 73 (.agg #[(.int .i64 0),(.int .i64 0)]) 16 rfl Try.underlying29 info73 rfl (by decide) (by omega) v173 aQ (⟨(rd_T73 l0 aA).f0,(rd_T73 l0 aA).f1⟩:S73) [.int .i64 ((rd_T73 l0 aA).f0),.int .i64 ((rd_T73 l0 aA).f1)] (fun _=>True) (fun _=>False) rfl rfl ?aP (fun _ hk=>hk.elim) ?aF ?aO ?aB ?aS ?aL ?_;(case aP=>exact k73_mkM _ _ _ (⟨(rd_T73 l0 aA).f0,(rd_T73 l0 aA).f1⟩:S73));(case aB=>exact zb);(case aF=>exact(fun _ _=>trivial));(case aO=>exact(zR aW));(case aS=>exact(below_size zb));(case aL=>have:=cD.out;omega);intro v178 dH ho hb hg hat;rw[←Ny177.out] at ho;replace HB:=zA hb;have cF:=zA ho;clear aW;clear ho hb hg hat))
        go_roundg kj6
        case measure=>have:=HK1.out;have:=HJ6.out;omega
        case rel=>exact⟨(bQ),(true),(wrap64 (aA+1)),zr,zr,H',⟨by have:=HK1.out;have:=HJ6.out;omega⟩,⟨zR cF⟩,⟨zb⟩⟩
      ·replace bL:=Bool.eq_false_iff.mpr bL;subst bL;rw[if_neg zNo] at H;obtain⟨cX,H⟩:=zifD H;obtain⟨cW,H⟩:=zifD H
       by_cases c21:((rd_T73 l0 aA).f0)=a1
       ·rw[if_pos c21] at H;have bW:(((rd_T73 l0 aA).f0)==a1)=true:=beq_iff_eq.mpr c21;have bV:(((rd_T73 l0 aA).f0) != a1)=false:=bne_eq_false_iff_eq.mpr c21;clear c21;have H':=zA H;clear H;have cO:=zT (0≤(aA:Int));have cL:=zT (aA<(l0.length:Int));obtain⟨bM,bH,aJ,aI⟩:=at_T73 aX.out aA zd zd;cases bH;replace aJ:=zC HB aJ;replace aI:=zC HB aI;go_wp2
        go_roundg kj6
        case measure=>have:=HK1.out;have:=HJ6.out;omega
        case rel=>exact⟨(aE),(aN),(wrap64 (aA+1)),zr,zr,H',⟨by have:=HK1.out;have:=HJ6.out;omega⟩,⟨zR aG⟩,⟨zb⟩⟩
       ·rw[if_neg c21] at H;have bW:(((rd_T73 l0 aA).f0)==a1)=false:=beq_eq_false_iff_ne.mpr c21;have bV:(((rd_T73 l0 aA).f0) != a1)=true:=bne_iff_ne.mpr c21;obtain⟨cC,H⟩:=zifA H;obtain⟨bP,bC⟩:∃ y_:List (S73),y_=(aE++[(⟨(rd_T73 l0 aA).f0,(rd_T73 l0 aA).f1⟩:S73)]):=⟨_,rfl⟩
        replace H:(spec_l8Set.l0 kj6 l0 a1 a2 bP aN (wrap64 (aA+1)))=some r:=zY bC H
        have Ny182:=zA bC;clear bC;have H':=zA H;clear H;have cO:=zT (0≤(aA:Int));have cL:=zT (aA<(l0.length:Int));obtain⟨bM,bH,aJ,aI⟩:=at_T73 aX.out aA zd zd;cases bH;replace aJ:=zC HB aJ;replace aI:=zC HB aI;have dD:=zT (0≤(aA:Int));have dB:=zT (aA<(l0.length:Int));obtain⟨bZ,cR,aZ,aY⟩:=at_T73 aX.out aA zd zd;obtain rfl:bM=bZ:=(by injection cR);replace aZ:=zC HB aZ;replace aY:=zC HB aY
        go_wp2_with (first|((with_reducible refine gate_builtin (b:=.append) (xs:=#[.tmp 43,.tmp 48]) rfl ?_);at_builtin;refine Kd.R_append k73 (w0:=w) w.heap.size rfl (.tmp 43) (.tmp 48) 29 73 (.agg #[(.int .i64 0),(.int .i64 0)]) 16 rfl Try.underlying29 info73 rfl (by decide) (by omega) u7 aE (⟨(rd_T73 l0 aA).f0,(rd_T73 l0 aA).f1⟩:S73) [.int .i64 ((rd_T73 l0 aA).f0),.int .i64 ((rd_T73 l0 aA).f1)] (fun _=>True) (fun _=>False) rfl rfl ?aP (fun _ hk=>hk.elim) ?aF ?aO ?aB ?aS ?aL ?_;(case aP=>exact k73_mkM _ _ _ (⟨(rd_T73 l0 aA).f0,(rd_T73 l0 aA).f1⟩:S73));(case aB=>exact zb);(case aF=>exact(fun _ _=>trivial));(case aO=>exact(zR aG));(case aS=>exact(below_size zb));(case aL=>have:=cC.out;omega);intro v183 dG ho hb hg hat;rw[←Ny182.out] at ho;replace HB:=zA hb;have cE:=zA ho;clear aG;clear ho hb hg hat))
        go_roundg kj6
        case measure=>have:=HK1.out;have:=HJ6.out;omega
        case rel=>exact⟨(bP),(aN),(wrap64 (aA+1)),zr,zr,H',⟨by have:=HK1.out;have:=HJ6.out;omega⟩,⟨zR cE⟩,⟨zb⟩⟩
   ·rw[if_neg c6] at H;have bT:=decide_eq_false c6;clear c6
    by_cases bK:aN=true
    ·subst bK;rw[if_pos rfl] at H;obtain rfl:=zI H;go_wp2;go_ret;exact⟨_,zE,zR aG,zb⟩
    ·replace bK:=Bool.eq_false_iff.mpr bK;subst bK;rw[if_neg zNo] at H;obtain⟨cB,H⟩:=zifA H;obtain⟨cK,bF⟩:∃ y_:List (S73),y_=(aE++[(⟨a1,a2⟩:S73)]):=⟨_,rfl⟩
     replace H:(some cK)=some r:=zY bF H
     have Ny168:=zA bF;clear bF;obtain rfl:=zI H
     go_wp2_with (first|((with_reducible refine gate_builtin (b:=.append) (xs:=#[.tmp 52,.tmp 56]) rfl ?_);at_builtin;refine Kd.R_append k73 (w0:=w) w.heap.size rfl (.tmp 52) (.tmp 56) 29 73 (.agg #[(.int .i64 0),(.int .i64 0)]) 16 rfl Try.underlying29 info73 rfl (by decide) (by omega) u7 aE (⟨a1,a2⟩:S73) [.int .i64 a1,.int .i64 a2] (fun _=>True) (fun _=>False) rfl rfl ?aP (fun _ hk=>hk.elim) ?aF ?aO ?aB ?aS ?aL ?_;(case aP=>exact k73_mkM _ _ _ (⟨a1,a2⟩:S73));(case aB=>exact zb);(case aF=>exact(fun _ _=>trivial));(case aO=>exact(zR aG));(case aS=>exact(below_size zb));(case aL=>have:=cB.out;omega);intro v169 dF ho hb hg hat;rw[←Ny168.out] at ho;replace HB:=zA hb;have cG:=zA ho;clear aG;clear ho hb hg hat))
     go_ret;exact⟨_,zE,zR cG,zb⟩

def spec_FoodAt.l0:Nat→List (S73)→Int→Int→Option (Int)
  |0,_,_,_=>none
  |k+1,x0,x1,x5=>if x5<(x0.length:Int) then(if 0≤x5 then(if ((rd_T73 x0 x5).f0)=x1 then(some ((rd_T73 x0 x5).f1)) else(spec_FoodAt.l0 k x0 x1 (wrap64 (x5+1)))) else(none)) else(some 0)
def spec_FoodAt.f (k:Nat) (l0:List (S73)) (a1:Int):Option (Int):=spec_FoodAt.l0 k l0 a1 0
theorem spec_FoodAt.calls (k:Nat) (A0:Option Addr) (c0:Nat) (l0:List (S73)) (a1:Int) (r:Int) (w:World) (aM:Kd.C k73 w A0 l0.length l0) (aN:l0.length≤c0) (h:spec_FoodAt.f k l0 a1=some r) :
  Calls Try.prog 67 #[.slice A0 l0.length c0,.int .i64 a1] w fun e w'=>e=.returned (.int .i64 r)∧Drawn0 w w':=by
 have aJ:=zA aM;have bF:=zA aN;clear aM aN;have H:=h;clear h;unfold spec_FoodAt.f at H;have H':=zA H;clear H;go_enter Try.func67,Try.ntmps67;go_wp2
 go_loopg [5] k (fun kq v5 w'=>∃ (aA:Int),v5=.int .i64 aA∧Aside0 (spec_FoodAt.l0 kq l0 a1 aA=some r)∧Aside0 (kq≤k)∧Drawn0 w w')
 case atStart=>exact⟨(0),zr,H',⟨Nat.le_refl _⟩,by repeat (first|exact Drawn0.refl _|apply Drawn0.step)⟩
 case round =>
  clear H';obtain⟨aA,rfl,HA,HK1,⟨m1,rfl⟩⟩:=hrel
  cases gk with
  |zero=>exact absurd HA.out (by simp[spec_FoodAt.l0])
  |succ k1 =>
   have H:=HA.out;clear HA;simp only[spec_FoodAt.l0] at H
   by_cases c3:aA<(l0.length:Int)
   ·rw[if_pos c3] at H;have aX:=decide_eq_true c3;clear c3;obtain⟨bE,H⟩:=zifD H
    by_cases c5:((rd_T73 l0 aA).f0)=a1
    ·rw[if_pos c5] at H;have aW:(((rd_T73 l0 aA).f0)==a1)=true:=beq_iff_eq.mpr c5;have aV:(((rd_T73 l0 aA).f0) != a1)=false:=bne_eq_false_iff_eq.mpr c5;clear c5;obtain rfl:=zI H;have aT:=zT (0≤(aA:Int));have aQ:=zT (aA<(l0.length:Int));obtain⟨aG,aE,aI,aH⟩:=at_T73 aJ.out aA zd zd;cases aE;have bD:=zT (0≤(aA:Int));have bC:=zT (aA<(l0.length:Int));obtain⟨aK,aU,aZ,aY⟩:=at_T73 aJ.out aA zd zd;obtain rfl:aG=aK:=(by injection aU);go_wp2;go_ret;exact⟨by first|rfl|(simp;done)|(simp[*];done),by repeat (first|exact Drawn0.refl _|apply Drawn0.step)⟩
    ·rw[if_neg c5] at H;have aW:(((rd_T73 l0 aA).f0)==a1)=false:=beq_eq_false_iff_ne.mpr c5;have aV:(((rd_T73 l0 aA).f0) != a1)=true:=bne_iff_ne.mpr c5;have H':=zA H;clear H;have aT:=zT (0≤(aA:Int));have aQ:=zT (aA<(l0.length:Int));obtain⟨aG,aE,aI,aH⟩:=at_T73 aJ.out aA zd zd;cases aE;go_wp2
     go_roundg k1
     case measure=>have:=HK1.out;omega
     case rel=>exact⟨(wrap64 (aA+1)),zr,H',⟨by have:=HK1.out;omega⟩,by repeat (first|exact Drawn0.refl _|apply Drawn0.step)⟩
   ·rw[if_neg c3] at H;have aX:=decide_eq_false c3;clear c3;obtain rfl:=zI H;go_wp2;go_ret;exact⟨by first|rfl|(simp;done)|(simp[*];done),by repeat (first|exact Drawn0.refl _|apply Drawn0.step)⟩

def spec_Lay.j0:Nat→List (S73)→Int→Int→List (S73)→Bool→Int→Int→List Int→Option ((List (S73)) × Bool)
  |0,_,_,_,_,_,_,_,_=>none
  |k+1,x1,x2,x3,x10,x23,x188000,x188001,x188002=>if x23=true then(some (x10,false)) else((spec_FoodAt.f k x1 x2).bind fun t196=>((spec_l8Set.f k x1 x2 (wrap64 (t196+x3))).bind fun t197=>((spec_AreDepots.f k x188000 x188001 x188002 t197).bind fun t200=>(if t200=true then(some (t197,true)) else(some (x10,false))))))
def spec_Lay.f (k:Nat) (a0_0:Int) (a0_1:Int) (l0_2:List Int) (l1:List (S73)) (a2:Int) (a3:Int):Option ((List (S73)) × Bool):=(some (([]:List (S73)):List (S73))).bind fun y188=>(if y188.length+l1.length<8796093022208 then((some (y188++l1:List (S73))).bind fun y191=>((spec_AreDepots.f k a0_0 a0_1 l0_2 l1).bind fun t194=>(if t194=true then((spec_l1In.f a3 1 10000).bind fun t195=>(spec_Lay.j0 k l1 a2 a3 y191 (!t195) a0_0 a0_1 l0_2)) else(spec_Lay.j0 k l1 a2 a3 y191 true a0_0 a0_1 l0_2)))) else(none))
theorem spec_Lay.calls (k:Nat) (aE:Int) (aD:Int) (aK:Option Addr) (aJ:Nat) (aC:List Int) (A1:Option Addr) (c1:Nat) (l1:List (S73)) (a2:Int) (a3:Int) (r1:List (S73)) (r2:Bool) (w:World) (bK:Kd.C (Kd.int .i64) w aK aC.length aC) (bL:aC.length≤aJ) (cC:Kd.C k73 w A1 l1.length l1) (cD:l1.length≤c1) (h:spec_Lay.f k aE aD aC l1 a2 a3=some (r1,r2)) :
  Calls Try.prog 56 #[.agg #[.int .i64 aE,.int .i64 aD,.slice aK aC.length aJ],.slice A1 l1.length c1,.int .i64 a2,.int .i64 a3] w fun e w'=>∃ v0_:Value,e=.returned (.tuple #[v0_,.bool r2])∧Kd.R k73 73 w' w.heap.size (fun _=>True) v0_ r1∧Below w.heap.size w w':=by
 have hu26:=Try.underlying26;have aY:=zA bK;have aZ:=zA bL;clear bK bL;have bB:=zA cC;have bC:=zA cD;clear cC cD;have HB:=zA (Below.refl w.heap.size w);have H:=h;clear h;unfold spec_Lay.f at H;obtain⟨bD,bF⟩:∃ y_:List (S73),y_=(([]:List (S73))):=⟨_,rfl⟩
 replace H:(if bD.length+l1.length<8796093022208 then((some (bD++l1:List (S73))).bind fun aN=>((spec_AreDepots.f k aE aD aC l1).bind fun bA=>(if bA=true then((spec_l1In.f a3 1 10000).bind fun aW=>(spec_Lay.j0 k l1 a2 a3 aN (!aW) aE aD aC)) else(spec_Lay.j0 k l1 a2 a3 aN true aE aD aC)))) else(none))=some (r1,r2):=zY bF H
 have Ny188:=zA bF;clear bF;obtain⟨cN,H⟩:=zifA H;obtain⟨aN,bE⟩:∃ y_:List (S73),y_=(bD++l1):=⟨_,rfl⟩
 replace H:((spec_AreDepots.f k aE aD aC l1).bind fun bA=>(if bA=true then((spec_l1In.f a3 1 10000).bind fun aW=>(spec_Lay.j0 k l1 a2 a3 aN (!aW) aE aD aC)) else(spec_Lay.j0 k l1 a2 a3 aN true aE aD aC)))=some (r1,r2):=zY bE H
 have Ny191:=zA bE;clear bE;have cA:=zA H;clear H;go_enter Try.func56,Try.ntmps56
 go_upto_region 2 with (first|((with_reducible refine zgd 4 rfl ?_);refine zbx 4 #[.int .i64 aE,.int .i64 aD,.slice aK aC.length aJ] 26 ?_;intro cB hg w7 hbox hb;have aA:=zA hbox;have dD:=zga (w:=w) hg;replace HB:=zbs hb;clear hb hbox hg)|((with_reducible refine zgd 12 rfl ?_);refine Kd.R_lit k73 _ 73 ?hg (N:=12) ?hd (xs:=([]:List (S73))) (inner:=[]) (ok:=fun _=>True) (okp:=fun _=>True) ?hr ?hp (fun _ hk=>hk) trivial (Below.refl _ _) (Nat.le_refl _) (by simp) ?_;(case hd=>rfl);(case hg=>rfl);(case hr=>first|(go_simp;done)|(go_simp;rfl));(case hp=>exact(Reps.none _ _));intro v189 w8 ho9 hb hg_ hnew_;clear hg_ hnew_;(first|rw[←Ny188.out] at ho9|(simp only[Int.reduceToNat] at ho9;rw[←Ny188.out] at ho9));have bH:=zA (Kd.R_lower ho9 (below_size zb));replace aA:=zkb aA hb;replace HB:=zbs hb;clear hb ho9)|((with_reducible refine gate_builtin (b:=.append) (xs:=#[.tmp 12,.tmp 13]) rfl ?_);at_builtin;refine Kd.R_append_rows k73 (w0:=w) w.heap.size rfl (.tmp 12) (.tmp 13) 29 73 (.agg #[(.int .i64 0),(.int .i64 0)]) 16 rfl Try.underlying29 info73 rfl (by decide) (by omega) v189 bD l1 _ _ _ (fun _=>True) (fun _=>False) rfl rfl ?aO ?aR (fun _ _ h=>h) (fun _ h=>h.elim) ?aF ?aB ?aS ?aL ?_;(case aR=>repeat (first|exact(Kd.C_below bB.out HB.out)|(with_reducible refine Kd.C_alloc ?_ _)|(with_reducible refine Kd.C_drewN ?_ _)|(with_reducible refine Kd.C_drew ?_)));(case aB=>exact zb);(case aF=>exact(fun _ _=>trivial));(case aO=>exact(zR bH));(case aS=>exact(below_size zb));(case aL=>have:=cN.out;omega);intro v192 dK ho hb hg hat;rw[←Ny191.out] at ho;replace aA:=zgr aA hg (Kd.R_ne bH.out aA.out (by decide));replace HB:=zA hb;have aM:=zA ho;clear bH;clear ho hb hg hat))
 (try simp only[Act.put,z_L])
 go_cut [23] (fun v23 wc=>∃ (kq:Nat) (aX:Bool),v23=.bool aX∧Aside0 (spec_Lay.j0 kq l1 a2 a3 aN aX aE aD aC=some (r1,r2))∧Aside0 (kq≤k)∧Aside0 (Kd.R k73 73 wc w.heap.size (fun _=>True) v192 aN)∧Aside0 (wc.heap[cB]?=some (.cells #[.int .i64 aE,.int .i64 aD,(.slice aK aC.length aJ)] 26 (0,0)))∧Aside0 (Below w.heap.size w wc))
 case first =>
  have H:=cA.out;clear cA;obtain⟨bA,cH,H⟩:=zB H
  by_cases bI:bA=true
  ·subst bI;rw[if_pos rfl] at H;obtain⟨aW,dC,H⟩:=zB H;have H':=zA H;clear H;obtain⟨bZ,bY,bX,bT,bS,bR⟩:=ze3 aA
   go_wp2_with (first|((with_reducible refine zgf 64 rfl ?_);refine zgl 17 Try.func64 #[.agg #[.int .i64 aE,.int .i64 aD,.slice aK aC.length aJ],.slice A1 l1.length c1] ?_;(with_reducible refine(spec_AreDepots.calls k aE aD _ _ aC _ _ l1 true _ ?s1 ?s2 ?s3 ?s4 cH.out).mono ?_);(case s1=>exact zCb aY);(case s2=>exact aZ.out);(case s3=>exact zCb bB);(case s4=>exact bC.out);rintro e dJ ⟨rfl,hb⟩;refine⟨_,rfl,?_⟩;replace aM:=zRb aM hb;replace aA:=zkb aA hb;replace HB:=zbs hb;(try clear hb))|(go_at_call 65;(with_reducible refine(spec_l1In.calls a3 1 10000 aW _ dC.out).mono ?_);rintro e w' ⟨rfl,⟨nd,rfl⟩⟩))
   go_meet
   case rel=>exact⟨_,(!aW),zr,H',⟨by first|omega|exact Nat.le_refl _⟩,⟨zR aM⟩,⟨zk aA⟩,⟨zb⟩⟩
  ·replace bI:=Bool.eq_false_iff.mpr bI;subst bI;rw[if_neg zNo] at H;have H':=zA H;clear H;obtain⟨bW,bV,bU,bQ,bP,bO⟩:=ze3 aA
   go_wp2_with (first|((with_reducible refine zgf 64 rfl ?_);refine zgl 17 Try.func64 #[.agg #[.int .i64 aE,.int .i64 aD,.slice aK aC.length aJ],.slice A1 l1.length c1] ?_;(with_reducible refine(spec_AreDepots.calls k aE aD _ _ aC _ _ l1 false _ ?s1 ?s2 ?s3 ?s4 cH.out).mono ?_);(case s1=>exact zCb aY);(case s2=>exact aZ.out);(case s3=>exact zCb bB);(case s4=>exact bC.out);rintro e dI ⟨rfl,hb⟩;refine⟨_,rfl,?_⟩;replace aM:=zRb aM hb;replace aA:=zkb aA hb;replace HB:=zbs hb;(try clear hb)))
   go_meet
   case rel=>exact⟨_,(true),zr,H',⟨by first|omega|exact Nat.le_refl _⟩,⟨zR aM⟩,⟨zk aA⟩,⟨zb⟩⟩
 case rest =>
  clear cA;(try clear c1);(try clear c5);(try clear bI);(try clear bZ);(try clear bY);(try clear bX);(try clear bW);(try clear bV);(try clear bU);(try clear bT);(try clear bS);(try clear bR);(try clear bQ);(try clear bP);(try clear bO);obtain⟨kq,aX,rfl,HA,HJ5,aG,aA,HB⟩:=hcut;cases kq with
  |zero=>exact absurd HA.out (by simp[spec_Lay.j0])
  |succ kj5 =>
   have H:=HA.out;clear HA;simp only[spec_Lay.j0] at H
   by_cases bN:aX=true
   ·subst bN;rw[if_pos rfl] at H;simp only[Option.some.injEq,Prod.mk.injEq] at H;obtain⟨rfl,rfl⟩:=H;go_wp2;go_ret2;exact⟨_,zE,zR aG,zb⟩
   ·replace bN:=Bool.eq_false_iff.mpr bN;subst bN;rw[if_neg zNo] at H;obtain⟨aV,cG,H⟩:=zB H;obtain⟨aU,cF,H⟩:=zB H;obtain⟨cI,cE,H⟩:=zB H
    by_cases bM:cI=true
    ·subst bM;rw[if_pos rfl] at H;simp only[Option.some.injEq,Prod.mk.injEq] at H;obtain⟨rfl,rfl⟩:=H
     go_wp2_with (first|((with_reducible refine zgf 67 rfl ?_);refine zgl 29 Try.func67 #[.slice A1 l1.length c1,.int .i64 a2] ?_;(with_reducible refine(spec_FoodAt.calls kj5 _ _ l1 a2 aV _ ?s1 ?s2 cG.out).mono ?_);(case s1=>exact zCb bB);(case s2=>exact bC.out);rintro e w' ⟨rfl,⟨nd,rfl⟩⟩;refine⟨_,rfl,?_⟩)|((with_reducible refine zgf 66 rfl ?_);refine zgl 32 Try.func66 #[.slice A1 l1.length c1,.int .i64 a2,.int .i64 (wrap64 (aV+a3))] ?_;(with_reducible refine(spec_l8Set.calls kj5 _ _ l1 a2 (wrap64 (aV+a3)) aU _ ?s1 ?s2 cF.out).mono ?_);(case s1=>exact zCb bB);(case s2=>exact bC.out);rintro e dH ⟨v198,rfl,ho0,hb⟩;refine⟨_,rfl,?_⟩;have aH:=zA (Kd.R_lower (Kd.R_new' ho0 (Kd.R_lt (zR aG))) (below_size zb));replace aG:=zA (Kd.R_elder' (zR aG) (Kd.R_base ho0) hb);replace aA:=zkb aA hb;replace HB:=zbs hb;(try clear hb);(try clear ho0);obtain⟨dB,dA,cZ,cV,cU,cT⟩:=ze3 aA;obtain⟨cP,cM,cK⟩:=Kd.R_slice aH.out;subst cK)|((with_reducible refine zgf 64 rfl ?_);refine zgl 35 Try.func64 #[.agg #[.int .i64 aE,.int .i64 aD,.slice aK aC.length aJ],.slice cP aU.length cM] ?_;(with_reducible refine(spec_AreDepots.calls kj5 aE aD _ _ aC _ _ aU true _ ?s1 ?s2 ?s3 ?s4 cE.out).mono ?_);(case s1=>exact zCb aY);(case s2=>exact aZ.out);(case s3=>exact zCx (Kd.R_reads' aH.out).2.2);(case s4=>exact(Kd.R_reads' aH.out).2.1);rintro e dG ⟨rfl,hb⟩;refine⟨_,rfl,?_⟩;replace aG:=zRb aG hb;replace aH:=zRb aH hb;replace aA:=zkb aA hb;replace HB:=zbs hb;(try clear hb)))
     go_ret2;exact⟨_,zE,z_t aH,zb⟩
    ·replace bM:=Bool.eq_false_iff.mpr bM;subst bM;rw[if_neg zNo] at H;simp only[Option.some.injEq,Prod.mk.injEq] at H;obtain⟨rfl,rfl⟩:=H
     go_wp2_with (first|((with_reducible refine zgf 67 rfl ?_);refine zgl 29 Try.func67 #[.slice A1 l1.length c1,.int .i64 a2] ?_;(with_reducible refine(spec_FoodAt.calls kj5 _ _ l1 a2 aV _ ?s1 ?s2 cG.out).mono ?_);(case s1=>exact zCb bB);(case s2=>exact bC.out);rintro e w' ⟨rfl,⟨nd,rfl⟩⟩;refine⟨_,rfl,?_⟩)|((with_reducible refine zgf 66 rfl ?_);refine zgl 32 Try.func66 #[.slice A1 l1.length c1,.int .i64 a2,.int .i64 (wrap64 (aV+a3))] ?_;(with_reducible refine(spec_l8Set.calls kj5 _ _ l1 a2 (wrap64 (aV+a3)) aU _ ?s1 ?s2 cF.out).mono ?_);(case s1=>exact zCb bB);(case s2=>exact bC.out);rintro e dF ⟨v198,rfl,ho0,hb⟩;refine⟨_,rfl,?_⟩;have aH:=zA (Kd.R_lower (Kd.R_new' ho0 (Kd.R_lt (zR aG))) (below_size zb));replace aG:=zA (Kd.R_elder' (zR aG) (Kd.R_base ho0) hb);replace aA:=zkb aA hb;replace HB:=zbs hb;(try clear hb);(try clear ho0);obtain⟨cY,cX,cW,cS,cR,cQ⟩:=ze3 aA;obtain⟨cO,cL,cJ⟩:=Kd.R_slice aH.out;subst cJ)|((with_reducible refine zgf 64 rfl ?_);refine zgl 35 Try.func64 #[.agg #[.int .i64 aE,.int .i64 aD,.slice aK aC.length aJ],.slice cO aU.length cL] ?_;(with_reducible refine(spec_AreDepots.calls kj5 aE aD _ _ aC _ _ aU false _ ?s1 ?s2 ?s3 ?s4 cE.out).mono ?_);(case s1=>exact zCb aY);(case s2=>exact aZ.out);(case s3=>exact zCx (Kd.R_reads' aH.out).2.2);(case s4=>exact(Kd.R_reads' aH.out).2.1);rintro e dE ⟨rfl,hb⟩;refine⟨_,rfl,?_⟩;replace aG:=zRb aG hb;replace aH:=zRb aH hb;replace aA:=zkb aA hb;replace HB:=zbs hb;(try clear hb)))
     go_ret2;exact⟨_,zE,z_t aG,zb⟩

def spec_l8Draw.l0:Nat→List (S73)→Int→List Int→Int→Int→Int→Int→List Int→Option ((List (S73)) × Int × Int)
  |0,_,_,_,_,_,_,_,_=>none
  |k+1,x5,x6,x1000,x1001,x1002,x202000,x202001,x202002=>if x6>0 then((spec_l1Below.f x1000 x1001 x1002 20).bind fun bt208=>((spec_l1Below.f x1000 bt208.2.1 bt208.2.2 30).bind fun bt211=>((spec_Lay.f k x202000 x202001 x202002 x5 bt208.1 (wrap64 (1+bt211.1))).bind fun bt214=>(spec_l8Draw.l0 k bt214.1 (wrap64 (x6-1)) x1000 bt211.2.1 bt211.2.2 x202000 x202001 x202002)))) else(some (x5,x1001,x1002))
def spec_l8Draw.f (k:Nat) (s0_0:List Int) (s0_1:Int) (s0_2:Int) (a1_0:Int) (a1_1:Int) (l1_2:List Int):Option ((List (S73)) × Int × Int):=(spec_l1Below.f s0_0 s0_1 s0_2 4).bind fun bt205=>(spec_l8Draw.l0 k (([]:List (S73))) bt205.1 s0_0 bt205.2.1 bt205.2.2 a1_0 a1_1 l1_2)
def spec_l8Draw.T5:Bool × List (List Nat × List Nat):=(true,[([],[]),([],[]),([],[]),([2],[2]),([],[]),([4,3],[4]),([5],[5]),([0,1,3,6,5],[0,1,3,6]),([7],[7]),([8],[8]),([8],[8]),([9,7,0,1,2,3,4,5,6,7,8,9],[1,9])])
def spec_l8Draw.B5:List Nat:=[0,0,0,4,0,28,60,127,255,511,511,1023]
theorem spec_l8Draw.tab5:rtab .any (opsOf Try.f44 5)=spec_l8Draw.T5:=by kernel_rfl
theorem spec_l8Draw.bits5:waitsOk spec_l8Draw.T5.2 spec_l8Draw.B5=true:=by kernel_rfl
theorem spec_l8Draw.calls (k:Nat) (g:Nat) (s0_0:List Int) (s0_1:Int) (s0_2:Int) (aJ:Int) (aI:Int) (aM:Option Addr) (aT:Nat) (aD:List Int) (r1:List (S73)) (r2:Int) (r3:Int) (w0 w:World) (hI:IsS86 w0 w g s0_0 s0_1 s0_2) (hB:Below w0.heap.size w0 w) (bD:Kd.C (Kd.int .i64) w aM aD.length aD) (bE:aD.length≤aT) (hf1_2:∀ ad,aM=some ad→0<aD.length→ad.block≠g) (h:spec_l8Draw.f k s0_0 s0_1 s0_2 aJ aI aD=some (r1,r2,r3)) :
  Calls Try.prog 44 #[.pointer (some ⟨g,0,none⟩),.agg #[.int .i64 aJ,.int .i64 aI,.slice aM aD.length aT]] w fun e w'=>∃ v0_:Value,e=.returned (v0_)∧Kd.R k73 73 w' w.heap.size (fun _=>True) v0_ r1∧IsS86 w0 w' g s0_0 r2 r3∧Below w0.heap.size w0 w'∧KeepBut w w' g none:=by
 have hu26:=Try.underlying26;have bN:=zA bD;have bP:=zA bE;clear bD bE;have HI0:=zA hI;have HK:=zA (KeepBut.refl w g none);have HL:=zA hB.size;clear hI;have HW0:=zA hB.size;have HB:=zA hB;clear hB;have H:=h;clear h;unfold spec_l8Draw.f at H;obtain⟨bF,aX⟩:∃ y_:List (S73),y_=(([]:List (S73))):=⟨_,rfl⟩
 replace H:((spec_l1Below.f s0_0 s0_1 s0_2 4).bind fun bt205=>(spec_l8Draw.l0 k bF bt205.1 s0_0 bt205.2.1 bt205.2.2 aJ aI aD))=some (r1,r2,r3):=zY aX H
 have Ny202:=zA aX;clear aX;obtain⟨⟨bL,bK,bJ⟩,A3,H⟩:=zB H;have H':=zA H;clear H;go_enter Try.func44,Try.ntmps44
 go_wp2_with (first|((with_reducible refine zgd 3 rfl ?_);refine zbx 3 #[.int .i64 aJ,.int .i64 aI,.slice aM aD.length aT] 26 ?_;intro aE hg w4 hbox hb;replace HB:=zA (below_step zB0 hb);have aA:=zA hbox;have aH:=zA ((by rw[hg];exact(keep_size (w:=w) (g:=g) (row:=none) zK0):w.heap.size≤aE));have aK:=zA ((Nat.le_trans HW0.out (by rw[hg];exact(keep_size (w:=w) (g:=g) (row:=none) zK0):w.heap.size≤aE):w0.heap.size≤aE));replace HK:=zA (KeepBut.trans zK0 (KeepBut.of_below hb g none) (.inl rfl));have aC:=zA ((by rw[hg];exact Nat.ne_of_lt (IsS86.lt (show IsS86 w0 _ g s0_0 s0_1 s0_2 from zI0)):g≠aE));have aV:=zA ((by rw[hg];exact Nat.ne_of_gt (IsS86.lt (show IsS86 w0 _ g s0_0 s0_1 s0_2 from zI0)):aE≠g));replace HI0:=zA (IsS86.below zI0 hb);clear hb hbox hg)|((with_reducible refine zgd 7 rfl ?_);refine Kd.R_lit k73 _ 73 ?hg (N:=7) ?hd (xs:=([]:List (S73))) (inner:=[]) (ok:=fun _=>True) (okp:=fun _=>True) ?hr ?hp (fun _ hk=>hk) trivial (Below.refl _ _) (Nat.le_refl _) (by simp) ?_;(case hd=>rfl);(case hg=>rfl);(case hr=>first|(go_simp;done)|(go_simp;rfl));(case hp=>exact(Reps.none _ _));intro v203 w5 ho6 hb hg_ hnew_;clear hg_ hnew_;(first|rw[←Ny202.out] at ho6|(simp only[Int.reduceToNat] at ho6;rw[←Ny202.out] at ho6));have aY:=zA (Kd.R_lower ho6 (keep_size (w:=w) (g:=g) (row:=none) zK0));replace aA:=zkb aA hb;replace HK:=zA (KeepBut.trans zK0 (KeepBut.of_below hb g none) (.inl rfl));replace HB:=zA (below_step zB0 hb);replace HI0:=zA (IsS86.below zI0 hb);clear hb ho6)|((with_reducible refine zgf 37 rfl ?_);refine zgl 9 Try.func37 #[.pointer (some ⟨g,0,none⟩),.int .i64 4] ?_;(with_reducible refine(spec_l1Below.calls g s0_0 s0_1 s0_2 4 bL bK bJ w0 _ ?s1 ?s2 A3.out).mono ?_);(case s1=>exact zI0);(case s2=>exact zB0);rintro e w7 ⟨rfl,hi,hb,hk⟩;refine⟨_,rfl,?_⟩;replace aA:=zkB hk aA aV;replace aY:=zA (Kd.R_mono (Kd.R_keep (IsS86.apart (show IsS86 w0 _ g s0_0 s0_1 s0_2 from zI0) (zR aY) (by decide)) hk (fun _ h=>h.2)) (fun _ h=>h.1));replace HK:=zA (KeepBut.trans zK0 hk (.inl rfl));replace HB:=zA hb;replace HI0:=zA (hi);(try clear hb)))
 go_loopg [5,6] k (fun kq v5 v6 w'=>∃ (aW:List (S73)) (aU:Int) (aQ:Int) (aN:Int),v6=.int .i64 aU∧Aside0 (spec_l8Draw.l0 kq aW aU s0_0 aQ aN aJ aI aD=some (r1,r2,r3))∧Aside0 (kq≤k)∧Aside0 (Kd.R k73 73 w' w.heap.size (fun _=>True) v5 aW)∧Aside0 (w'.heap[aE]?=some (.cells #[.int .i64 aJ,.int .i64 aI,(.slice aM aD.length aT)] 26 (0,0)))∧Aside0 (IsS86 w0 w' g s0_0 aQ aN)∧Aside0 (KeepBut w w' g none)∧Aside0 (Below w0.heap.size w0 w'))
 case atStart=>exact⟨(bF),(bL),(bK),(bJ),zr,H',⟨Nat.le_refl _⟩,⟨zR aY⟩,⟨zk aA⟩,⟨zI0⟩,⟨zK0⟩,⟨zB0⟩⟩
 case round =>
  clear H';obtain⟨aW,aU,aQ,aN,rfl,HA,HK1,aG,aA,HI0,HK,HB⟩:=hrel
  cases gk with
  |zero=>exact absurd HA.out (by simp[spec_l8Draw.l0])
  |succ k1 =>
   have H:=HA.out;clear HA;simp only[spec_l8Draw.l0] at H
   by_cases c8:aU>0
   ·rw[if_pos c8] at H;have bS:decide (0<aU)=true:=decide_eq_true c8;clear c8;obtain⟨⟨bC,bB,bA⟩,A9,H⟩:=zB H;obtain⟨⟨aZ,bI,bH⟩,bV,H⟩:=zB H;obtain⟨⟨bG,bQ⟩,bU,H⟩:=zB H;have H':=zA H;clear H
    try go_wp2
    replace aG:=zA (Kd.R_drew aG.out);replace aA:=zA (blk_drew aA.out);replace HI0:=zA (IsS86.drew HI0.out);replace HK:=zA (keep_drew HK.out);replace HB:=zA (below_drew1 HB.out);refine start_ (n:=12) (S:=fun w'=>w'.cell? ⟨aE,0,none⟩=some (.int .i64 aJ)∧w'.cell? ⟨aE,1,none⟩=some (.int .i64 aI)∧w'.cell? ⟨aE,2,none⟩=some (.slice aM aD.length aT)) (ds:=[]) _ (by kernel_rfl) rfl rfl ⟨zq aA 0,zq aA 1,zq aA 2⟩ (fun hHeld=>?_);refine with_tabW spec_l8Draw.tab5 spec_l8Draw.bits5 (fun HT_ HW_=>?_);generalize wr.drew=cB at aG aA HI0 HK HB hHeld ⊢;refine z_p 1 ?_;refine z_p 2 ?_;refine z_p 4 ?_;refine zt 0 15 HT_ HW_ hHeld ?_;refine zo 3 18 HT_ (fun K hK=>?_);refine zgo Try.func37 #[.pointer (some ⟨g,0,none⟩),.int .i64 20] ?_
    with_reducible refine(spec_l1Below.calls g s0_0 aQ aN 20 bC bB bA w0 _ ?s1 ?s2 A9.out).mono ?_
    (case s1=>exact zI0);(case s2=>exact zB0);rintro e cA ⟨rfl,hi,hb,hk⟩;refine⟨_,rfl,?_⟩;replace aG:=zA (Kd.R_mono (Kd.R_keep (IsS86.apart (show IsS86 w0 _ g s0_0 aQ aN from zI0) (zR aG) (by decide)) hk (fun _ h=>h.2)) (fun _ h=>h.1));replace aA:=zkB hk aA aV;replace HK:=zA (KeepBut.trans zK0 hk (.inl rfl));replace HB:=zA hb;replace HI0:=zA (hi);(try clear hb);refine hK.out _ _ ⟨zq aA 0,zq aA 1,zq aA 2⟩ (fun hHeld=>?_);clear hK K;refine norm_ zV ?_;refine zo 5 20 HT_ (fun K hK=>?_);refine zgo Try.func37 #[.pointer (some ⟨g,0,none⟩),.int .i64 30] ?_
    with_reducible refine(spec_l1Below.calls g s0_0 bB bA 30 aZ bI bH w0 _ ?s1 ?s2 bV.out).mono ?_
    (case s1=>exact zI0);(case s2=>exact zB0);rintro e bZ ⟨rfl,hi,hb,hk⟩;refine⟨_,rfl,?_⟩;replace aG:=zA (Kd.R_mono (Kd.R_keep (IsS86.apart (show IsS86 w0 _ g s0_0 bB bA from zI0) (zR aG) (by decide)) hk (fun _ h=>h.2)) (fun _ h=>h.1));replace aA:=zkB hk aA aV;replace HK:=zA (KeepBut.trans zK0 hk (.inl rfl));replace HB:=zA hb;replace HI0:=zA (hi);(try clear hb);obtain⟨bT,bR,bM⟩:=Kd.R_slice aG.out;(first|subst bM|(injection bM with f1_ f2_ f3_;have f4_:=f1_.symm;have f5_:=f3_.symm;clear f1_ f2_ f3_;subst f4_;subst f5_));refine hK.out _ _ ⟨zq aA 0,zq aA 1,zq aA 2⟩ (fun hHeld=>?_);clear hK K;refine norm_ zV ?_;refine z_p 6 ?_;refine zo 7 22 HT_ (fun K hK=>?_);refine zgo Try.func56 #[.agg #[.int .i64 aJ,.int .i64 aI,.slice aM aD.length aT],.slice bT aW.length bR,.int .i64 bC,.int .i64 (wrap64 (1+aZ))] ?_
    with_reducible refine(spec_Lay.calls k1 aJ aI _ _ aD _ _ aW bC (wrap64 (1+aZ)) bG bQ _ ?s1 ?s2 ?s3 ?s4 bU.out).mono ?_
    (case s1=>exact Kd.C_keep 0 bN.out zK0 hf1_2);(case s2=>exact bP.out);(case s3=>exact zCx (Kd.R_reads' aG.out).2.2);(case s4=>exact(Kd.R_reads' aG.out).2.1);rintro e bY ⟨v215,rfl,ho0,hb⟩;refine⟨_,rfl,?_⟩;have bO:=zA (Kd.R_lower (Kd.R_new' ho0 (Kd.R_lt (zR aG))) (keep_size (w:=w) (g:=g) (row:=none) zK0));replace aG:=zA (Kd.R_elder' (zR aG) (Kd.R_base ho0) hb);replace aA:=zkb aA hb;replace HK:=zA (KeepBut.trans zK0 (KeepBut.of_below hb g none) (.inl rfl));replace HB:=zA (below_step zB0 hb);replace HI0:=zA (IsS86.below zI0 hb);(try clear hb);(try clear ho0);refine hK.out _ _ ⟨zq aA 0,zq aA 1,zq aA 2⟩ (fun hHeld=>?_);clear hK K;refine norm_ zV ?_;refine z_p 8 ?_;refine z_p 9 ?_;refine z_p 10 ?_;refine z_p 11 ?_;refine done_ (done_of HT_.out (by kernel_rfl)) ?_
    try go_wp2
    go_roundg k1
    case measure=>have:=HK1.out;omega
    case rel=>exact⟨(bG),(wrap64 (aU-1)),(bI),(bH),zr,H',⟨by have:=HK1.out;omega⟩,⟨z_t bO⟩,⟨zk aA⟩,⟨zI0⟩,⟨zK0⟩,⟨zB0⟩⟩
   ·rw[if_neg c8] at H;have bS:decide (0<aU)=false:=decide_eq_false c8;clear c8;simp only[Option.some.injEq,Prod.mk.injEq] at H;obtain⟨rfl,rfl,rfl⟩:=H;go_wp2;go_ret;exact⟨_,zE,zR aG,zI0,zB0,zK0⟩

def spec_l1Once.f (s0_0:List Int) (s0_1:Int) (s0_2:Int) (a1:Int):Option (Bool × Int × Int):=(spec_l1Below.f s0_0 s0_1 s0_2 a1).bind fun bt218=>(some ((bt218.1==0),bt218.2.1,bt218.2.2))
theorem spec_l1Once.calls (g:Nat) (s0_0:List Int) (s0_1:Int) (s0_2:Int) (a1:Int) (r1:Bool) (r2:Int) (r3:Int) (w0 w:World) (hI:IsS86 w0 w g s0_0 s0_1 s0_2) (hB:Below w0.heap.size w0 w) (h:spec_l1Once.f s0_0 s0_1 s0_2 a1=some (r1,r2,r3)) :
  Calls Try.prog 20 #[.pointer (some ⟨g,0,none⟩),.int .i64 a1] w fun e w'=>e=.returned (.bool r1)∧IsS86 w0 w' g s0_0 r2 r3∧Below w0.heap.size w0 w'∧KeepBut w w' g none:=by
 have HI0:=zA hI;have HK:=zA (KeepBut.refl w g none);have HL:=zA hB.size;clear hI;have HW0:=zA hB.size;have HB:=zA hB;clear hB;have H:=h;clear h;unfold spec_l1Once.f at H;obtain⟨⟨aE,aD,aC⟩,A3,H⟩:=zB H;simp only[Option.some.injEq,Prod.mk.injEq] at H;obtain⟨rfl,rfl,rfl⟩:=H;go_enter Try.func20,Try.ntmps20
 go_wp2_with (first|((with_reducible refine zgf 37 rfl ?_);refine zgl 7 Try.func37 #[.pointer (some ⟨g,0,none⟩),.int .i64 a1] ?_;(with_reducible refine(spec_l1Below.calls g s0_0 s0_1 s0_2 a1 aE aD aC w0 _ ?s1 ?s2 A3.out).mono ?_);(case s1=>exact zI0);(case s2=>exact zB0);rintro e w4 ⟨rfl,hi,hb,hk⟩;refine⟨_,rfl,?_⟩;replace HK:=zA (KeepBut.trans zK0 hk (.inl rfl));replace HB:=zA hb;replace HI0:=zA (hi);(try clear hb)))
 go_ret;exact⟨zE,zI0,zB0,zK0⟩

def spec_l7Draw.l0:Nat→List (S76)→Int→List Int→Int→Int→Option ((List (S76)) × Int × Int)
  |0,_,_,_,_,_=>none
  |k+1,x3,x4,x1000,x1001,x1002=>(spec_l1Below.f x1000 x1001 x1002 4).bind fun bt224=>(if x4≤(wrap64 (1+bt224.1)) then((spec_l1Below.f x1000 bt224.2.1 bt224.2.2 20).bind fun bt227=>((spec_l1Below.f x1000 bt227.2.1 bt227.2.2 3).bind fun bt230=>((spec_l1Once.f x1000 bt230.2.1 bt230.2.2 8).bind fun bt233=>(if x3.length<4398046511104 then(spec_l7Draw.l0 k (x3++[(⟨wrap64 (2 * x4),wrap64 (5+bt227.1),wrap64 (1+bt230.1),bt233.1⟩:S76)]) (wrap64 (x4+1)) x1000 bt233.2.1 bt233.2.2) else(none))))) else(some (x3,bt224.2.1,bt224.2.2)))
def spec_l7Draw.f (k:Nat) (s0_0:List Int) (s0_1:Int) (s0_2:Int):Option ((List (S76)) × Int × Int):=spec_l7Draw.l0 k (([]:List (S76))) 1 s0_0 s0_1 s0_2
theorem spec_l7Draw.calls (k:Nat) (g:Nat) (s0_0:List Int) (s0_1:Int) (s0_2:Int) (r1:List (S76)) (r2:Int) (r3:Int) (w0 w:World) (hI:IsS86 w0 w g s0_0 s0_1 s0_2) (hB:Below w0.heap.size w0 w) (h:spec_l7Draw.f k s0_0 s0_1 s0_2=some (r1,r2,r3)) :
  Calls Try.prog 57 #[.pointer (some ⟨g,0,none⟩)] w fun e w'=>∃ v0_:Value,e=.returned (v0_)∧Kd.R k76 76 w' w.heap.size (fun _=>True) v0_ r1∧IsS86 w0 w' g s0_0 r2 r3∧Below w0.heap.size w0 w'∧KeepBut w w' g none:=by
 have hu76:=Try.underlying76;have HI0:=zA hI;have HK:=zA (KeepBut.refl w g none);have HL:=zA hB.size;clear hI;have HW0:=zA hB.size;have HB:=zA hB;clear hB;have H:=h;clear h;unfold spec_l7Draw.f at H;obtain⟨bB,aQ⟩:∃ y_:List (S76),y_=(([]:List (S76))):=⟨_,rfl⟩
 replace H:(spec_l7Draw.l0 k bB 1 s0_0 s0_1 s0_2)=some (r1,r2,r3):=zY aQ H
 have Ny221:=zA aQ;clear aQ;have H':=zA H;clear H;go_enter Try.func57,Try.ntmps57
 go_wp2_with (first|((with_reducible refine zgd 5 rfl ?_);refine Kd.R_lit k76 _ 76 ?hg (N:=5) ?hd (xs:=([]:List (S76))) (inner:=[]) (ok:=fun _=>True) (okp:=fun _=>True) ?hr ?hp (fun _ hk=>hk) trivial (Below.refl _ _) (Nat.le_refl _) (by simp) ?_;(case hd=>rfl);(case hg=>rfl);(case hr=>first|(go_simp;done)|(go_simp;rfl));(case hp=>exact(Reps.none _ _));intro v222 w2 ho3 hb hg_ hnew_;clear hg_ hnew_;(first|rw[←Ny221.out] at ho3|(simp only[Int.reduceToNat] at ho3;rw[←Ny221.out] at ho3));have bD:=zA (Kd.R_lower ho3 (keep_size (w:=w) (g:=g) (row:=none) zK0));replace HK:=zA (KeepBut.trans zK0 (KeepBut.of_below hb g none) (.inl rfl));replace HB:=zA (below_step zB0 hb);replace HI0:=zA (IsS86.below zI0 hb);clear hb ho3))
 go_loopg [3,4] k (fun kq v3 v4 w'=>∃ (aG:List (S76)) (aE:Int) (aD:Int) (aC:Int),v4=.int .i64 aE∧Aside0 (spec_l7Draw.l0 kq aG aE s0_0 aD aC=some (r1,r2,r3))∧Aside0 (kq≤k)∧Aside0 (Kd.R k76 76 w' w.heap.size (fun _=>True) v3 aG)∧Aside0 (IsS86 w0 w' g s0_0 aD aC)∧Aside0 (KeepBut w w' g none)∧Aside0 (Below w0.heap.size w0 w'))
 case atStart=>exact⟨(bB),(1),(s0_1),(s0_2),zr,H',⟨Nat.le_refl _⟩,⟨zR bD⟩,⟨zI0⟩,⟨zK0⟩,⟨zB0⟩⟩
 case round =>
  clear H';obtain⟨aG,aE,aD,aC,rfl,HA,HK1,aA,HI0,HK,HB⟩:=hrel
  cases gk with
  |zero=>exact absurd HA.out (by simp[spec_l7Draw.l0])
  |succ k1 =>
   have H:=HA.out;clear HA;simp only[spec_l7Draw.l0] at H;obtain⟨⟨aZ,aM,aK⟩,A4,H⟩:=zB H
   by_cases c5:aE≤(wrap64 (1+aZ))
   ·rw[if_pos c5] at H;have bE:=decide_eq_true c5;clear c5;obtain⟨⟨aJ,aY,aX⟩,A6,H⟩:=zB H;obtain⟨⟨aI,aW,aV⟩,A7,H⟩:=zB H;obtain⟨⟨aH,aU,aT⟩,A8,H⟩:=zB H;obtain⟨bF,H⟩:=zifA H;obtain⟨bA,aN⟩:∃ y_:List (S76),y_=(aG++[(⟨wrap64 (2 * aE),wrap64 (5+aJ),wrap64 (1+aI),aH⟩:S76)]):=⟨_,rfl⟩
    replace H:(spec_l7Draw.l0 k1 bA (wrap64 (aE+1)) s0_0 aU aT)=some (r1,r2,r3):=zY aN H
    have Ny236:=zA aN;clear aN;have H':=zA H;clear H
    go_wp2_with (first|((with_reducible refine zgf 37 rfl ?_);refine zgl 8 Try.func37 #[.pointer (some ⟨g,0,none⟩),.int .i64 4] ?_;(with_reducible refine(spec_l1Below.calls g s0_0 aD aC 4 aZ aM aK w0 _ ?s1 ?s2 A4.out).mono ?_);(case s1=>exact zI0);(case s2=>exact zB0);rintro e bP ⟨rfl,hi,hb,hk⟩;refine⟨_,rfl,?_⟩;replace aA:=zA (Kd.R_mono (Kd.R_keep (IsS86.apart (show IsS86 w0 _ g s0_0 aD aC from zI0) (zR aA) (by decide)) hk (fun _ h=>h.2)) (fun _ h=>h.1));replace HK:=zA (KeepBut.trans zK0 hk (.inl rfl));replace HB:=zA hb;replace HI0:=zA (hi);(try clear hb))|((with_reducible refine zgf 37 rfl ?_);refine zgl 17 Try.func37 #[.pointer (some ⟨g,0,none⟩),.int .i64 20] ?_;(with_reducible refine(spec_l1Below.calls g s0_0 aM aK 20 aJ aY aX w0 _ ?s1 ?s2 A6.out).mono ?_);(case s1=>exact zI0);(case s2=>exact zB0);rintro e bO ⟨rfl,hi,hb,hk⟩;refine⟨_,rfl,?_⟩;replace aA:=zA (Kd.R_mono (Kd.R_keep (IsS86.apart (show IsS86 w0 _ g s0_0 aM aK from zI0) (zR aA) (by decide)) hk (fun _ h=>h.2)) (fun _ h=>h.1));replace HK:=zA (KeepBut.trans zK0 hk (.inl rfl));replace HB:=zA hb;replace HI0:=zA (hi);(try clear hb))|((with_reducible refine zgf 37 rfl ?_);refine zgl 20 Try.func37 #[.pointer (some ⟨g,0,none⟩),.int .i64 3] ?_;(with_reducible refine(spec_l1Below.calls g s0_0 aY aX 3 aI aW aV w0 _ ?s1 ?s2 A7.out).mono ?_);(case s1=>exact zI0);(case s2=>exact zB0);rintro e bN ⟨rfl,hi,hb,hk⟩;refine⟨_,rfl,?_⟩;replace aA:=zA (Kd.R_mono (Kd.R_keep (IsS86.apart (show IsS86 w0 _ g s0_0 aY aX from zI0) (zR aA) (by decide)) hk (fun _ h=>h.2)) (fun _ h=>h.1));replace HK:=zA (KeepBut.trans zK0 hk (.inl rfl));replace HB:=zA hb;replace HI0:=zA (hi);(try clear hb))|((with_reducible refine zgf 20 rfl ?_);refine zgl 23 Try.func20 #[.pointer (some ⟨g,0,none⟩),.int .i64 8] ?_;(with_reducible refine(spec_l1Once.calls g s0_0 aW aV 8 aH aU aT w0 _ ?s1 ?s2 A8.out).mono ?_);(case s1=>exact zI0);(case s2=>exact zB0);rintro e bM ⟨rfl,hi,hb,hk⟩;refine⟨_,rfl,?_⟩;replace aA:=zA (Kd.R_mono (Kd.R_keep (IsS86.apart (show IsS86 w0 _ g s0_0 aW aV from zI0) (zR aA) (by decide)) hk (fun _ h=>h.2)) (fun _ h=>h.1));replace HK:=zA (KeepBut.trans zK0 hk (.inl rfl));replace HB:=zA hb;replace HI0:=zA (hi);(try clear hb))|((with_reducible refine gate_builtin (b:=.append) (xs:=#[.tmp 13,.tmp 25]) rfl ?_);at_builtin;refine Kd.R_append k76 w.heap.size rfl (.tmp 13) (.tmp 25) 30 76 (.agg #[(.int .i64 0),(.int .i64 0),(.int .i64 0),(.bool false)]) 32 rfl Try.underlying30 info76 rfl (by decide) (by omega) u3 aG (⟨wrap64 (2 * aE),wrap64 (5+aJ),wrap64 (1+aI),aH⟩:S76) [.int .i64 (wrap64 (2 * aE)),.int .i64 (wrap64 (5+aJ)),.int .i64 (wrap64 (1+aI)),.bool aH] (fun _=>True) (fun _=>False) rfl rfl ?aP (fun _ hk=>hk.elim) ?aF ?aO (Below.refl _ _) ?aS ?aL ?_;(case aP=>exact k76_mkM _ _ _ (⟨wrap64 (2 * aE),wrap64 (5+aJ),wrap64 (1+aI),aH⟩:S76));(case aF=>exact(fun _ _=>trivial));(case aO=>exact(zR aA));(case aS=>exact(keep_size (w:=w) (g:=g) (row:=none) zK0));(case aL=>have:=bF.out;omega);intro v237 bL ho hb hg hat;rw[←Ny236.out] at ho;replace HB:=zA (below_weaken zB0 HL.out hb);replace HI0:=zA (IsS86.grown zI0 hg (IsS86.own_ne HI0.out aA.out (by decide)));replace HK:=zA (KeepBut.trans zK0 (KeepBut.of_grown hg g) (Kd.R_base2 aA.out));have bC:=zA ho;clear aA;clear ho hb hg hat))
    go_roundg k1
    case measure=>have:=HK1.out;omega
    case rel=>exact⟨(bA),(wrap64 (aE+1)),(aU),(aT),zr,H',⟨by have:=HK1.out;omega⟩,⟨zR bC⟩,⟨zI0⟩,⟨zK0⟩,⟨zB0⟩⟩
   ·rw[if_neg c5] at H;have bE:=decide_eq_false c5;clear c5;simp only[Option.some.injEq,Prod.mk.injEq] at H;obtain⟨rfl,rfl,rfl⟩:=H
    go_wp2_with (first|((with_reducible refine zgf 37 rfl ?_);refine zgl 8 Try.func37 #[.pointer (some ⟨g,0,none⟩),.int .i64 4] ?_;(with_reducible refine(spec_l1Below.calls g s0_0 aD aC 4 aZ aM aK w0 _ ?s1 ?s2 A4.out).mono ?_);(case s1=>exact zI0);(case s2=>exact zB0);rintro e bK ⟨rfl,hi,hb,hk⟩;refine⟨_,rfl,?_⟩;replace aA:=zA (Kd.R_mono (Kd.R_keep (IsS86.apart (show IsS86 w0 _ g s0_0 aD aC from zI0) (zR aA) (by decide)) hk (fun _ h=>h.2)) (fun _ h=>h.1));replace HK:=zA (KeepBut.trans zK0 hk (.inl rfl));replace HB:=zA hb;replace HI0:=zA (hi);(try clear hb)))
    go_ret;exact⟨_,zE,zR aA,zI0,zB0,zK0⟩

def spec_IsRule.f (a0_0:Int) (a0_1:Int):Option (Bool):=(spec_l1In.f a0_1 1 10).bind fun t240=>(if t240=true then((spec_l1In.f a0_0 0 (wrap64 (a0_1-1))).bind fun t241=>(some t241)) else(some false))
theorem spec_IsRule.calls (aC:Int) (aA:Int) (r:Bool) (w:World) (h:spec_IsRule.f aC aA=some r) :
  Calls Try.prog 73 #[.agg #[.int .i64 aC,.int .i64 aA]] w fun e w'=>e=.returned (.bool r)∧Below w.heap.size w w':=by
 have hu28:=Try.underlying28;have HB:=zA (Below.refl w.heap.size w);have H:=h;clear h;unfold spec_IsRule.f at H;obtain⟨aJ,A2,H⟩:=zB H
 by_cases c3:aJ=true
 ·subst c3;rw[if_pos rfl] at H;obtain⟨aI,A4,H⟩:=zB H;obtain rfl:=zI H;go_enter Try.func73,Try.ntmps73
  go_wp2_with (first|((with_reducible refine zgd 1 rfl ?_);refine zbx 1 #[.int .i64 aC,.int .i64 aA] 28 ?_;intro aE hg w5 hbox hb;have aD:=zA hbox;have aH:=zga (w:=w) hg;replace HB:=zbs hb;clear hb hbox hg;obtain⟨aW,aV,aQ,aN⟩:=ze2 aD)|((with_reducible refine zgf 65 rfl ?_);refine zgl 5 Try.func65 #[.int .i64 aA,.int .i64 1,.int .i64 10] ?_;(with_reducible refine(spec_l1In.calls aA 1 10 true _ A2.out).mono ?_);rintro e w' ⟨rfl,⟨nd,rfl⟩⟩;refine⟨_,rfl,?_⟩)|(go_at_call 65;(with_reducible refine(spec_l1In.calls aC 0 (wrap64 (aA-1)) aI _ A4.out).mono ?_);rintro e w' ⟨rfl,⟨nd,rfl⟩⟩))
  go_ret;exact⟨zE,zb⟩
 ·replace c3:=Bool.eq_false_iff.mpr c3;subst c3;rw[if_neg zNo] at H;obtain rfl:=zI H;go_enter Try.func73,Try.ntmps73
  go_wp2_with (first|((with_reducible refine zgd 1 rfl ?_);refine zbx 1 #[.int .i64 aC,.int .i64 aA] 28 ?_;intro aE hg w7 hbox hb;have aD:=zA hbox;have aH:=zga (w:=w) hg;replace HB:=zbs hb;clear hb hbox hg;obtain⟨aU,aT,aM,aK⟩:=ze2 aD)|((with_reducible refine zgf 65 rfl ?_);refine zgl 5 Try.func65 #[.int .i64 aA,.int .i64 1,.int .i64 10] ?_;(with_reducible refine(spec_l1In.calls aA 1 10 false _ A2.out).mono ?_);rintro e w' ⟨rfl,⟨nd,rfl⟩⟩;refine⟨_,rfl,?_⟩))
  go_ret;exact⟨zE,zb⟩

def spec_CountStorms.l0:Nat→List Bool→Int→Int→Option (Int)
  |0,_,_,_=>none
  |k+1,x0,x3,x4=>if x4<(x0.length:Int) then(if 0≤x4 then(if rdOf false x0 x4=true then(spec_CountStorms.l0 k x0 (wrap64 (x3+1)) (wrap64 (x4+1))) else(spec_CountStorms.l0 k x0 x3 (wrap64 (x4+1)))) else(none)) else(some x3)
def spec_CountStorms.f (k:Nat) (l0:List Bool):Option (Int):=spec_CountStorms.l0 k l0 0 0
theorem spec_CountStorms.calls (k:Nat) (A0:Option Addr) (c0:Nat) (l0:List Bool) (r:Int) (w:World) (aM:Kd.C Kd.bool w A0 l0.length l0) (aN:l0.length≤c0) (h:spec_CountStorms.f k l0=some r) :
  Calls Try.prog 74 #[.slice A0 l0.length c0] w fun e w'=>e=.returned (.int .i64 r)∧Drawn0 w w':=by
 have aQ:=zA aM;have aX:=zA aN;clear aM aN;have H:=h;clear h;unfold spec_CountStorms.f at H;have H':=zA H;clear H;go_enter Try.func74,Try.ntmps74;go_wp2
 go_loopg [3,4] k (fun kq v3 v4 w'=>∃ (aC:Int) (aA:Int),v3=.int .i64 aC∧v4=.int .i64 aA∧Aside0 (spec_CountStorms.l0 kq l0 aC aA=some r)∧Aside0 (kq≤k)∧Drawn0 w w')
 case atStart=>exact⟨(0),(0),zr,zr,H',⟨Nat.le_refl _⟩,by repeat (first|exact Drawn0.refl _|apply Drawn0.step)⟩
 case round =>
  clear H';obtain⟨aC,aA,rfl,rfl,HA,HK1,⟨m1,rfl⟩⟩:=hrel
  cases gk with
  |zero=>exact absurd HA.out (by simp[spec_CountStorms.l0])
  |succ k1 =>
   have H:=HA.out;clear HA;simp only[spec_CountStorms.l0] at H
   by_cases c2:aA<(l0.length:Int)
   ·rw[if_pos c2] at H;have aT:=decide_eq_true c2;clear c2;obtain⟨aW,H⟩:=zifD H;obtain⟨bq4,hbq4⟩:∃ b_:Bool,b_=(rdOf false l0 aA):=⟨_,rfl⟩
    replace H:(if bq4=true then(spec_CountStorms.l0 k1 l0 (wrap64 (aC+1)) (wrap64 (aA+1))) else(spec_CountStorms.l0 k1 l0 aC (wrap64 (aA+1))))=some r:=by rw[←hbq4] at H;exact H
    have Nbq4:=zA hbq4;clear hbq4
    by_cases c5:bq4=true
    ·subst c5;rw[if_pos rfl] at H;have H':=zA H;clear H;have aE:0≤(aA:Int):=zd;have aD:aA<(l0.length:Int):=zd;obtain⟨aK,aI,aG⟩:=Kd.at_bool aQ.out aA aE aD;(try rw[←Nbq4.out] at aG);cases aI;replace aE:=eq_true aE;replace aD:=eq_true aD;go_wp2
     go_roundg k1
     case measure=>have:=HK1.out;omega
     case rel=>exact⟨(wrap64 (aC+1)),(wrap64 (aA+1)),zr,zr,H',⟨by have:=HK1.out;omega⟩,by repeat (first|exact Drawn0.refl _|apply Drawn0.step)⟩
    ·replace c5:=Bool.eq_false_iff.mpr c5;subst c5;rw[if_neg zNo] at H;have H':=zA H;clear H;have aE:0≤(aA:Int):=zd;have aD:aA<(l0.length:Int):=zd;obtain⟨aK,aI,aG⟩:=Kd.at_bool aQ.out aA aE aD;(try rw[←Nbq4.out] at aG);cases aI;replace aE:=eq_true aE;replace aD:=eq_true aD;go_wp2
     go_roundg k1
     case measure=>have:=HK1.out;omega
     case rel=>exact⟨(aC),(wrap64 (aA+1)),zr,zr,H',⟨by have:=HK1.out;omega⟩,by repeat (first|exact Drawn0.refl _|apply Drawn0.step)⟩
   ·rw[if_neg c2] at H;have aT:=decide_eq_false c2;clear c2;obtain rfl:=zI H;go_wp2;go_ret;exact⟨by first|rfl|(simp;done)|(simp[*];done),by repeat (first|exact Drawn0.refl _|apply Drawn0.step)⟩

def spec_Max.f (a0:Int) (a1:Int):Option (Int):=if a1>a0 then(some a1) else(some a0)
theorem spec_Max.calls (a0:Int) (a1:Int) (r:Int) (w:World) (h:spec_Max.f a0 a1=some r) :
  Calls Try.prog 75 #[.int .i64 a0,.int .i64 a1] w fun e w'=>e=.returned (.int .i64 r)∧Drawn0 w w':=by
 have H:=h;clear h;unfold spec_Max.f at H
 by_cases c3:a1>a0
 ·rw[if_pos c3] at H;have aD:decide (a0<a1)=true:=decide_eq_true c3;clear c3;obtain rfl:=zI H;go_enter Try.func75,Try.ntmps75;go_wp2;go_ret;exact⟨by first|rfl|(simp;done)|(simp[*];done),by repeat (first|exact Drawn0.refl _|apply Drawn0.step)⟩
 ·rw[if_neg c3] at H;have aD:decide (a0<a1)=false:=decide_eq_false c3;clear c3;obtain rfl:=zI H;go_enter Try.func75,Try.ntmps75;go_wp2;go_ret;exact⟨by first|rfl|(simp;done)|(simp[*];done),by repeat (first|exact Drawn0.refl _|apply Drawn0.step)⟩

def spec_MayStorm.f (k:Nat) (a0_0:Int) (a0_1:Int) (l1:List Bool):Option (Bool):=(spec_IsRule.f a0_0 a0_1).bind fun t244=>(if t244=true then((spec_Max.f 0 (wrap64 ((wrap64 ((l1.length:Int)+1))-a0_1))).bind fun t245=>(if 0≤t245 then(if t245≤(l1.length:Int) then((spec_CountStorms.f k (l1.drop (t245:Int).toNat)).bind fun t247=>(some (decide (t247<a0_0)))) else(none)) else(none))) else(some false))
def spec_MayStorm.T1:Bool × List (List Nat × List Nat):=(true,[([],[]),([0],[0]),([1,1],[1]),([2],[2]),([2],[2]),([4,2],[2,4]),([5,2],[2,5]),([2],[2]),([7,2],[2,7]),([6,8,2],[2,6,8]),([9,2,2],[2,9]),([3,10,2],[2,3,10]),([11,10,2],[2,11]),([2],[2]),([13,2],[2,13]),([12,14,2],[2,12,14]),([2,15],[2,15]),([16,12,0,1,2,3,4,5,6,7,8,9,10,11,12,13,14,15,16],[16])])
def spec_MayStorm.B1:List Nat:=[0,1,3,7,7,23,55,7,135,503,1015,2047,4095,7,8199,32767,65535,131071]
theorem spec_MayStorm.tab1:rtab .any (opsOf Try.f68 1)=spec_MayStorm.T1:=by kernel_rfl
theorem spec_MayStorm.bits1:waitsOk spec_MayStorm.T1.2 spec_MayStorm.B1=true:=by kernel_rfl
theorem spec_MayStorm.calls (k:Nat) (aD:Int) (aC:Int) (A1:Option Addr) (c1:Nat) (l1:List Bool) (r:Bool) (w:World) (aQ:Kd.C Kd.bool w A1 l1.length l1) (aT:l1.length≤c1) (h:spec_MayStorm.f k aD aC l1=some r) :
  Calls Try.prog 68 #[.agg #[.int .i64 aD,.int .i64 aC],.slice A1 l1.length c1] w fun e w'=>e=.returned (.bool r)∧Below w.heap.size w w':=by
 have hu28:=Try.underlying28;have bA:=zA aQ;have bB:=zA aT;clear aQ aT;have HB:=zA (Below.refl w.heap.size w);have H:=h;clear h;unfold spec_MayStorm.f at H;obtain⟨aV,A3,H⟩:=zB H
 by_cases c4:aV=true
 ·subst c4;rw[if_pos rfl] at H;obtain⟨aE,A5,H⟩:=zB H;obtain⟨c6,H⟩:=zif H;have bI:=eq_true c6;have bH:=decide_eq_true c6;clear c6;obtain⟨c7,H⟩:=zif H;have bG:=eq_true c7;have bF:=decide_eq_true c7;clear c7;obtain⟨aU,A8,H⟩:=zB H;obtain rfl:=zI H;go_enter Try.func68,Try.ntmps68
  try go_wp2_with (first|((with_reducible refine zgd 2 rfl ?_);(try (refine gate_guard (by rfl) ?_;dsimp only));refine zbx 2 #[.int .i64 aD,.int .i64 aC] 28 ?_;intro aG hg w9 hbox hb;have aA:=zA hbox;have aN:=zga (w:=w) hg;replace HB:=zbs hb;clear hb hbox hg))
  replace aA:=zA (blk_drew aA.out);replace HB:=zA (below_drew1 HB.out);refine start_ (n:=18) (S:=fun w'=>w'.cell? ⟨aG,0,none⟩=some (.int .i64 aD)∧w'.cell? ⟨aG,1,none⟩=some (.int .i64 aC)) (ds:=[]) _ (by kernel_rfl) rfl rfl ⟨zq aA 0,zq aA 1⟩ (fun hHeld=>?_);refine with_tabW spec_MayStorm.tab1 spec_MayStorm.bits1 (fun HT_ HW_=>?_);generalize w9.drew=bO at aA HB hHeld ⊢;refine zt 0 5 HT_ HW_ hHeld ?_;refine zo 1 6 HT_ (fun K hK=>?_);refine zgo Try.func73 #[.agg #[.int .i64 aD,.int .i64 aC]] ?_
  with_reducible refine(spec_IsRule.calls aD aC true _ A3.out).mono ?_
  rintro e bN ⟨rfl,hb⟩;refine⟨_,rfl,?_⟩;replace aA:=zkb aA hb;replace HB:=zbs hb;(try clear hb);refine hK.out _ _ ⟨zq aA 0,zq aA 1⟩ (fun hHeld=>?_);clear hK K;refine norm_ zV ?_;refine z_p 2 ?_;refine z_p 3 ?_;refine z_p 4 ?_;refine z_p 5 ?_;refine z_p 6 ?_;refine z_p 7 ?_;refine z_p 13 ?_;refine zt 8 13 HT_ HW_ hHeld ?_;refine z_p 9 ?_;refine zt 14 19 HT_ HW_ hHeld ?_;refine zo 10 15 HT_ (fun K hK=>?_);refine zgo Try.func75 #[.int .i64 0,.int .i64 (wrap64 ((wrap64 ((l1.length:Int)+1))-aC))] ?_
  with_reducible refine(spec_Max.calls 0 (wrap64 ((wrap64 ((l1.length:Int)+1))-aC)) aE _ A5.out).mono ?_
  rintro e w' ⟨rfl,⟨nd,rfl⟩⟩;refine⟨_,rfl,?_⟩;obtain⟨i012,hi012,_,hsz12,_⟩:=info_parts info4;obtain⟨bD,hcut12,hA12,hC12⟩:=print_drop_of (P:=Try.prog) Value.bool false 31 4 .i64 Try.underlying31 hi012 hsz12 A1 c1 l1 aE zd zd bB.out;have aK:=zA (Kd.C_of_reads (h1:=fun _=>rfl) (hA12 _ (Kd.reads_of_C bA.out)));have aM:=zA hC12;clear hA12 hC12 hi012 hsz12;refine hK.out _ _ ⟨zq aA 0,zq aA 1⟩ (fun hHeld=>?_);clear hK K;refine norm_ zV ?_;refine z_p 11 ?_;refine zo 12 17 HT_ (fun K hK=>?_);refine goes_ Try.func74 (by kernel_rfl) rfl #[.slice bD (l1.drop (aE:Int).toNat).length (c1-aE.toNat)] (by rfl) rfl rfl (by(try simp only[List.map_toArray,List.map_cons,List.map_nil]);first|done|(rw[show (l1.drop (aE:Int).toNat).length=(l1.length-aE.toNat) from List.length_drop] <;> rfl)|rfl|(simp only[List.length_drop,List.length_take];rfl)) ?_
  with_reducible refine(spec_CountStorms.calls k _ _ (l1.drop (aE:Int).toNat) aU _ ?s1 ?s2 A8.out).mono ?_
  (case s1=>exact zCb aK);(case s2=>exact aM.out);rintro e w' ⟨rfl,⟨nd,rfl⟩⟩;refine⟨_,rfl,?_⟩;refine hK.out _ _ ⟨zq aA 0,zq aA 1⟩ (fun hHeld=>?_);clear hK K;refine norm_ zV ?_;refine z_p 15 ?_;refine z_p 16 ?_;refine z_p 17 ?_;refine done_ (done_of HT_.out (by kernel_rfl)) ?_
  try go_wp2
  go_ret;exact⟨zE,zb⟩
 ·replace c4:=Bool.eq_false_iff.mpr c4;subst c4;rw[if_neg zNo] at H;obtain rfl:=zI H;go_enter Try.func68,Try.ntmps68
  try go_wp2_with (first|((with_reducible refine zgd 2 rfl ?_);(try (refine gate_guard (by rfl) ?_;dsimp only));refine zbx 2 #[.int .i64 aD,.int .i64 aC] 28 ?_;intro aG hg aZ hbox hb;have aA:=zA hbox;have aN:=zga (w:=w) hg;replace HB:=zbs hb;clear hb hbox hg))
  replace aA:=zA (blk_drew aA.out);replace HB:=zA (below_drew1 HB.out);refine start_ (n:=18) (S:=fun w'=>w'.cell? ⟨aG,0,none⟩=some (.int .i64 aD)∧w'.cell? ⟨aG,1,none⟩=some (.int .i64 aC)) (ds:=[]) _ (by kernel_rfl) rfl rfl ⟨zq aA 0,zq aA 1⟩ (fun hHeld=>?_);refine with_tabW spec_MayStorm.tab1 spec_MayStorm.bits1 (fun HT_ HW_=>?_);generalize aZ.drew=bM at aA HB hHeld ⊢;refine zt 0 5 HT_ HW_ hHeld ?_;refine zo 1 6 HT_ (fun K hK=>?_);refine zgo Try.func73 #[.agg #[.int .i64 aD,.int .i64 aC]] ?_
  with_reducible refine(spec_IsRule.calls aD aC false _ A3.out).mono ?_
  rintro e bL ⟨rfl,hb⟩;refine⟨_,rfl,?_⟩;replace aA:=zkb aA hb;replace HB:=zbs hb;(try clear hb);refine hK.out _ _ ⟨zq aA 0,zq aA 1⟩ (fun hHeld=>?_);clear hK K;refine norm_ zV ?_;refine z_p 2 ?_;refine z_u 3 ?_;refine z_u 4 ?_;refine z_u 5 ?_;refine z_u 6 ?_;refine z_u 7 ?_;refine z_u 8 ?_;refine z_u 9 ?_;refine z_u 10 ?_;refine z_u 11 ?_;refine z_u 12 ?_;refine z_u 13 ?_;refine z_u 14 ?_;refine z_u 15 ?_;refine z_p 16 ?_;refine z_p 17 ?_;refine done_ (done_of HT_.out (by kernel_rfl)) ?_
  try go_wp2
  go_ret;exact⟨zE,zb⟩

def spec_l6Past.l0:Nat→Int→List Bool→Int→List Int→Int→Int→Int→Int→Option (List Bool × Int × Int)
  |0,_,_,_,_,_,_,_,_=>none
  |k+1,x2,x7,x8,x1000,x1001,x1002,x249000,x249001=>if x8<x2 then((spec_MayStorm.f k x249000 x249001 x7).bind fun t252=>(if t252=true then((spec_l1Once.f x1000 x1001 x1002 2).bind fun bt253=>(if x7.length<140737488355328 then(spec_l6Past.l0 k x2 (x7++[bt253.1]) (wrap64 (x8+1)) x1000 bt253.2.1 bt253.2.2 x249000 x249001) else(none))) else(if x7.length<140737488355328 then(spec_l6Past.l0 k x2 (x7++[false]) (wrap64 (x8+1)) x1000 x1001 x1002 x249000 x249001) else(none)))) else(some (x7,x1001,x1002))
def spec_l6Past.f (k:Nat) (s0_0:List Int) (s0_1:Int) (s0_2:Int) (a1_0:Int) (a1_1:Int) (a2:Int):Option (List Bool × Int × Int):=spec_l6Past.l0 k a2 (([]:List Bool)) 0 s0_0 s0_1 s0_2 a1_0 a1_1
theorem spec_l6Past.calls (k:Nat) (g:Nat) (s0_0:List Int) (s0_1:Int) (s0_2:Int) (aK:Int) (aJ:Int) (a2:Int) (r1:List Bool) (r2:Int) (r3:Int) (w0 w:World) (hI:IsS86 w0 w g s0_0 s0_1 s0_2) (hB:Below w0.heap.size w0 w) (h:spec_l6Past.f k s0_0 s0_1 s0_2 aK aJ a2=some (r1,r2,r3)) :
  Calls Try.prog 58 #[.pointer (some ⟨g,0,none⟩),.agg #[.int .i64 aK,.int .i64 aJ],.int .i64 a2] w fun e w'=>∃ v0_:Value,e=.returned (v0_)∧Kd.R Kd.bool 4 w' w.heap.size (fun _=>True) v0_ r1∧IsS86 w0 w' g s0_0 r2 r3∧Below w0.heap.size w0 w'∧KeepBut w w' g none:=by
 have hu28:=Try.underlying28;have HI0:=zA hI;have HK:=zA (KeepBut.refl w g none);have HL:=zA hB.size;clear hI;have HW0:=zA hB.size;have HB:=zA hB;clear hB;have H:=h;clear h;unfold spec_l6Past.f at H;obtain⟨bD,aX⟩:∃ y_:List Bool,y_=(([]:List Bool)):=⟨_,rfl⟩
 replace H:(spec_l6Past.l0 k a2 bD 0 s0_0 s0_1 s0_2 aK aJ)=some (r1,r2,r3):=zY aX H
 have Ny249:=zA aX;clear aX;have H':=zA H;clear H;go_enter Try.func58,Try.ntmps58
 go_wp2_with (first|((with_reducible refine zgd 4 rfl ?_);refine zbx 4 #[.int .i64 aK,.int .i64 aJ] 28 ?_;intro aN hg w4 hbox hb;replace HB:=zA (below_step zB0 hb);have aA:=zA hbox;have aE:=zA ((by rw[hg];exact(keep_size (w:=w) (g:=g) (row:=none) zK0):w.heap.size≤aN));have aM:=zA ((Nat.le_trans HW0.out (by rw[hg];exact(keep_size (w:=w) (g:=g) (row:=none) zK0):w.heap.size≤aN):w0.heap.size≤aN));replace HK:=zA (KeepBut.trans zK0 (KeepBut.of_below hb g none) (.inl rfl));have aC:=zA ((by rw[hg];exact Nat.ne_of_lt (IsS86.lt (show IsS86 w0 _ g s0_0 s0_1 s0_2 from zI0)):g≠aN));have aT:=zA ((by rw[hg];exact Nat.ne_of_gt (IsS86.lt (show IsS86 w0 _ g s0_0 s0_1 s0_2 from zI0)):aN≠g));replace HI0:=zA (IsS86.below zI0 hb);clear hb hbox hg)|((with_reducible refine zgd 9 rfl ?_);refine Kd.R_lit Kd.bool _ 4 ?hg (N:=9) ?hd (xs:=([]:List Bool)) (inner:=[]) (ok:=fun _=>True) (okp:=fun _=>True) ?hr ?hp (fun _ hk=>hk) trivial (Below.refl _ _) (Nat.le_refl _) (by simp) ?_;(case hd=>rfl);(case hg=>rfl);(case hr=>first|(go_simp;done)|(go_simp;rfl));(case hp=>exact(Reps.none _ _));intro v250 w5 ho6 hb hg_ hnew_;clear hg_ hnew_;(first|rw[←Ny249.out] at ho6|(simp only[Int.reduceToNat] at ho6;rw[←Ny249.out] at ho6));have bN:=zA (Kd.R_lower ho6 (keep_size (w:=w) (g:=g) (row:=none) zK0));replace aA:=zkb aA hb;replace HK:=zA (KeepBut.trans zK0 (KeepBut.of_below hb g none) (.inl rfl));replace HB:=zA (below_step zB0 hb);replace HI0:=zA (IsS86.below zI0 hb);clear hb ho6))
 go_loopg [7,8] k (fun kq v7 v8 w'=>∃ (aG:List Bool) (aQ:Int) (aI:Int) (aH:Int),v8=.int .i64 aQ∧Aside0 (spec_l6Past.l0 kq a2 aG aQ s0_0 aI aH aK aJ=some (r1,r2,r3))∧Aside0 (kq≤k)∧Aside0 (Kd.R Kd.bool 4 w' w.heap.size (fun _=>True) v7 aG)∧Aside0 (w'.heap[aN]?=some (.cells #[.int .i64 aK,.int .i64 aJ] 28 (0,0)))∧Aside0 (IsS86 w0 w' g s0_0 aI aH)∧Aside0 (KeepBut w w' g none)∧Aside0 (Below w0.heap.size w0 w'))
 case atStart=>exact⟨(bD),(0),(s0_1),(s0_2),zr,H',⟨Nat.le_refl _⟩,⟨zR bN⟩,⟨zk aA⟩,⟨zI0⟩,⟨zK0⟩,⟨zB0⟩⟩
 case round =>
  clear H';obtain⟨aG,aQ,aI,aH,rfl,HA,HK1,aD,aA,HI0,HK,HB⟩:=hrel
  cases gk with
  |zero=>exact absurd HA.out (by simp[spec_l6Past.l0])
  |succ k1 =>
   have H:=HA.out;clear HA;simp only[spec_l6Past.l0] at H
   by_cases c7:aQ<a2
   ·rw[if_pos c7] at H;have bR:=decide_eq_true c7;clear c7;obtain⟨bO,A8,H⟩:=zB H
    by_cases c9:bO=true
    ·subst c9;rw[if_pos rfl] at H;obtain⟨⟨aU,aZ,aY⟩,cB,H⟩:=zB H;obtain⟨bK,H⟩:=zifA H;obtain⟨bC,aW⟩:∃ y_:List Bool,y_=(aG++[aU]):=⟨_,rfl⟩
     replace H:(spec_l6Past.l0 k1 a2 bC (wrap64 (aQ+1)) s0_0 aZ aY aK aJ)=some (r1,r2,r3):=zY aW H
     have Ny256:=zA aW;clear aW;have H':=zA H;clear H;have cF:=aT.out;have cD:=aC.out;obtain⟨bZ,bY,bV,bU⟩:=ze2 aA;obtain⟨bH,bF,bQ⟩:=Kd.R_slice aD.out;subst bQ
     go_wp2_with (first|((with_reducible refine zgf 68 rfl ?_);refine zgl 18 Try.func68 #[.agg #[.int .i64 aK,.int .i64 aJ],.slice bH aG.length bF] ?_;(with_reducible refine(spec_MayStorm.calls k1 aK aJ _ _ aG true _ ?s1 ?s2 A8.out).mono ?_);(case s1=>exact zCx (Kd.R_reads' aD.out).2.2);(case s2=>exact(Kd.R_reads' aD.out).2.1);rintro e cK ⟨rfl,hb⟩;refine⟨_,rfl,?_⟩;replace aD:=zRb aD hb;replace aA:=zkb aA hb;replace HK:=zA (KeepBut.trans zK0 (KeepBut.of_below hb g none) (.inl rfl));replace HB:=zA (below_step zB0 hb);replace HI0:=zA (IsS86.below zI0 hb);(try clear hb))|(go_at_call 20;(with_reducible refine(spec_l1Once.calls g s0_0 aI aH 2 aU aZ aY w0 _ ?s1 ?s2 cB.out).mono ?_);(case s1=>exact zI0);(case s2=>exact zB0);rintro e cJ ⟨rfl,hi,hb,hk⟩;replace aD:=zA (Kd.R_mono (Kd.R_keep (IsS86.apart (show IsS86 w0 _ g s0_0 aI aH from zI0) (zR aD) (by decide)) hk (fun _ h=>h.2)) (fun _ h=>h.1));replace aA:=zkB hk aA aT;replace HK:=zA (KeepBut.trans zK0 hk (.inl rfl));replace HB:=zA hb;replace HI0:=zA (hi);(try clear hb))|((with_reducible refine gate_builtin (b:=.append) (xs:=#[.tmp 15,.tmp 23]) rfl ?_);at_builtin;refine Kd.R_append Kd.bool w.heap.size rfl (.tmp 15) (.tmp 23) 31 4 (.bool false) 1 rfl Try.underlying31 info4 rfl (by decide) (by omega) (.slice bH aG.length bF) aG aU [.bool aU] (fun _=>True) (fun _=>False) rfl rfl ?aP (fun _ hk=>hk.elim) ?aF ?aO (Below.refl _ _) ?aS ?aL ?_;(case aP=>exact rfl);(case aF=>exact(fun _ _=>trivial));(case aO=>exact(zR aD));(case aS=>exact(keep_size (w:=w) (g:=g) (row:=none) zK0));(case aL=>have:=bK.out;omega);intro v257 cI ho hb hg hat;rw[←Ny256.out] at ho;replace aA:=zgr aA hg (Kd.R_ne aD.out aA.out (by decide));replace HB:=zA (below_weaken zB0 HL.out hb);replace HI0:=zA (IsS86.grown zI0 hg (IsS86.own_ne HI0.out aD.out (by decide)));replace HK:=zA (KeepBut.trans zK0 (KeepBut.of_grown hg g) (Kd.R_base2 aD.out));have bM:=zA ho;clear aD;clear ho hb hg hat))
     go_roundg k1
     case measure=>have:=HK1.out;omega
     case rel=>exact⟨(bC),(wrap64 (aQ+1)),(aZ),(aY),zr,H',⟨by have:=HK1.out;omega⟩,⟨zR bM⟩,⟨zk aA⟩,⟨zI0⟩,⟨zK0⟩,⟨zB0⟩⟩
    ·replace c9:=Bool.eq_false_iff.mpr c9;subst c9;rw[if_neg zNo] at H;obtain⟨bJ,H⟩:=zifA H;obtain⟨bB,aV⟩:∃ y_:List Bool,y_=(aG++[false]):=⟨_,rfl⟩
     replace H:(spec_l6Past.l0 k1 a2 bB (wrap64 (aQ+1)) s0_0 aI aH aK aJ)=some (r1,r2,r3):=zY aV H
     have Ny259:=zA aV;clear aV;have H':=zA H;clear H;have cE:=aT.out;have cC:=aC.out;obtain⟨bX,bW,bT,bS⟩:=ze2 aA;obtain⟨bG,bE,bP⟩:=Kd.R_slice aD.out;subst bP
     go_wp2_with (first|((with_reducible refine zgf 68 rfl ?_);refine zgl 18 Try.func68 #[.agg #[.int .i64 aK,.int .i64 aJ],.slice bG aG.length bE] ?_;(with_reducible refine(spec_MayStorm.calls k1 aK aJ _ _ aG false _ ?s1 ?s2 A8.out).mono ?_);(case s1=>exact zCx (Kd.R_reads' aD.out).2.2);(case s2=>exact(Kd.R_reads' aD.out).2.1);rintro e cH ⟨rfl,hb⟩;refine⟨_,rfl,?_⟩;replace aD:=zRb aD hb;replace aA:=zkb aA hb;replace HK:=zA (KeepBut.trans zK0 (KeepBut.of_below hb g none) (.inl rfl));replace HB:=zA (below_step zB0 hb);replace HI0:=zA (IsS86.below zI0 hb);(try clear hb))|((with_reducible refine gate_builtin (b:=.append) (xs:=#[.tmp 15,.tmp 23]) rfl ?_);at_builtin;refine Kd.R_append Kd.bool w.heap.size rfl (.tmp 15) (.tmp 23) 31 4 (.bool false) 1 rfl Try.underlying31 info4 rfl (by decide) (by omega) (.slice bG aG.length bE) aG false [.bool false] (fun _=>True) (fun _=>False) rfl rfl ?aP (fun _ hk=>hk.elim) ?aF ?aO (Below.refl _ _) ?aS ?aL ?_;(case aP=>exact rfl);(case aF=>exact(fun _ _=>trivial));(case aO=>exact(zR aD));(case aS=>exact(keep_size (w:=w) (g:=g) (row:=none) zK0));(case aL=>have:=bJ.out;omega);intro v260 cG ho hb hg hat;rw[←Ny259.out] at ho;replace aA:=zgr aA hg (Kd.R_ne aD.out aA.out (by decide));replace HB:=zA (below_weaken zB0 HL.out hb);replace HI0:=zA (IsS86.grown zI0 hg (IsS86.own_ne HI0.out aD.out (by decide)));replace HK:=zA (KeepBut.trans zK0 (KeepBut.of_grown hg g) (Kd.R_base2 aD.out));have bL:=zA ho;clear aD;clear ho hb hg hat))
     go_roundg k1
     case measure=>have:=HK1.out;omega
     case rel=>exact⟨(bB),(wrap64 (aQ+1)),(aI),(aH),zr,H',⟨by have:=HK1.out;omega⟩,⟨zR bL⟩,⟨zk aA⟩,⟨zI0⟩,⟨zK0⟩,⟨zB0⟩⟩
   ·rw[if_neg c7] at H;have bR:=decide_eq_false c7;clear c7;simp only[Option.some.injEq,Prod.mk.injEq] at H;obtain⟨rfl,rfl,rfl⟩:=H;go_wp2;go_ret;exact⟨_,zE,zR aD,zI0,zB0,zK0⟩
end Go.Proofs.Ytdnbfegkplpngaa.Q
