/- Walks of 6 functions of the program: each comes to what a plain function tells. -/
import Derived.Test.YteiepphhkikmoaaG0
import Derived.Test.YteiepphhkikmoaaG1
import Derived.Test.YteiepphhkikmoaaG2
import Derived.Test.YteiepphhkikmoaaG3
import Derived.Test.YteiepphhkikmoaaG4
namespace Go.Proofs.Yteiepphhkikmoaa.Q
open Go.RowKit Go.Proofs.YteiepphhkikmoaaW.PrintWords Go.Proofs.YteiepphhkikmoaaW.PrintLast Go.Proofs.YteiepphhkikmoaaW.PrintMore Go.Proofs.YteiepphhkikmoaaW.Zip
attribute [local go_sem] max2_int min2_int max_two min_two max_three min_three max_four min_four   -- for this text's walks alone
set_option linter.unusedVariables false
set_option maxHeartbeats 8000000
set_option maxRecDepth 100000
set_option linter.unusedSimpArgs false

theorem zgenC {P : Program} {C : Code} {Q : Exit → Act → World → Prop} {a : Act} {W : World} (Φ : World → Prop) (h : Φ W) (k : ∀ w, Φ w → C.wp P Q a w) : C.wp P Q a W := k W h
theorem with_tab {P : Program} {Q : Exit → Act → World → Prop} {S : World → Prop} {n : Nat} {a : Act} {w : World} {md : Region.Mode} {ops : Array Oper} {ds : List Nat} {l : Array Bool} {T : Bool × List (List Nat × List Nat)} (hT : rtab md ops = T) (h : Aside0 (rtab md ops = T) → wpAnyLast P md ops Q S ds n l a w) : wpAnyLast P md ops Q S ds n l a w := h ⟨hT⟩
mutual
def spec_l8Set.l0:Nat→List (S85)→Int→Int→List (S85)→Bool→Int→Option ((List (S85)))
  |0,_,_,_,_,_,_=>none
  |k+1,x0,x1,x2,x7,x8,x9=>if x9<(x0.length:Int) then(if x8=true then(spec_l8Set.j1 k x0 x1 x2 x7 x8 x9 false) else(if 0≤x9 then(spec_l8Set.j1 k x0 x1 x2 x7 x8 x9 (decide (((rd_T85 x0 x9).f0)≥x1))) else(none))) else(if x8=true then(some x7) else(if x7.length<8796093022208 then(some (x7++[(⟨x1,x2⟩:S85)])) else(none)))
def spec_l8Set.j1:Nat→List (S85)→Int→Int→List (S85)→Bool→Int→Bool→Option ((List (S85)))
  |0,_,_,_,_,_,_,_=>none
  |k+1,x0,x1,x2,x7,x8,x9,x29=>if x29=true then(if x7.length<8796093022208 then((some (x7++[(⟨x1,x2⟩:S85)]:List (S85))).bind fun y1784=>(if 0≤x9 then(if x9<(x0.length:Int) then(if ((rd_T85 x0 x9).f0)=x1 then(spec_l8Set.l0 k x0 x1 x2 y1784 true (wrap64 (x9+1))) else(if y1784.length<8796093022208 then(spec_l8Set.l0 k x0 x1 x2 (y1784++[(⟨(rd_T85 x0 x9).f0,(rd_T85 x0 x9).f1⟩:S85)]) true (wrap64 (x9+1))) else(none))) else(none)) else(none))) else(none)) else(if 0≤x9 then(if x9<(x0.length:Int) then(if ((rd_T85 x0 x9).f0)=x1 then(spec_l8Set.l0 k x0 x1 x2 x7 x8 (wrap64 (x9+1))) else(if x7.length<8796093022208 then(spec_l8Set.l0 k x0 x1 x2 (x7++[(⟨(rd_T85 x0 x9).f0,(rd_T85 x0 x9).f1⟩:S85)]) x8 (wrap64 (x9+1))) else(none))) else(none)) else(none))
end
def spec_l8Set.f (k:Nat) (l0:List (S85)) (a1:Int) (a2:Int):Option ((List (S85))):=spec_l8Set.l0 k l0 a1 a2 (([]:List (S85))) (a2==0) 0
theorem spec_l8Set.calls (k:Nat) (A0:Option Addr) (c0:Nat) (l0:List (S85)) (a1:Int) (a2:Int) (r:List (S85)) (w:World) (cS:Kd.C k85 w A0 l0.length l0) (cT:l0.length≤c0) (h:spec_l8Set.f k l0 a1 a2=some r) :
  Calls Try.prog 131 #[.slice A0 l0.length c0,.int .i64 a1,.int .i64 a2] w fun e w'=>∃ v0_:Value,e=.returned (v0_)∧Kd.R k85 85 w' w.heap.size (fun _=>True) v0_ r∧Below w.heap.size w w':=by
 have hu85:=Try.underlying85;have bG:=zA cS;have dK:=zA cT;clear cS cT;have HB:=zA (Below.refl w.heap.size w);have H:=h;clear h;unfold spec_l8Set.f at H;obtain⟨bO,bB⟩:∃ y_:List (S85),y_=(([]:List (S85))):=⟨_,rfl⟩
 replace H:(spec_l8Set.l0 k l0 a1 a2 bO (a2==0) 0)=some r:=zY bB H
 have Ny1777:=zA bB;clear bB;have H':=zA H;clear H;go_enter Try.func131,Try.ntmps131
 go_wp2_with (first|((with_reducible refine zgd 10 rfl ?_);refine Kd.R_lit k85 _ 85 ?hg (N:=10) ?hd (xs:=([]:List (S85))) (inner:=[]) (ok:=fun _=>True) (okp:=fun _=>True) ?hr ?hp (fun _ hk=>hk) trivial (Below.refl _ _) (Nat.le_refl _) (by simp) ?_;(case hd=>rfl);(case hg=>rfl);(case hr=>first|(go_simp;done)|(go_simp;rfl));(case hp=>exact(Reps.none _ _));intro v1778 w4 ho5 hb hg_ hnew_;clear hg_ hnew_;(first|rw[←Ny1777.out] at ho5|(simp only[Int.reduceToNat] at ho5;rw[←Ny1777.out] at ho5));have bZ:=zA (Kd.R_lower ho5 (below_size zb));replace HB:=zbs hb;clear hb ho5))
 go_loopg [7,8,9] k (fun kq v7 v8 v9 w'=>∃ (aE:List (S85)) (aN:Bool) (aA:Int),v8=.bool aN∧v9=.int .i64 aA∧Aside0 (spec_l8Set.l0 kq l0 a1 a2 aE aN aA=some r)∧Aside0 (kq≤k)∧Aside0 (Kd.R k85 85 w' w.heap.size (fun _=>True) v7 aE)∧Aside0 (Below w.heap.size w w'))
 case atStart=>exact⟨(bO),((a2==0)),(0),zr,zr,H',⟨Nat.le_refl _⟩,⟨zR bZ⟩,⟨zb⟩⟩
 case round =>
  clear H';obtain⟨aE,aN,aA,rfl,rfl,HA,HK1,aG,HB⟩:=hrel
  cases gk with
  |zero=>exact absurd HA.out (by simp[spec_l8Set.l0])
  |succ k1 =>
   have H:=HA.out;clear HA;simp only[spec_l8Set.l0] at H
   by_cases c6:aA<(l0.length:Int)
   ·rw[if_pos c6] at H;have bT:=decide_eq_true c6;clear c6;have cA:=zA H;clear H
    go_upto_region 6 with (fail)
    go_cut [29] (fun v29 wc=>∃ (kq:Nat) (aW:Bool),v29=.bool aW∧Aside0 (spec_l8Set.j1 kq l0 a1 a2 aE aN aA aW=some r)∧Aside0 (kq≤k1)∧Aside0 (Kd.R k85 85 wc w.heap.size (fun _=>True) u7 aE)∧Aside0 (Below w.heap.size w wc))
    case first =>
     have H:=cA.out;clear cA
     by_cases c8:aN=true
     ·subst c8;rw[if_pos rfl] at H;have H':=zA H;clear H;go_wp2
      go_meet
      case rel=>exact⟨_,(false),zr,H',⟨by have:=HK1.out;first|omega|exact Nat.le_refl _⟩,⟨zR aG⟩,⟨zb⟩⟩
     ·replace c8:=Bool.eq_false_iff.mpr c8;subst c8;rw[if_neg zNo] at H;obtain⟨bL,H⟩:=zifD H;(first|rw[bL]|(simp only[i64_w,i32_w];rw[bL])|skip);have H':=zA H;clear H;have cH:=zT (0≤(aA:Int));have cE:=zT (aA<(l0.length:Int));obtain⟨cV,cK,aU,aT⟩:=at_T85 bG.out aA zd zd;cases cK;replace aU:=zC HB aU;replace aT:=zC HB aT;go_wp2
      go_meet
      case rel=>exact⟨_,(decide (((rd_T85 l0 aA).f0)≥a1)),zr,H',⟨by have:=HK1.out;first|omega|exact Nat.le_refl _⟩,⟨zR aG⟩,⟨zb⟩⟩
    case rest =>
     clear cA;(try clear c6);(try clear bT);(try clear c8);(try clear c9);(try clear bL);(try clear aU);(try clear aT);(try clear cH);(try clear cE);obtain⟨kq,aW,rfl,HA,HJ6,aG,HB⟩:=hcut;cases kq with
     |zero=>exact absurd HA.out (by simp[spec_l8Set.j1])
     |succ kj6 =>
      have H:=HA.out;clear HA;simp only[spec_l8Set.j1] at H
      by_cases bQ:aW=true
      ·subst bQ;rw[if_pos rfl] at H;obtain⟨bR,H⟩:=zifA H;obtain⟨aQ,aZ⟩:∃ y_:List (S85),y_=(aE++[(⟨a1,a2⟩:S85)]):=⟨_,rfl⟩
       replace H:(if 0≤aA then(if aA<(l0.length:Int) then(if ((rd_T85 l0 aA).f0)=a1 then(spec_l8Set.l0 kj6 l0 a1 a2 aQ true (wrap64 (aA+1))) else(if aQ.length<8796093022208 then(spec_l8Set.l0 kj6 l0 a1 a2 (aQ++[(⟨(rd_T85 l0 aA).f0,(rd_T85 l0 aA).f1⟩:S85)]) true (wrap64 (aA+1))) else(none))) else(none)) else(none))=some r:=zY aZ H
       have Ny1784:=zA aZ;clear aZ;obtain⟨dE,H⟩:=zifD H;obtain⟨dD,H⟩:=zifD H
       by_cases c14:((rd_T85 l0 aA).f0)=a1
       ·rw[if_pos c14] at H;have cO:(((rd_T85 l0 aA).f0)==a1)=true:=beq_iff_eq.mpr c14;have cN:(((rd_T85 l0 aA).f0) != a1)=false:=bne_eq_false_iff_eq.mpr c14;clear c14;have H':=zA H;clear H
        go_wp2_with (first|((with_reducible refine gate_builtin (b:=.append) (xs:=#[.tmp 30,.tmp 34]) rfl ?_);at_builtin;refine Kd.R_append k85 (w0:=w) w.heap.size rfl (.tmp 30) (.tmp 34) 39 85 (.agg #[(.int .i64 0),(.int .i64 0)]) 16 rfl Try.underlying39 info85 rfl (by decide) (by omega) u7 aE (⟨a1,a2⟩:S85) [.int .i64 a1,.int .i64 a2] (fun _=>True) (fun _=>False) rfl rfl ?aP (fun _ hk=>hk.elim) ?aF ?aO ?aB ?aS ?aL ?_;(case aP=>exact k85_mkM _ _ _ (⟨a1,a2⟩:S85));(case aB=>exact zb);(case aF=>exact(fun _ _=>trivial));(case aO=>exact(zR aG));(case aS=>exact(below_size zb));(case aL=>have:=bR.out;omega);intro v1785 dJ ho hb hg hat;rw[←Ny1784.out] at ho;replace HB:=zA hb;have aV:=zA ho;clear aG;clear ho hb hg hat;have cG:=zT (0≤(aA:Int));have cD:=zT (aA<(l0.length:Int));obtain⟨bK,bI,aK,aJ⟩:=at_T85 bG.out aA zd zd;cases bI;replace aK:=zC HB aK;replace aJ:=zC HB aJ))
        go_roundg kj6
        case measure=>have:=HK1.out;have:=HJ6.out;omega
        case rel=>exact⟨(aQ),(true),(wrap64 (aA+1)),zr,zr,H',⟨by have:=HK1.out;have:=HJ6.out;omega⟩,⟨zR aV⟩,⟨zb⟩⟩
       ·rw[if_neg c14] at H;have cO:(((rd_T85 l0 aA).f0)==a1)=false:=beq_eq_false_iff_ne.mpr c14;have cN:(((rd_T85 l0 aA).f0) != a1)=true:=bne_iff_ne.mpr c14;obtain⟨cR,H⟩:=zifA H;obtain⟨bN,aY⟩:∃ y_:List (S85),y_=(aQ++[(⟨(rd_T85 l0 aA).f0,(rd_T85 l0 aA).f1⟩:S85)]):=⟨_,rfl⟩
        replace H:(spec_l8Set.l0 kj6 l0 a1 a2 bN true (wrap64 (aA+1)))=some r:=zY aY H
        have Ny1789:=zA aY;clear aY;have H':=zA H;clear H
        go_wp2_with (first|((with_reducible refine gate_builtin (b:=.append) (xs:=#[.tmp 30,.tmp 34]) rfl ?_);at_builtin;refine Kd.R_append k85 (w0:=w) w.heap.size rfl (.tmp 30) (.tmp 34) 39 85 (.agg #[(.int .i64 0),(.int .i64 0)]) 16 rfl Try.underlying39 info85 rfl (by decide) (by omega) u7 aE (⟨a1,a2⟩:S85) [.int .i64 a1,.int .i64 a2] (fun _=>True) (fun _=>False) rfl rfl ?aP (fun _ hk=>hk.elim) ?aF ?aO ?aB ?aS ?aL ?_;(case aP=>exact k85_mkM _ _ _ (⟨a1,a2⟩:S85));(case aB=>exact zb);(case aF=>exact(fun _ _=>trivial));(case aO=>exact(zR aG));(case aS=>exact(below_size zb));(case aL=>have:=bR.out;omega);intro v1785 dI ho hb hg hat;rw[←Ny1784.out] at ho;replace HB:=zA hb;have aV:=zA ho;clear aG;clear ho hb hg hat;have cG:=zT (0≤(aA:Int));have cD:=zT (aA<(l0.length:Int));obtain⟨bK,bI,aK,aJ⟩:=at_T85 bG.out aA zd zd;cases bI;replace aK:=zC HB aK;replace aJ:=zC HB aJ;have dA:=zT (0≤(aA:Int));have cY:=zT (aA<(l0.length:Int));obtain⟨bV,cJ,bF,bE⟩:=at_T85 bG.out aA zd zd;obtain rfl:bK=bV:=(by injection cJ);replace bF:=zC HB bF;replace bE:=zC HB bE)|((with_reducible refine gate_builtin (b:=.append) (xs:=#[.tmp 43,.tmp 48]) rfl ?_);at_builtin;refine Kd.R_append k85 (w0:=w) w.heap.size rfl (.tmp 43) (.tmp 48) 39 85 (.agg #[(.int .i64 0),(.int .i64 0)]) 16 rfl Try.underlying39 info85 rfl (by decide) (by omega) v1785 aQ (⟨(rd_T85 l0 aA).f0,(rd_T85 l0 aA).f1⟩:S85) [.int .i64 ((rd_T85 l0 aA).f0),.int .i64 ((rd_T85 l0 aA).f1)] (fun _=>True) (fun _=>False) rfl rfl ?aP (fun _ hk=>hk.elim) ?aF ?aO ?aB ?aS ?aL ?_;(case aP=>exact k85_mkM _ _ _ (⟨(rd_T85 l0 aA).f0,(rd_T85 l0 aA).f1⟩:S85));(case aB=>exact zb);(case aF=>exact(fun _ _=>trivial));(case aO=>exact(zR aV));(case aS=>exact(below_size zb));(case aL=>have:=cR.out;omega);intro v1790 dH ho hb hg hat;rw[←Ny1789.out] at ho;replace HB:=zA hb;have bX:=zA ho;clear aV;clear ho hb hg hat))
        go_roundg kj6
        case measure=>have:=HK1.out;have:=HJ6.out;omega
        case rel=>exact⟨(bN),(true),(wrap64 (aA+1)),zr,zr,H',⟨by have:=HK1.out;have:=HJ6.out;omega⟩,⟨zR bX⟩,⟨zb⟩⟩
      ·replace bQ:=Bool.eq_false_iff.mpr bQ;subst bQ;rw[if_neg zNo] at H;obtain⟨dC,H⟩:=zifD H;obtain⟨dB,H⟩:=zifD H
       by_cases c21:((rd_T85 l0 aA).f0)=a1
       ·rw[if_pos c21] at H;have cM:(((rd_T85 l0 aA).f0)==a1)=true:=beq_iff_eq.mpr c21;have cL:(((rd_T85 l0 aA).f0) != a1)=false:=bne_eq_false_iff_eq.mpr c21;clear c21;have H':=zA H;clear H;have cF:=zT (0≤(aA:Int));have cC:=zT (aA<(l0.length:Int));obtain⟨bJ,bH,aI,aH⟩:=at_T85 bG.out aA zd zd;cases bH;replace aI:=zC HB aI;replace aH:=zC HB aH;go_wp2
        go_roundg kj6
        case measure=>have:=HK1.out;have:=HJ6.out;omega
        case rel=>exact⟨(aE),(aN),(wrap64 (aA+1)),zr,zr,H',⟨by have:=HK1.out;have:=HJ6.out;omega⟩,⟨zR aG⟩,⟨zb⟩⟩
       ·rw[if_neg c21] at H;have cM:(((rd_T85 l0 aA).f0)==a1)=false:=beq_eq_false_iff_ne.mpr c21;have cL:(((rd_T85 l0 aA).f0) != a1)=true:=bne_iff_ne.mpr c21;obtain⟨cQ,H⟩:=zifA H;obtain⟨bM,aX⟩:∃ y_:List (S85),y_=(aE++[(⟨(rd_T85 l0 aA).f0,(rd_T85 l0 aA).f1⟩:S85)]):=⟨_,rfl⟩
        replace H:(spec_l8Set.l0 kj6 l0 a1 a2 bM aN (wrap64 (aA+1)))=some r:=zY aX H
        have Ny1794:=zA aX;clear aX;have H':=zA H;clear H;have cF:=zT (0≤(aA:Int));have cC:=zT (aA<(l0.length:Int));obtain⟨bJ,bH,aI,aH⟩:=at_T85 bG.out aA zd zd;cases bH;replace aI:=zC HB aI;replace aH:=zC HB aH;have cZ:=zT (0≤(aA:Int));have cX:=zT (aA<(l0.length:Int));obtain⟨bU,cI,bD,bC⟩:=at_T85 bG.out aA zd zd;obtain rfl:bJ=bU:=(by injection cI);replace bD:=zC HB bD;replace bC:=zC HB bC
        go_wp2_with (first|((with_reducible refine gate_builtin (b:=.append) (xs:=#[.tmp 43,.tmp 48]) rfl ?_);at_builtin;refine Kd.R_append k85 (w0:=w) w.heap.size rfl (.tmp 43) (.tmp 48) 39 85 (.agg #[(.int .i64 0),(.int .i64 0)]) 16 rfl Try.underlying39 info85 rfl (by decide) (by omega) u7 aE (⟨(rd_T85 l0 aA).f0,(rd_T85 l0 aA).f1⟩:S85) [.int .i64 ((rd_T85 l0 aA).f0),.int .i64 ((rd_T85 l0 aA).f1)] (fun _=>True) (fun _=>False) rfl rfl ?aP (fun _ hk=>hk.elim) ?aF ?aO ?aB ?aS ?aL ?_;(case aP=>exact k85_mkM _ _ _ (⟨(rd_T85 l0 aA).f0,(rd_T85 l0 aA).f1⟩:S85));(case aB=>exact zb);(case aF=>exact(fun _ _=>trivial));(case aO=>exact(zR aG));(case aS=>exact(below_size zb));(case aL=>have:=cQ.out;omega);intro v1795 dG ho hb hg hat;rw[←Ny1794.out] at ho;replace HB:=zA hb;have bW:=zA ho;clear aG;clear ho hb hg hat))
        go_roundg kj6
        case measure=>have:=HK1.out;have:=HJ6.out;omega
        case rel=>exact⟨(bM),(aN),(wrap64 (aA+1)),zr,zr,H',⟨by have:=HK1.out;have:=HJ6.out;omega⟩,⟨zR bW⟩,⟨zb⟩⟩
   ·rw[if_neg c6] at H;have bT:=decide_eq_false c6;clear c6
    by_cases bP:aN=true
    ·subst bP;rw[if_pos rfl] at H;obtain rfl:=zI H;go_wp2;go_ret;exact⟨_,zE,zR aG,zb⟩
    ·replace bP:=Bool.eq_false_iff.mpr bP;subst bP;rw[if_neg zNo] at H;obtain⟨cP,H⟩:=zifA H;obtain⟨cB,bA⟩:∃ y_:List (S85),y_=(aE++[(⟨a1,a2⟩:S85)]):=⟨_,rfl⟩
     replace H:(some cB)=some r:=zY bA H
     have Ny1780:=zA bA;clear bA;obtain rfl:=zI H
     go_wp2_with (first|((with_reducible refine gate_builtin (b:=.append) (xs:=#[.tmp 52,.tmp 56]) rfl ?_);at_builtin;refine Kd.R_append k85 (w0:=w) w.heap.size rfl (.tmp 52) (.tmp 56) 39 85 (.agg #[(.int .i64 0),(.int .i64 0)]) 16 rfl Try.underlying39 info85 rfl (by decide) (by omega) u7 aE (⟨a1,a2⟩:S85) [.int .i64 a1,.int .i64 a2] (fun _=>True) (fun _=>False) rfl rfl ?aP (fun _ hk=>hk.elim) ?aF ?aO ?aB ?aS ?aL ?_;(case aP=>exact k85_mkM _ _ _ (⟨a1,a2⟩:S85));(case aB=>exact zb);(case aF=>exact(fun _ _=>trivial));(case aO=>exact(zR aG));(case aS=>exact(below_size zb));(case aL=>have:=cP.out;omega);intro v1781 dF ho hb hg hat;rw[←Ny1780.out] at ho;replace HB:=zA hb;have bY:=zA ho;clear aG;clear ho hb hg hat))
     go_ret;exact⟨_,zE,zR bY,zb⟩

def spec_Lay.j0:Nat→List (S85)→Int→Int→List (S85)→Bool→Int→Int→List Int→Option ((List (S85)) × Bool)
  |0,_,_,_,_,_,_,_,_=>none
  |k+1,x1,x2,x3,x10,x23,x1798000,x1798001,x1798002=>if x23=true then(some (x10,false)) else((spec_FoodAt.f k x1 x2).bind fun t1806=>((spec_l8Set.f k x1 x2 (wrap64 (t1806+x3))).bind fun t1807=>((spec_AreDepots.f k x1798000 x1798001 x1798002 t1807).bind fun t1810=>(if t1810=true then(some (t1807,true)) else(some (x10,false))))))
def spec_Lay.f (k:Nat) (a0_0:Int) (a0_1:Int) (l0_2:List Int) (l1:List (S85)) (a2:Int) (a3:Int):Option ((List (S85)) × Bool):=(some (([]:List (S85)):List (S85))).bind fun y1798=>(if y1798.length+l1.length<8796093022208 then((some (y1798++l1:List (S85))).bind fun y1801=>((spec_AreDepots.f k a0_0 a0_1 l0_2 l1).bind fun t1804=>(if t1804=true then((spec_l1In.f a3 1 10000).bind fun t1805=>(spec_Lay.j0 k l1 a2 a3 y1801 (!t1805) a0_0 a0_1 l0_2)) else(spec_Lay.j0 k l1 a2 a3 y1801 true a0_0 a0_1 l0_2)))) else(none))
theorem spec_Lay.calls (k:Nat) (aE:Int) (aD:Int) (aN:Option Addr) (aM:Nat) (aC:List Int) (A1:Option Addr) (c1:Nat) (l1:List (S85)) (a2:Int) (a3:Int) (r1:List (S85)) (r2:Bool) (w:World) (bK:Kd.C (Kd.int .i64) w aN aC.length aC) (bL:aC.length≤aM) (cD:Kd.C k85 w A1 l1.length l1) (cE:l1.length≤c1) (h:spec_Lay.f k aE aD aC l1 a2 a3=some (r1,r2)) :
  Calls Try.prog 94 #[.agg #[.int .i64 aE,.int .i64 aD,.slice aN aC.length aM],.slice A1 l1.length c1,.int .i64 a2,.int .i64 a3] w fun e w'=>∃ v0_:Value,e=.returned (.tuple #[v0_,.bool r2])∧Kd.R k85 85 w' w.heap.size (fun _=>True) v0_ r1∧Below w.heap.size w w':=by
 have hu37:=Try.underlying37;have bA:=zA bK;have bB:=zA bL;clear bK bL;have bE:=zA cD;have bG:=zA cE;clear cD cE;have HB:=zA (Below.refl w.heap.size w);have H:=h;clear h;unfold spec_Lay.f at H;obtain⟨aY,bD⟩:∃ y_:List (S85),y_=(([]:List (S85))):=⟨_,rfl⟩
 replace H:(if aY.length+l1.length<8796093022208 then((some (aY++l1:List (S85))).bind fun aK=>((spec_AreDepots.f k aE aD aC l1).bind fun aW=>(if aW=true then((spec_l1In.f a3 1 10000).bind fun aU=>(spec_Lay.j0 k l1 a2 a3 aK (!aU) aE aD aC)) else(spec_Lay.j0 k l1 a2 a3 aK true aE aD aC)))) else(none))=some (r1,r2):=zY bD H
 have Ny1798:=zA bD;clear bD;obtain⟨cN,H⟩:=zifA H;obtain⟨aK,bC⟩:∃ y_:List (S85),y_=(aY++l1):=⟨_,rfl⟩
 replace H:((spec_AreDepots.f k aE aD aC l1).bind fun aW=>(if aW=true then((spec_l1In.f a3 1 10000).bind fun aU=>(spec_Lay.j0 k l1 a2 a3 aK (!aU) aE aD aC)) else(spec_Lay.j0 k l1 a2 a3 aK true aE aD aC)))=some (r1,r2):=zY bC H
 have Ny1801:=zA bC;clear bC;have cB:=zA H;clear H;go_enter Try.func94,Try.ntmps94
 go_upto_region 2 with (first|((with_reducible refine zgd 4 rfl ?_);refine zbx 4 #[.int .i64 aE,.int .i64 aD,.slice aN aC.length aM] 37 ?_;intro cA hg w7 hbox hb;have aA:=zA hbox;have dC:=zga (w:=w) hg;replace HB:=zbs hb;clear hb hbox hg)|((with_reducible refine zgd 12 rfl ?_);refine Kd.R_lit k85 _ 85 ?hg (N:=12) ?hd (xs:=([]:List (S85))) (inner:=[]) (ok:=fun _=>True) (okp:=fun _=>True) ?hr ?hp (fun _ hk=>hk) trivial (Below.refl _ _) (Nat.le_refl _) (by simp) ?_;(case hd=>rfl);(case hg=>rfl);(case hr=>first|(go_simp;done)|(go_simp;rfl));(case hp=>exact(Reps.none _ _));intro v1799 w8 ho9 hb hg_ hnew_;clear hg_ hnew_;(first|rw[←Ny1798.out] at ho9|(simp only[Int.reduceToNat] at ho9;rw[←Ny1798.out] at ho9));have bF:=zA (Kd.R_lower ho9 (below_size zb));replace aA:=zkb aA hb;replace HB:=zbs hb;clear hb ho9)|((with_reducible refine gate_builtin (b:=.append) (xs:=#[.tmp 12,.tmp 13]) rfl ?_);at_builtin;refine Kd.R_append_rows k85 (w0:=w) w.heap.size rfl (.tmp 12) (.tmp 13) 39 85 (.agg #[(.int .i64 0),(.int .i64 0)]) 16 rfl Try.underlying39 info85 rfl (by decide) (by omega) v1799 aY l1 _ _ _ (fun _=>True) (fun _=>False) rfl rfl ?aO ?aR (fun _ _ h=>h) (fun _ h=>h.elim) ?aF ?aB ?aS ?aL ?_;(case aR=>repeat (first|exact(Kd.C_below bE.out HB.out)|(with_reducible refine Kd.C_alloc ?_ _)|(with_reducible refine Kd.C_drewN ?_ _)|(with_reducible refine Kd.C_drew ?_)));(case aB=>exact zb);(case aF=>exact(fun _ _=>trivial));(case aO=>exact(zR bF));(case aS=>exact(below_size zb));(case aL=>have:=cN.out;omega);intro v1802 dK ho hb hg hat;rw[←Ny1801.out] at ho;replace aA:=zgr aA hg (Kd.R_ne bF.out aA.out (by decide));replace HB:=zA hb;have aJ:=zA ho;clear bF;clear ho hb hg hat))
 (try simp only[Act.put,List.setIfInBounds_toArray,List.set_cons_zero,List.set_cons_succ])
 go_cut [23] (fun v23 wc=>∃ (kq:Nat) (aZ:Bool),v23=.bool aZ∧Aside0 (spec_Lay.j0 kq l1 a2 a3 aK aZ aE aD aC=some (r1,r2))∧Aside0 (kq≤k)∧Aside0 (Kd.R k85 85 wc w.heap.size (fun _=>True) v1802 aK)∧Aside0 (wc.heap[cA]?=some (.cells #[.int .i64 aE,.int .i64 aD,(.slice aN aC.length aM)] 37 (0,0)))∧Aside0 (Below w.heap.size w wc))
 case first =>
  have H:=cB.out;clear cB;obtain⟨aW,cI,H⟩:=zB H
  by_cases bI:aW=true
  ·subst bI;rw[if_pos rfl] at H;obtain⟨aU,dD,H⟩:=zB H;have H':=zA H;clear H;obtain⟨bZ,bY,bX,bT,bS,bR⟩:=ze3 aA
   go_wp2_with (first|((with_reducible refine zgf 130 rfl ?_);refine zgl 17 Try.func130 #[.agg #[.int .i64 aE,.int .i64 aD,.slice aN aC.length aM],.slice A1 l1.length c1] ?_;(with_reducible refine(spec_AreDepots.calls k aE aD _ _ aC _ _ l1 true _ ?s1 ?s2 ?s3 ?s4 cI.out).mono ?_);(case s1=>exact zCb bA);(case s2=>exact bB.out);(case s3=>exact zCb bE);(case s4=>exact bG.out);rintro e dJ ⟨rfl,hb⟩;refine⟨_,rfl,?_⟩;replace aJ:=zRb aJ hb;replace aA:=zkb aA hb;replace HB:=zbs hb;(try clear hb))|(go_at_call 93;(with_reducible refine(spec_l1In.calls a3 1 10000 aU _ dD.out).mono ?_);rintro e w' ⟨rfl,⟨nd,rfl⟩⟩))
   go_meet
   case rel=>exact⟨_,(!aU),zr,H',⟨by first|omega|exact Nat.le_refl _⟩,⟨zR aJ⟩,⟨zk aA⟩,⟨zb⟩⟩
  ·replace bI:=Bool.eq_false_iff.mpr bI;subst bI;rw[if_neg zNo] at H;have H':=zA H;clear H;obtain⟨bW,bV,bU,bQ,bP,bO⟩:=ze3 aA
   go_wp2_with (first|((with_reducible refine zgf 130 rfl ?_);refine zgl 17 Try.func130 #[.agg #[.int .i64 aE,.int .i64 aD,.slice aN aC.length aM],.slice A1 l1.length c1] ?_;(with_reducible refine(spec_AreDepots.calls k aE aD _ _ aC _ _ l1 false _ ?s1 ?s2 ?s3 ?s4 cI.out).mono ?_);(case s1=>exact zCb bA);(case s2=>exact bB.out);(case s3=>exact zCb bE);(case s4=>exact bG.out);rintro e dI ⟨rfl,hb⟩;refine⟨_,rfl,?_⟩;replace aJ:=zRb aJ hb;replace aA:=zkb aA hb;replace HB:=zbs hb;(try clear hb)))
   go_meet
   case rel=>exact⟨_,(true),zr,H',⟨by first|omega|exact Nat.le_refl _⟩,⟨zR aJ⟩,⟨zk aA⟩,⟨zb⟩⟩
 case rest =>
  clear cB;(try clear c1);(try clear c5);(try clear bI);(try clear bZ);(try clear bY);(try clear bX);(try clear bW);(try clear bV);(try clear bU);(try clear bT);(try clear bS);(try clear bR);(try clear bQ);(try clear bP);(try clear bO);obtain⟨kq,aZ,rfl,HA,HJ5,aH,aA,HB⟩:=hcut;cases kq with
  |zero=>exact absurd HA.out (by simp[spec_Lay.j0])
  |succ kj5 =>
   have H:=HA.out;clear HA;simp only[spec_Lay.j0] at H
   by_cases bN:aZ=true
   ·subst bN;rw[if_pos rfl] at H;simp only[Option.some.injEq,Prod.mk.injEq] at H;obtain⟨rfl,rfl⟩:=H;go_wp2;go_ret2;exact⟨_,zE,zR aH,zb⟩
   ·replace bN:=Bool.eq_false_iff.mpr bN;subst bN;rw[if_neg zNo] at H;obtain⟨aT,cH,H⟩:=zB H;obtain⟨aQ,cG,H⟩:=zB H;obtain⟨cC,cF,H⟩:=zB H
    by_cases bM:cC=true
    ·subst bM;rw[if_pos rfl] at H;simp only[Option.some.injEq,Prod.mk.injEq] at H;obtain⟨rfl,rfl⟩:=H
     go_wp2_with (first|((with_reducible refine zgf 132 rfl ?_);refine zgl 29 Try.func132 #[.slice A1 l1.length c1,.int .i64 a2] ?_;(with_reducible refine(spec_FoodAt.calls kj5 _ _ l1 a2 aT _ ?s1 ?s2 cH.out).mono ?_);(case s1=>exact zCb bE);(case s2=>exact bG.out);rintro e w' ⟨rfl,⟨nd,rfl⟩⟩;refine⟨_,rfl,?_⟩)|((with_reducible refine zgf 131 rfl ?_);refine zgl 32 Try.func131 #[.slice A1 l1.length c1,.int .i64 a2,.int .i64 (wrap64 (aT+a3))] ?_;(with_reducible refine(spec_l8Set.calls kj5 _ _ l1 a2 (wrap64 (aT+a3)) aQ _ ?s1 ?s2 cG.out).mono ?_);(case s1=>exact zCb bE);(case s2=>exact bG.out);rintro e dH ⟨v1808,rfl,ho0,hb⟩;refine⟨_,rfl,?_⟩;have aG:=zA (Kd.R_lower (Kd.R_new' ho0 (Kd.R_lt (zR aH))) (below_size zb));replace aH:=zA (Kd.R_elder' (zR aH) (Kd.R_base ho0) hb);replace aA:=zkb aA hb;replace HB:=zbs hb;(try clear hb);(try clear ho0);obtain⟨dB,dA,cZ,cV,cU,cT⟩:=ze3 aA;obtain⟨cP,cM,cK⟩:=Kd.R_slice aG.out;subst cK)|((with_reducible refine zgf 130 rfl ?_);refine zgl 35 Try.func130 #[.agg #[.int .i64 aE,.int .i64 aD,.slice aN aC.length aM],.slice cP aQ.length cM] ?_;(with_reducible refine(spec_AreDepots.calls kj5 aE aD _ _ aC _ _ aQ true _ ?s1 ?s2 ?s3 ?s4 cF.out).mono ?_);(case s1=>exact zCb bA);(case s2=>exact bB.out);(case s3=>exact zCx (Kd.R_reads' aG.out).2.2);(case s4=>exact(Kd.R_reads' aG.out).2.1);rintro e dG ⟨rfl,hb⟩;refine⟨_,rfl,?_⟩;replace aH:=zRb aH hb;replace aG:=zRb aG hb;replace aA:=zkb aA hb;replace HB:=zbs hb;(try clear hb)))
     go_ret2;exact⟨_,zE,by(with_reducible repeat (first|apply Kd.R_alloc|apply Kd.R_drewN|apply Kd.R_drew));exact Kd.R_mono aG.out (fun _ hk=>trivial),zb⟩
    ·replace bM:=Bool.eq_false_iff.mpr bM;subst bM;rw[if_neg zNo] at H;simp only[Option.some.injEq,Prod.mk.injEq] at H;obtain⟨rfl,rfl⟩:=H
     go_wp2_with (first|((with_reducible refine zgf 132 rfl ?_);refine zgl 29 Try.func132 #[.slice A1 l1.length c1,.int .i64 a2] ?_;(with_reducible refine(spec_FoodAt.calls kj5 _ _ l1 a2 aT _ ?s1 ?s2 cH.out).mono ?_);(case s1=>exact zCb bE);(case s2=>exact bG.out);rintro e w' ⟨rfl,⟨nd,rfl⟩⟩;refine⟨_,rfl,?_⟩)|((with_reducible refine zgf 131 rfl ?_);refine zgl 32 Try.func131 #[.slice A1 l1.length c1,.int .i64 a2,.int .i64 (wrap64 (aT+a3))] ?_;(with_reducible refine(spec_l8Set.calls kj5 _ _ l1 a2 (wrap64 (aT+a3)) aQ _ ?s1 ?s2 cG.out).mono ?_);(case s1=>exact zCb bE);(case s2=>exact bG.out);rintro e dF ⟨v1808,rfl,ho0,hb⟩;refine⟨_,rfl,?_⟩;have aG:=zA (Kd.R_lower (Kd.R_new' ho0 (Kd.R_lt (zR aH))) (below_size zb));replace aH:=zA (Kd.R_elder' (zR aH) (Kd.R_base ho0) hb);replace aA:=zkb aA hb;replace HB:=zbs hb;(try clear hb);(try clear ho0);obtain⟨cY,cX,cW,cS,cR,cQ⟩:=ze3 aA;obtain⟨cO,cL,cJ⟩:=Kd.R_slice aG.out;subst cJ)|((with_reducible refine zgf 130 rfl ?_);refine zgl 35 Try.func130 #[.agg #[.int .i64 aE,.int .i64 aD,.slice aN aC.length aM],.slice cO aQ.length cL] ?_;(with_reducible refine(spec_AreDepots.calls kj5 aE aD _ _ aC _ _ aQ false _ ?s1 ?s2 ?s3 ?s4 cF.out).mono ?_);(case s1=>exact zCb bA);(case s2=>exact bB.out);(case s3=>exact zCx (Kd.R_reads' aG.out).2.2);(case s4=>exact(Kd.R_reads' aG.out).2.1);rintro e dE ⟨rfl,hb⟩;refine⟨_,rfl,?_⟩;replace aH:=zRb aH hb;replace aG:=zRb aG hb;replace aA:=zkb aA hb;replace HB:=zbs hb;(try clear hb)))
     go_ret2;exact⟨_,zE,by(with_reducible repeat (first|apply Kd.R_alloc|apply Kd.R_drewN|apply Kd.R_drew));exact Kd.R_mono aH.out (fun _ hk=>trivial),zb⟩

def spec_MayLay.j0:Nat→Int→List (S85)→Int→Bool→Int→Int→List Int→Int→Int→Int→Int→List (S117)→List Bool→Option (Bool)
  |0,_,_,_,_,_,_,_,_,_,_,_,_,_=>none
  |k+1,x1,x3,x5,x29,x1812000,x1812001,x1812002,x1813000,x1813001,x1814000,x1814001,x1814002,x1814003=>if x29=true then(some false) else((spec_Lay.f k x1812000 x1812001 x1812002 x3 x1814000 x5).bind fun bt1816=>((spec_l9Copy.f x1814000 x1814001 x1814002 x1814003).bind fun bt1820=>(if bt1816.2=true then((spec_CanReturn.f k x1812000 x1812001 x1812002 x1 x1813000 x1813001 bt1816.1 bt1820.1 (wrap64 (x1814001-x5)) bt1820.2.2.1 bt1820.2.2.2).bind fun t1829=>(some t1829)) else(some false))))
def spec_MayLay.f (k:Nat) (a0_0:Int) (a0_1:Int) (l0_2:List Int) (a1:Int) (a2_0:Int) (a2_1:Int) (l3:List (S85)) (a4_0:Int) (a4_1:Int) (l4_2:List (S117)) (l4_3:List Bool) (a5:Int):Option (Bool):=(spec_CanReturn.f k a0_0 a0_1 l0_2 a1 a2_0 a2_1 l3 a4_0 a4_1 l4_2 l4_3).bind fun t1814=>(if t1814=true then((spec_l1In.f a5 1 a4_1).bind fun t1815=>(spec_MayLay.j0 k a1 l3 a5 (!t1815) a0_0 a0_1 l0_2 a2_0 a2_1 a4_0 a4_1 l4_2 l4_3)) else(spec_MayLay.j0 k a1 l3 a5 true a0_0 a0_1 l0_2 a2_0 a2_1 a4_0 a4_1 l4_2 l4_3))
theorem spec_MayLay.calls (k:Nat) (aU:Int) (aT:Int) (bQ:Option Addr) (bN:Nat) (aJ:List Int) (a1:Int) (bC:Int) (bB:Int) (A3:Option Addr) (c3:Nat) (l3:List (S85)) (aK:Int) (aQ:Int) (bP:Option Addr) (bM:Nat) (aN:List (S117)) (bO:Option Addr) (bL:Nat) (aM:List Bool) (a5:Int) (r:Bool) (w:World) (cR:Kd.C (Kd.int .i64) w bQ aJ.length aJ) (cU:aJ.length≤bN) (eZ:Kd.C k85 w A3 l3.length l3) (fA:l3.length≤c3) (cQ:Kd.C k117 w bP aN.length aN) (cT:aN.length≤bM) (cP:Kd.C Kd.bool w bO aM.length aM) (cS:aM.length≤bL) (h:spec_MayLay.f k aU aT aJ a1 bC bB l3 aK aQ aN aM a5=some r) :
  Calls Try.prog 50 #[.agg #[.int .i64 aU,.int .i64 aT,.slice bQ aJ.length bN],.int .i64 a1,.agg #[.int .i64 bC,.int .i64 bB],.slice A3 l3.length c3,.agg #[.int .i64 aK,.int .i64 aQ,.slice bP aN.length bM,.slice bO aM.length bL],.int .i64 a5] w fun e w'=>e=.returned (.bool r)∧Below w.heap.size w w':=by
 have hu37:=Try.underlying37;have hu38:=Try.underlying38;have hu42:=Try.underlying42;have bU:=zA cR;have bV:=zA cU;clear cR cU;have cX:=zA eZ;have cY:=zA fA;clear eZ fA;have bY:=zA cQ;have cA:=zA cT;clear cQ cT;have bX:=zA cP;have bZ:=zA cS;clear cP cS;have HB:=zA (Below.refl w.heap.size w);have H:=h;clear h;unfold spec_MayLay.f at H;have eU:=zA H;clear H;go_enter Try.func50,Try.ntmps50
 go_upto_region 1 with (first|((with_reducible refine zgd 6 rfl ?_);refine zbx 6 #[.int .i64 aU,.int .i64 aT,.slice bQ aJ.length bN] 37 ?_;intro cI hg w8 hbox hb;have aA:=zA hbox;have iZ:=zga (w:=w) hg;replace HB:=zbs hb;clear hb hbox hg)|((with_reducible refine zgd 8 rfl ?_);refine zbx 8 #[.int .i64 bC,.int .i64 bB] 38 ?_;intro cH hg w9 hbox hb;have aD:=zA hbox;have iY:=zga (w:=w) hg;replace HB:=zbs hb;replace aA:=zlh aA hg hb;obtain⟨bA,aY,aA⟩:=aA;clear hb hbox hg)|((with_reducible refine zgd 10 rfl ?_);refine zbx 10 #[.int .i64 aK,.int .i64 aQ,.slice bP aN.length bM,.slice bO aM.length bL] 42 ?_;intro cG hg kZ hbox hb;have aC:=zA hbox;have iX:=zga (w:=w) hg;replace HB:=zbs hb;replace aA:=zlh aA hg hb;obtain⟨aZ,aW,aA⟩:=aA;replace aD:=zlh aD hg hb;obtain⟨aX,aV,aD⟩:=aD;clear hb hbox hg))
 (try simp only[Act.put,List.setIfInBounds_toArray,List.set_cons_zero,List.set_cons_succ])
 go_cut [29] (fun v29 wc=>∃ (kq:Nat) (bW:Bool),v29=.bool bW∧Aside0 (spec_MayLay.j0 kq a1 l3 a5 bW aU aT aJ bC bB aK aQ aN aM=some r)∧Aside0 (kq≤k)∧Aside0 (wc.heap[cI]?=some (.cells #[.int .i64 aU,.int .i64 aT,(.slice bQ aJ.length bN)] 37 (0,0)))∧Aside0 (wc.heap[cH]?=some (.cells #[.int .i64 bC,.int .i64 bB] 38 (0,0)))∧Aside0 (wc.heap[cG]?=some (.cells #[.int .i64 aK,.int .i64 aQ,(.slice bP aN.length bM),(.slice bO aM.length bL)] 42 (0,0)))∧Aside0 (Below w.heap.size w wc))
 case first =>
  have H:=eU.out;clear eU;obtain⟨eY,fD,H⟩:=zB H
  by_cases cJ:eY=true
  ·subst cJ;rw[if_pos rfl] at H;obtain⟨cO,jB,H⟩:=zB H;have H':=zA H;clear H;have kL:=bA.out;have jT:=aY.out;have kK:=aZ.out;have jS:=aW.out;obtain⟨eR,eQ,eP,dV,dU,dS⟩:=ze3 aA;have kJ:=aX.out;have jR:=aV.out;obtain⟨eO,eN,dR,dQ⟩:=ze2 aD;obtain⟨eM,eL,eK,eJ,dP,dO,dN,dM⟩:=ze4 aC
   go_wp2_with (first|((with_reducible refine zgf 55 rfl ?_);refine zgl 21 Try.func55 #[.agg #[.int .i64 aU,.int .i64 aT,.slice bQ aJ.length bN],.int .i64 a1,.agg #[.int .i64 bC,.int .i64 bB],.slice A3 l3.length c3,.agg #[.int .i64 aK,.int .i64 aQ,.slice bP aN.length bM,.slice bO aM.length bL]] ?_;(with_reducible refine(spec_CanReturn.calls k aU aT _ _ aJ a1 bC bB _ _ l3 aK aQ _ _ aN _ _ aM true _ ?s1 ?s2 ?s3 ?s4 ?s5 ?s6 ?s7 ?s8 fD.out).mono ?_);(case s1=>exact zCb bU);(case s2=>exact bV.out);(case s3=>exact zCb cX);(case s4=>exact cY.out);(case s5=>exact zCb bY);(case s6=>exact cA.out);(case s7=>exact zCb bX);(case s8=>exact bZ.out);rintro e kY ⟨rfl,hb⟩;refine⟨_,rfl,?_⟩;replace aA:=zkb aA hb;replace aD:=zkb aD hb;replace aC:=zkb aC hb;replace HB:=zbs hb;(try clear hb);obtain⟨eI,eH,eG,eF,dL,dK,dJ,dI⟩:=ze4 aC)|(go_at_call 93;(with_reducible refine(spec_l1In.calls a5 1 aQ cO _ jB.out).mono ?_);rintro e w' ⟨rfl,⟨nd,rfl⟩⟩))
   go_meet
   case rel=>exact⟨_,(!cO),zr,H',⟨by first|omega|exact Nat.le_refl _⟩,⟨zk aA⟩,⟨zk aD⟩,⟨zk aC⟩,⟨zb⟩⟩
  ·replace cJ:=Bool.eq_false_iff.mpr cJ;subst cJ;rw[if_neg zNo] at H;have H':=zA H;clear H;have kI:=bA.out;have jQ:=aY.out;have kH:=aZ.out;have jP:=aW.out;obtain⟨eE,eD,eC,dH,dG,dF⟩:=ze3 aA;have kG:=aX.out;have jO:=aV.out;obtain⟨eB,eA,dE,dD⟩:=ze2 aD;obtain⟨dZ,dY,dX,dW,dC,dB,dA,cZ⟩:=ze4 aC
   go_wp2_with (first|((with_reducible refine zgf 55 rfl ?_);refine zgl 21 Try.func55 #[.agg #[.int .i64 aU,.int .i64 aT,.slice bQ aJ.length bN],.int .i64 a1,.agg #[.int .i64 bC,.int .i64 bB],.slice A3 l3.length c3,.agg #[.int .i64 aK,.int .i64 aQ,.slice bP aN.length bM,.slice bO aM.length bL]] ?_;(with_reducible refine(spec_CanReturn.calls k aU aT _ _ aJ a1 bC bB _ _ l3 aK aQ _ _ aN _ _ aM false _ ?s1 ?s2 ?s3 ?s4 ?s5 ?s6 ?s7 ?s8 fD.out).mono ?_);(case s1=>exact zCb bU);(case s2=>exact bV.out);(case s3=>exact zCb cX);(case s4=>exact cY.out);(case s5=>exact zCb bY);(case s6=>exact cA.out);(case s7=>exact zCb bX);(case s8=>exact bZ.out);rintro e kX ⟨rfl,hb⟩;refine⟨_,rfl,?_⟩;replace aA:=zkb aA hb;replace aD:=zkb aD hb;replace aC:=zkb aC hb;replace HB:=zbs hb;(try clear hb)))
   go_meet
   case rel=>exact⟨_,(true),zr,H',⟨by first|omega|exact Nat.le_refl _⟩,⟨zk aA⟩,⟨zk aD⟩,⟨zk aC⟩,⟨zb⟩⟩
 case rest =>
  clear eU;(try clear c3);(try clear cJ);(try clear eR);(try clear eQ);(try clear eP);(try clear eO);(try clear eN);(try clear eM);(try clear eL);(try clear eK);(try clear eJ);(try clear eI);(try clear eH);(try clear eG);(try clear eF);(try clear eE);(try clear eD);(try clear eC);(try clear eB);(try clear eA);(try clear dZ);(try clear dY);(try clear dX);(try clear dW);(try clear dV);(try clear dU);(try clear dS);(try clear dR);(try clear dQ);(try clear dP);(try clear dO);(try clear dN);(try clear dM);(try clear dL);(try clear dK);(try clear dJ);(try clear dI);(try clear dH);(try clear dG);(try clear dF);(try clear dE);(try clear dD);(try clear dC);(try clear dB);(try clear dA);(try clear cZ);obtain⟨kq,bW,rfl,HA,HJ6,aA,aD,aC,HB⟩:=hcut;cases kq with
  |zero=>exact absurd HA.out (by simp[spec_MayLay.j0])
  |succ kj6 =>
   have H:=HA.out;clear HA;simp only[spec_MayLay.j0] at H
   by_cases cW:bW=true
   ·subst cW;rw[if_pos rfl] at H;obtain rfl:=zI H;go_wp2;go_ret;exact⟨zE,zb⟩
   ·replace cW:=Bool.eq_false_iff.mpr cW;subst cW;rw[if_neg zNo] at H;obtain⟨⟨bR,eX⟩,fC,H⟩:=zB H;obtain⟨⟨bS,cD,bE,bD⟩,fB,H⟩:=zB H
    by_cases cV:eX=true
    ·subst cV;rw[if_pos rfl] at H;obtain⟨eW,jA,H⟩:=zB H;obtain rfl:=zI H;have kF:=bA.out;have jN:=aY.out;have kE:=aZ.out;have jM:=aW.out;obtain⟨iW,iV,iU,hC,gZ,gY⟩:=ze3 aA;have kD:=aV.out;have jL:=aX.out;obtain⟨iT,iS,iR,iQ,gX,gW,gV,gU⟩:=ze4 aC
     go_upto_region 5 with (first|((with_reducible refine zgf 94 rfl ?_);refine zgl 36 Try.func94 #[.agg #[.int .i64 aU,.int .i64 aT,.slice bQ aJ.length bN],.slice A3 l3.length c3,.int .i64 aK,.int .i64 a5] ?_;(with_reducible refine(spec_Lay.calls kj6 aU aT _ _ aJ _ _ l3 aK a5 bR true _ ?s1 ?s2 ?s3 ?s4 fC.out).mono ?_);(case s1=>exact zCb bU);(case s2=>exact bV.out);(case s3=>exact zCb cX);(case s4=>exact cY.out);rintro e kW ⟨v1817,rfl,ho0,hb⟩;refine⟨_,rfl,?_⟩;have aG:=zA (Kd.R_lower ho0 (below_size zb));replace aA:=zkb aA hb;replace aD:=zkb aD hb;replace aC:=zkb aC hb;replace HB:=zbs hb;(try clear hb);(try clear ho0);obtain⟨iP,iO,iN,iM,gT,gS,gR,gQ⟩:=ze4 aC)|((with_reducible refine zgf 77 rfl ?_);refine zgl 40 Try.func77 #[.agg #[.int .i64 aK,.int .i64 aQ,.slice bP aN.length bM,.slice bO aM.length bL]] ?_;(with_reducible refine(spec_l9Copy.calls aK aQ _ _ aN _ _ aM bS cD bE bD _ ?s1 ?s2 ?s3 ?s4 fB.out).mono ?_);(case s1=>exact zCb bY);(case s2=>exact cA.out);(case s3=>exact zCb bX);(case s4=>exact bZ.out);rintro e kV ⟨v1823,v1826,rfl,ho0,ho1,hb⟩;refine⟨_,rfl,?_⟩;replace aG:=zRb aG hb;have aI:=zA (Kd.R_lower ho0 (below_size zb));have aH:=zA (Kd.R_lower ho1 (below_size zb));replace aA:=zkb aA hb;replace aD:=zkb aD hb;replace aC:=zkb aC hb;replace HB:=zbs hb;(try clear hb);(try clear ho0);(try clear ho1))|((with_reducible refine zgd 15 rfl ?_);refine zbx 15 #[.int .i64 0,.int .i64 0,.slice none 0 0,.slice none 0 0] 42 ?_;intro cB hg kU hbox hb;replace aG:=zRb aG hb;replace aI:=zRb aI hb;replace aH:=zRb aH hb;have aE:=zA hbox;have eV:=zga (w:=w) hg;replace HB:=zbs hb;replace aA:=zlh aA hg hb;obtain⟨bK,bH,aA⟩:=aA;replace aD:=zlh aD hg hb;obtain⟨bJ,bG,aD⟩:=aD;replace aC:=zlh aC hg hb;obtain⟨bI,bF,aC⟩:=aC;clear hb hbox hg;have kC:=bH.out;have jK:=bK.out;have kB:=bG.out;have jJ:=bJ.out;have kA:=bF.out;have jI:=bI.out;obtain⟨iL,iK,iJ,iI,gP,gO,gN,gM⟩:=ze4 aE;obtain⟨cN,cF,fI⟩:=Kd.R_slice aI.out;subst fI;obtain⟨cM,cE,fH⟩:=Kd.R_slice aH.out;subst fH;obtain⟨iH,iG,iF,iE,gL,gK,gJ,gI⟩:=ze4 aC;obtain⟨iD,iC,iB,gH,gG,gF⟩:=ze3 aA;obtain⟨iA,hZ,gE,gD⟩:=ze2 aD;obtain⟨fJ,eT,fG⟩:=Kd.R_slice aG.out;subst fG))
     refine zgenC (fun w_=>Kd.R k85 85 w_ w.heap.size (fun _=>True) (.slice fJ bR.length eT) bR∧Kd.R k117 117 w_ w.heap.size (fun _=>True) (.slice cN bE.length cF) bE∧Kd.R Kd.bool 4 w_ w.heap.size (fun _=>True) (.slice cM bD.length cE) bD∧w_.heap[cI]?=some (.cells #[.int .i64 aU,.int .i64 aT,.slice bQ aJ.length bN] 37 (0,0))∧w_.heap[cH]?=some (.cells #[.int .i64 bC,.int .i64 bB] 38 (0,0))∧w_.heap[cG]?=some (.cells #[.int .i64 aK,.int .i64 aQ,.slice bP aN.length bM,.slice bO aM.length bL] 42 (0,0))∧w_.heap[cB]?=some (.cells #[.int .i64 bS,.int .i64 cD,.slice cN bE.length cF,.slice cM bD.length cE] 42 (0,0))∧Below w.heap.size w w_) ⟨zF1 aG aE,zF1 aI aE,zF1 aH aE,zkf aA,zkf aD,zkf aC,zkp aE,zb⟩ ?_;clear aG aI aH aA aD aC aE HB
     intro wg_ ⟨z0_,z1_,z2_,z3_,z4_,z5_,z6_,z7_⟩;have aG:=zA z0_;clear z0_;have aI:=zA z1_;clear z1_;have aH:=zA z2_;clear z2_;have aA:=zA z3_;clear z3_;have aD:=zA z4_;clear z4_;have aC:=zA z5_;clear z5_;have aE:=zA z6_;clear z6_;have HB:=zA z7_;clear z7_
     obtain⟨zc0_0,zc0_1,zc0_2,zf0_0,zf0_1,zf0_2⟩:=ze3 aA;obtain⟨zc1_0,zc1_1,zf1_0,zf1_1⟩:=ze2 aD;obtain⟨zc2_0,zc2_1,zc2_2,zc2_3,zf2_0,zf2_1,zf2_2,zf2_3⟩:=ze4 aC;obtain⟨zc3_0,zc3_1,zc3_2,zc3_3,zf3_0,zf3_1,zf3_2,zf3_3⟩:=ze4 aE
     go_wp2_with (first|(go_at_call 55;(with_reducible refine(spec_CanReturn.calls kj6 aU aT _ _ aJ a1 bC bB _ _ bR bS (wrap64 (aQ-a5)) _ _ bE _ _ bD eW _ ?s1 ?s2 ?s3 ?s4 ?s5 ?s6 ?s7 ?s8 jA.out).mono ?_);(case s1=>exact Kd.C_below bU.out zb);(case s2=>exact bV.out);(case s3=>refine(Kd.R_reads' (e:=85) (base:=w.heap.size) (ok:=fun k_=>True) (n:=bR.length) (c:=eT) ?_).2.2;exact(zF1 aG aE));(case s4=>exact(Kd.R_reads' aG.out).2.1);(case s5=>refine(Kd.R_reads' (e:=117) (base:=w.heap.size) (ok:=fun k_=>True) (n:=bE.length) (c:=cF) ?_).2.2;exact(zF1 aI aE));(case s6=>exact(Kd.R_reads' aI.out).2.1);(case s7=>refine(Kd.R_reads' (e:=4) (base:=w.heap.size) (ok:=fun k_=>True) (n:=bD.length) (c:=cE) ?_).2.2;exact(zF1 aH aE));(case s8=>exact(Kd.R_reads' aH.out).2.1);rintro e kT ⟨rfl,hb⟩;replace aG:=zA (Kd.R_below (zF1 aG aE) hb);replace aI:=zA (Kd.R_below (zF1 aI aE) hb);replace aH:=zA (Kd.R_below (zF1 aH aE) hb);replace aA:=zbf aA hb;replace aD:=zbf aD hb;replace aC:=zbf aC hb;replace aE:=zA (blk_below (g:=cB) (o:=.cells #[.int .i64 bS,.int .i64 (wrap64 (aQ-a5)),.slice cN bE.length cF,.slice cM bD.length cE] 42 (0,0)) (zkp aE) hb);replace HB:=zbs hb;(try clear hb)))
     go_ret;exact⟨zE,zb⟩
    ·replace cV:=Bool.eq_false_iff.mpr cV;subst cV;rw[if_neg zNo] at H;obtain rfl:=zI H;have jZ:=bA.out;have jH:=aY.out;have jY:=aZ.out;have jG:=aW.out;obtain⟨hY,hX,hW,gC,gB,gA⟩:=ze3 aA;have jX:=aV.out;have jF:=aX.out;obtain⟨hV,hU,hT,hS,fZ,fY,fX,fW⟩:=ze4 aC
     go_wp2_with (first|((with_reducible refine zgf 94 rfl ?_);refine zgl 36 Try.func94 #[.agg #[.int .i64 aU,.int .i64 aT,.slice bQ aJ.length bN],.slice A3 l3.length c3,.int .i64 aK,.int .i64 a5] ?_;(with_reducible refine(spec_Lay.calls kj6 aU aT _ _ aJ _ _ l3 aK a5 bR false _ ?s1 ?s2 ?s3 ?s4 fC.out).mono ?_);(case s1=>exact zCb bU);(case s2=>exact bV.out);(case s3=>exact zCb cX);(case s4=>exact cY.out);rintro e kS ⟨v1817,rfl,ho0,hb⟩;refine⟨_,rfl,?_⟩;have aG:=zA (Kd.R_lower ho0 (below_size zb));replace aA:=zkb aA hb;replace aD:=zkb aD hb;replace aC:=zkb aC hb;replace HB:=zbs hb;(try clear hb);(try clear ho0);obtain⟨hR,hQ,hP,hO,fV,fU,fT,fS⟩:=ze4 aC)|((with_reducible refine zgf 77 rfl ?_);refine zgl 40 Try.func77 #[.agg #[.int .i64 aK,.int .i64 aQ,.slice bP aN.length bM,.slice bO aM.length bL]] ?_;(with_reducible refine(spec_l9Copy.calls aK aQ _ _ aN _ _ aM bS cD bE bD _ ?s1 ?s2 ?s3 ?s4 fB.out).mono ?_);(case s1=>exact zCb bY);(case s2=>exact cA.out);(case s3=>exact zCb bX);(case s4=>exact bZ.out);rintro e kR ⟨v1823,v1826,rfl,ho0,ho1,hb⟩;refine⟨_,rfl,?_⟩;replace aG:=zRb aG hb;have aI:=zA (Kd.R_lower ho0 (below_size zb));have aH:=zA (Kd.R_lower ho1 (below_size zb));replace aA:=zkb aA hb;replace aD:=zkb aD hb;replace aC:=zkb aC hb;replace HB:=zbs hb;(try clear hb);(try clear ho0);(try clear ho1))|((with_reducible refine zgd 15 rfl ?_);refine zbx 15 #[.int .i64 0,.int .i64 0,.slice none 0 0,.slice none 0 0] 42 ?_;intro cB hg kQ hbox hb;replace aG:=zRb aG hb;replace aI:=zRb aI hb;replace aH:=zRb aH hb;have aE:=zA hbox;have eV:=zga (w:=w) hg;replace HB:=zbs hb;replace aA:=zlh aA hg hb;obtain⟨bK,bH,aA⟩:=aA;replace aD:=zlh aD hg hb;obtain⟨bJ,bG,aD⟩:=aD;replace aC:=zlh aC hg hb;obtain⟨bI,bF,aC⟩:=aC;clear hb hbox hg;have jW:=bH.out;have jE:=bK.out;have jV:=bG.out;have jD:=bJ.out;have jU:=bF.out;have jC:=bI.out;obtain⟨hL,hJ,hI,hH,fR,fQ,fP,fO⟩:=ze4 aE;obtain⟨kP,kN,fF⟩:=Kd.R_slice aI.out;subst fF;obtain⟨kO,kM,fE⟩:=Kd.R_slice aH.out;subst fE;obtain⟨hG,hF,hE,hD,fN,fM,fL,fK⟩:=ze4 aC))
     go_ret;exact⟨zE,zb⟩

def impl_copyDepots.f (l0:List (S85)):Option ((List (S85))):=(some (([]:List (S85)):List (S85))).bind fun y1830=>(if y1830.length+l0.length<8796093022208 then(some (y1830++l0)) else(none))
theorem impl_copyDepots.calls (A0:Option Addr) (c0:Nat) (l0:List (S85)) (r:List (S85)) (w:World) (aJ:Kd.C k85 w A0 l0.length l0) (aK:l0.length≤c0) (h:impl_copyDepots.f l0=some r) :
  Calls Try.prog 134 #[.slice A0 l0.length c0] w fun e w'=>∃ v0_:Value,e=.returned (v0_)∧Kd.R k85 85 w' w.heap.size (fun _=>True) v0_ r∧Below w.heap.size w w':=by
 have aQ:=zA aJ;have aU:=zA aK;clear aJ aK;have HB:=zA (Below.refl w.heap.size w);have H:=h;clear h;unfold impl_copyDepots.f at H;obtain⟨aA,aD⟩:∃ y_:List (S85),y_=(([]:List (S85))):=⟨_,rfl⟩
 replace H:(if aA.length+l0.length<8796093022208 then(some (aA++l0)) else(none))=some r:=zY aD H
 have Ny1830:=zA aD;clear aD;obtain⟨aM,H⟩:=zifA H;obtain⟨aI,aC⟩:∃ y_:List (S85),y_=(aA++l0):=⟨_,rfl⟩
 replace H:(some aI)=some r:=zY aC H
 have Ny1833:=zA aC;clear aC;obtain rfl:=zI H;go_enter Try.func134,Try.ntmps134
 go_wp2_with (first|((with_reducible refine zgd 3 rfl ?_);refine Kd.R_lit k85 _ 85 ?hg (N:=3) ?hd (xs:=([]:List (S85))) (inner:=[]) (ok:=fun _=>True) (okp:=fun _=>True) ?hr ?hp (fun _ hk=>hk) trivial (Below.refl _ _) (Nat.le_refl _) (by simp) ?_;(case hd=>rfl);(case hg=>rfl);(case hr=>first|(go_simp;done)|(go_simp;rfl));(case hp=>exact(Reps.none _ _));intro v1831 w3 ho4 hb hg_ hnew_;clear hg_ hnew_;(first|rw[←Ny1830.out] at ho4|(simp only[Int.reduceToNat] at ho4;rw[←Ny1830.out] at ho4));have aG:=zA (Kd.R_lower ho4 (below_size zb));replace HB:=zbs hb;clear hb ho4)|((with_reducible refine gate_builtin (b:=.append) (xs:=#[.tmp 3,.tmp 4]) rfl ?_);at_builtin;refine Kd.R_append_rows k85 (w0:=w) w.heap.size rfl (.tmp 3) (.tmp 4) 39 85 (.agg #[(.int .i64 0),(.int .i64 0)]) 16 rfl Try.underlying39 info85 rfl (by decide) (by omega) v1831 aA l0 _ _ _ (fun _=>True) (fun _=>False) rfl rfl ?aO ?aR (fun _ _ h=>h) (fun _ h=>h.elim) ?aF ?aB ?aS ?aL ?_;(case aR=>repeat (first|exact(Kd.C_below aQ.out HB.out)|(with_reducible refine Kd.C_alloc ?_ _)|(with_reducible refine Kd.C_drewN ?_ _)|(with_reducible refine Kd.C_drew ?_)));(case aB=>exact zb);(case aF=>exact(fun _ _=>trivial));(case aO=>exact(zR aG));(case aS=>exact(below_size zb));(case aL=>have:=aM.out;omega);intro v1834 w5 ho hb hg hat;rw[←Ny1833.out] at ho;replace HB:=zA hb;have aH:=zA ho;clear aG;clear ho hb hg hat))
 go_ret;exact⟨_,zE,zR aH,zb⟩

/-! #### copy within a row of the call's own, elements of two cells -/
def shf (y:List S85) (k:Nat):List S85:=y.take (k+1)++(y.drop k).take (y.length-(k+1))
theorem shf_len (y:List S85) (k:Nat) (h:k<y.length):(shf y k).length=y.length:=by
 unfold shf;simp only[List.length_append,List.length_take,List.length_drop];omega
def puts {α:Type}:Nat→List α→List α→List α
  |_,[],y=>y
  |o,v :: r,y=>puts (o+1) r (y.set o v)
theorem puts_eq {α:Type}:∀ (vs:List α) (o:Nat) (y:List α),o+vs.length≤y.length→puts o vs y=y.take o++vs++y.drop (o+vs.length)
  |[],o,y,h=>by simp[puts]
  |v :: r,o,y,h=>by
    simp only[List.length_cons] at h
    rw[puts,puts_eq r (o+1) (y.set o v) (by simp;omega)]
    rw[List.take_set,List.drop_set]
    have h1:o<y.length:=by omega
    rw[if_pos (by omega),List.take_succ_eq_append_getElem h1,List.length_cons,show o+1+r.length=o+(r.length+1) by omega]
    congr 1
    rw[List.set_append_right _ _ (by simp;omega)]
    simp[Nat.min_eq_left (Nat.le_of_lt h1)]
def flat2:List S85→List Value
  |[]=>[]
  |v :: r=>.int .i64 v.f0 :: .int .i64 v.f1 :: flat2 r
theorem flat2_len:∀ l,(flat2 l).length=l.length * 2
  |[]=>rfl
  |v :: r=>by simp only[flat2,List.length_cons,flat2_len r];omega
theorem flat2_get:∀ (l:List S85) (j:Nat) (v:Value),(flat2 l)[j]?=some v→∃ x,l[j / 2]?=some x∧(j % 2=0∧v=.int .i64 x.f0∨j % 2=1∧v=.int .i64 x.f1)
  |[],j,v,h=>by simp[flat2] at h
  |y :: r,0,v,h=>by simp only[flat2,List.getElem?_cons_zero,Option.some.injEq] at h;exact⟨y,rfl,Or.inl ⟨rfl,h.symm⟩⟩
  |y :: r,1,v,h=>by simp only[flat2,List.getElem?_cons_succ,List.getElem?_cons_zero,Option.some.injEq] at h;exact⟨y,rfl,Or.inr ⟨rfl,h.symm⟩⟩
  |y :: r,j+2,v,h=>by
    simp only[flat2,List.getElem?_cons_succ] at h
    obtain⟨x,h1,h2⟩:=flat2_get r j v h
    refine⟨x,?_,?_⟩
    · rw[show (j+2) / 2=j / 2+1 by omega,List.getElem?_cons_succ];exact h1
    · rw[show (j+2) % 2=j % 2 by omega];exact h2
theorem flat2_one:∀ (l:List S85) (v:Value),v∈flat2 l→v.oneCell'=true
  |[],v,h=>by simp[flat2] at h
  |y :: r,v,h=>by
    simp only[flat2,List.mem_cons] at h
    rcases h with rfl|rfl|h
    · rfl
    · rfl
    · exact flat2_one r v h
theorem R_puts2 {e base g n cap:Nat} {ok:Nat→Prop}:∀ (vs:List S85) (o:Nat) (W:World) (xs:List S85),o+vs.length≤xs.length→k85.R e W base ok (.slice (some ⟨g,0,none⟩) n cap) xs →
  k85.R e (W.setCells g (o * 2) (flat2 vs)) base ok (.slice (some ⟨g,0,none⟩) n cap) (puts o vs xs)∧W.grownBy (W.setCells g (o * 2) (flat2 vs)) (some g)
 |[],o,W,xs,_,h=>⟨h,World.grownBy.refl _ _⟩
 |v :: r,o,W,xs,hl,h=>by
  simp only[List.length_cons] at hl
  have hn:=(Kd.R_reads' h).1
  obtain⟨c,hcl,hM,hcc,_⟩:=Kd.R_elem h z85 (o:Int) (by omega) (by omega)
  obtain rfl:=k85_openM hM
  obtain⟨h1,h2⟩:=Kd.R_seg h (o:Int) (by omega) (by omega) (seg:=[.int .i64 v.f0,.int .i64 v.f1]) (j:=0) hcl hcc (show 2≤2 from by decide) (x':=v) (k85_mkM _ _ (fun k=>ok k∧k≠g) v) (fun _ hk=>hk)
  rw[Int.toNat_natCast] at h1 h2
  obtain⟨h3,h4⟩:=R_puts2 r (o+1) _ _ (by rw[List.length_set];omega) h1
  have e1:(W.setCells g (o * 2) (flat2 (v :: r)))=(W.setCells g (o * (k85).sz+0) [.int .i64 v.f0,.int .i64 v.f1]).setCells g ((o+1) * 2) (flat2 r):=by
   rw[show (o+1) * 2=o * 2+1+1 by omega];rfl
  rw[e1]
  exact⟨h3,h2.trans h4⟩
theorem run_copy_cells2 {P:Program} (w:World) (dT sT ty elem:TypeId) (b o dLen dCap:Nat) (a:Addr) (sLen sCap:Nat) (cs:List Value)
  (hu:P.underlying dT=some (.slice elem)) (hs:(P.info? elem).map (·.size)=some 2) (hn:cs.length=Nat.min sLen dLen * 2)
  (hsrc:∀ j v,cs[j]?=some v→w.cell? (a.add j)=some v) (hc:∀ j,j<cs.length→(w.cell? ⟨b,o+j,none⟩).isSome=true) (hf:∀ j,j<cs.length→w.frozen? ⟨b,o+j,none⟩=false) (h1:∀ v∈cs,v.oneCell'=true) :
  (Builtin.copy_ #[dT,sT] ty #[.slice (some ⟨b,o,none⟩) dLen dCap,.slice (some a) sLen sCap]).run P w=.ok (goInt (Nat.min sLen dLen)) (w.setCells b o cs):=by
 have hl:=run_loadCells_list (P:=P) w a cs hsrc
 have hst:=run_storeCells_cells (P:=P) b o cs 0 w (by simpa using hc) (by simpa using hf) h1
 cases hq:P.info? elem with
 |none=>simp[hq] at hs
 |some i =>
  have hi:i.size=2:=by simpa [hq] using hs
  simp[Builtin.copy_,run_underlying hu,Builtin.lenOf,Builtin.firstCells,sizeOf,typeInfo,hq,hi,←hn,hl,hst]
theorem run_copy_none2 {P:Program} (w:World) (dT sT ty elem:TypeId) (d a:Option Addr) (dLen dCap sLen sCap:Nat) (hu:P.underlying dT=some (.slice elem)) (hs:(P.info? elem).map (·.size)=some 2) (hn:Nat.min sLen dLen=0) :
  (Builtin.copy_ #[dT,sT] ty #[.slice d dLen dCap,.slice a sLen sCap]).run P w=.ok (goInt 0) w:=by
 cases hq:P.info? elem with
 |none=>simp[hq] at hs
 |some i =>
  have hl:∀ (x:Addr),(loadCells x 0).run P w=.ok #[] w:=fun x=>by simpa using run_loadCells_list (P:=P) w x [] (by simp)
  cases d <;> cases a <;> simp[Builtin.copy_,run_underlying hu,Builtin.lenOf,Builtin.firstCells,sizeOf,typeInfo,hq,hn,storeCells,hl]
theorem run_shift {P:Program} {W:World} {t e ty:TypeId} {base g n cap:Nat} {ok:Nat→Prop} {xs:List S85} (ht:P.underlying t=some (.slice e)) (hs:(P.info? e).map (·.size)=some 2)
  (h:k85.R e W base ok (.slice (some ⟨g,0,none⟩) n cap) xs) (k:Nat) (hk:k<xs.length) (A B:Option Addr) (hA:k+1<xs.length→A=some ⟨g,(k+1) * 2,none⟩) (hB:B=some ⟨g,k * 2,none⟩) (c1 c2:Nat) :
  ∃ v W1,(Builtin.copy_ #[t,t] ty #[.slice A (xs.length-(k+1)) c1,.slice B (xs.length-k) c2]).run P W=.ok v W1∧k85.R e W1 base ok (.slice (some ⟨g,0,none⟩) n cap) (shf xs k)∧W.grownBy W1 (some g):=by
 obtain⟨hn,hc,_⟩:=Kd.R_reads' h
 by_cases h1:k+1<xs.length
 ·obtain rfl:=hA h1
  subst hB
  have hl:((xs.drop k).take (xs.length-(k+1))).length=xs.length-(k+1):=by rw[List.length_take,List.length_drop];omega
  have hr:=run_copy_cells2 (P:=P) W t t ty e g ((k+1) * 2) (xs.length-(k+1)) c1 ⟨g,k * 2,none⟩ (xs.length-k) c2 (flat2 ((xs.drop k).take (xs.length-(k+1)))) ht hs
   (by rw[flat2_len,hl];congr 1;exact(Nat.min_eq_right (by omega)).symm)
   (fun j v hv=>by
    obtain⟨x,hx,hc⟩:=flat2_get _ _ _ hv
    have hj:j / 2<xs.length-(k+1):=by
     rcases Nat.lt_or_ge (j / 2) ((xs.drop k).take (xs.length-(k+1))).length with hj|hj
     ·omega
     ·rw[List.getElem?_eq_none hj] at hx;cases hx
    rw[List.getElem?_take_of_lt hj,List.getElem?_drop,List.getElem?_eq_getElem (by omega),Option.some.injEq] at hx
    obtain⟨c,hcl,hM,hcc,_⟩:=Kd.R_elem h z85 ((k+j / 2:Nat):Int) (by omega) (by omega)
    obtain rfl:=k85_openM hM
    rw[Int.toNat_natCast] at hcc
    have h3:xs.getD (k+j / 2) z85=x:=by rw[List.getD_eq_getElem?_getD,List.getElem?_eq_getElem (by omega)];exact hx
    rw[h3] at hcc
    rw[show (⟨g,k * 2,none⟩:Addr).add j=⟨g,k * 2+j,none⟩ by simp[Addr.add]]
    rcases hc with ⟨hm,rfl⟩|⟨hm,rfl⟩
    ·have h4:=hcc 0 _ rfl
     rwa [show (k+j / 2) * (k85).sz+0=k * 2+j from by show (k+j / 2) * 2+0=_;omega] at h4
    ·have h4:=hcc 1 _ rfl
     rwa [show (k+j / 2) * (k85).sz+1=k * 2+j from by show (k+j / 2) * 2+1=_;omega] at h4)
   (fun j hj=>by
    rw[flat2_len,hl] at hj
    obtain⟨c,hcl,hM,hcc,_⟩:=Kd.R_elem h z85 ((k+1+j / 2:Nat):Int) (by omega) (by omega)
    obtain rfl:=k85_openM hM
    rw[Int.toNat_natCast] at hcc
    rcases (show j % 2=0∨j % 2=1 by omega) with hm|hm
    ·have h4:=hcc 0 _ rfl
     rw[show (k+1+j / 2) * (k85).sz+0=(k+1) * 2+j from by show (k+1+j / 2) * 2+0=_;omega] at h4
     rw[h4];rfl
    ·have h4:=hcc 1 _ rfl
     rw[show (k+1+j / 2) * (k85).sz+1=(k+1) * 2+j from by show (k+1+j / 2) * 2+1=_;omega] at h4
     rw[h4];rfl)
   (fun j hj=>by
    rw[flat2_len,hl] at hj
    obtain⟨c,hcl,hM,hcc,hfr⟩:=Kd.R_elem h z85 ((k+1+j / 2:Nat):Int) (by omega) (by omega)
    rw[Int.toNat_natCast] at hfr
    have h4:=hfr (j % 2)
    rwa [show (k+1+j / 2) * (k85).sz+j % 2=(k+1) * 2+j from by show (k+1+j / 2) * 2+j % 2=_;omega] at h4)
   (flat2_one _)
  obtain⟨h3,h4⟩:=R_puts2 ((xs.drop k).take (xs.length-(k+1))) (k+1) W xs (by rw[hl];omega) h
  refine⟨_,_,hr,?_,h4⟩
  have e0:xs.drop (k+1+(xs.length-(k+1)))=[]:=List.drop_eq_nil_of_le (by omega)
  rw[puts_eq _ _ _ (by rw[hl];omega),hl,e0,List.append_nil] at h3
  exact h3
 ·refine⟨_,W,run_copy_none2 W t t ty e A B _ c1 _ c2 ht hs (by rw[show xs.length-(k+1)=0 by omega];exact Nat.min_eq_right (Nat.zero_le _)),?_,World.grownBy.refl _ _⟩
  have e1:shf xs k=xs:=by
   unfold shf
   rw[show xs.length-(k+1)=0 by omega,List.take_zero,List.append_nil,List.take_of_length_le (by omega)]
  rw[e1];exact h
theorem drop_own {P:Program} (t e:TypeId) {i:TypeInfo} (ht:P.underlying t=some (.slice e)) (hi:P.info? e=some i) (hsz:i.size=2) (g n c:Nat) (j:Int) (h0:0≤j) (hm:j≤n) (hc:n≤c) :
  ∃ A':Option Addr,(∀ W:World,(Instr.slice t (.slice (some ⟨g,0,none⟩) n c) (some (.int .i64 j)) none none).run P W=.ok (.slice A' (n-j.toNat) (c-j.toNat)) W)∧(j<n→A'=some ⟨g,j.toNat * 2,none⟩):=by
 have hel:P.elem t=e:=by simp[Program.elem,ht]
 have hu:P.underlying t=some (.slice (P.elem t)):=by rw[hel];exact ht
 refine⟨if c=j.toNat then some ⟨g,0,none⟩ else some ((⟨g,0,none⟩:Addr).add (j.toNat * 2)),fun W=>?_,fun h=>?_⟩
 ·rw[run_slice_l W t _ n c hu .i64 j h0 (by omega),hel]
  simp[sizeOf,typeInfo,hi,hsz,sliced,Result.andThen]
 ·rw[if_neg (by omega)]
  by_cases hz:j.toNat * 2=0
  ·simp[Addr.add,hz]
  ·simp[Addr.add,hz]
theorem step_copy {P:Program} {ops:Array Oper} {o:Oper} {a:Act} {w:World} {K:Act→World→Prop} {Q:Exit→Act→World→Prop} {E:Prop} {v:Value} {W1:World} {t ty:TypeId} {u y:Value} (hr:(Builtin.copy_ #[t,t] ty #[u,y]).run P w=.ok v W1) (s x:Operand)
  (hg:o.guard=none) (hty:o.type=ty) (hop:o.op=.call { callee:=.builtin .copy,args:=#[s,x],argTypes:=#[t,t] }) (hs:a.eval s=u) (hx:a.eval x=y)
  (N:Option Tmp) (hN:o.dst=N) (hK:K (a.put N v) W1):if Region.wanted o (yielded ops a.tmps)=true then Oper.wp P o a w K Q else E:=by
 have hw:Region.wanted o (yielded ops a.tmps)=true:=by simp[Region.wanted,hg]
 rw[if_pos hw]
 subst hty
 subst hN
 unfold Oper.wp
 simp[execOp,hop,resolve,invoke,builtin,hs,hx,hr,Result.andThen]
 exact hK
mutual
def impl_Lay.j0:Nat→List (S85)→Int→Int→Bool→Int→Int→List Int→Option ((List (S85)) × Bool)
  |0,_,_,_,_,_,_,_=>none
  |k+1,x1,x2,x3,x20,x1837000,x1837001,x1837002=>if x20=true then((impl_copyDepots.f x1).bind fun t1839=>(some (t1839,false))) else((impl_copyDepots.f x1).bind fun t1842=>(impl_Lay.l0 k x1 x2 x3 t1842 0 x1837000 x1837001 x1837002))
def impl_Lay.j2:Nat→List (S85)→Int→Int→List (S85)→Int→Int→Int→List Int→Option ((List (S85)) × Bool)
  |0,_,_,_,_,_,_,_,_=>none
  |k+1,x1,x2,x3,x10,x11,x1837000,x1837001,x1837002=>if x11<(x10.length:Int) then(if 0≤x11 then(impl_Lay.j3 k x1 x2 x3 x10 x11 (((rd_T85 x10 x11).f0)==x2) x1837000 x1837001 x1837002) else(none)) else(impl_Lay.j3 k x1 x2 x3 x10 x11 false x1837000 x1837001 x1837002)
def impl_Lay.j3:Nat→List (S85)→Int→Int→List (S85)→Int→Bool→Int→Int→List Int→Option ((List (S85)) × Bool)
  |0,_,_,_,_,_,_,_,_,_=>none
  |k+1,x1,x2,x3,x10,x11,x52,x1837000,x1837001,x1837002=>if x52=true then(if 0≤x11 then(if x11<(x10.length:Int) then(impl_Lay.j4 k x1 (x10.set (x11:Int).toNat (⟨(rd_T85 x10 x11).f0,wrap64 (((rd_T85 x10 x11).f1)+x3)⟩:S85)) x1837000 x1837001 x1837002) else(none)) else(none)) else(if x10.length<8796093022208 then((some (x10++[(⟨0,0⟩:S85)]:List (S85))).bind fun y1849=>(if 0≤x11 then(if x11<(y1849.length:Int) then(impl_Lay.j4 k x1 ((shf y1849 (x11:Int).toNat).set (x11:Int).toNat (⟨x2,x3⟩:S85)) x1837000 x1837001 x1837002) else(none)) else(none))) else(none))
def impl_Lay.j4:Nat→List (S85)→List (S85)→Int→Int→List Int→Option ((List (S85)) × Bool)
  |0,_,_,_,_,_=>none
  |k+1,x1,x10,x1837000,x1837001,x1837002=>(impl_AreDepots.f k x1837000 x1837001 x1837002 x10).bind fun t1853=>(if t1853=true then(some (x10,true)) else((impl_copyDepots.f x1).bind fun t1854=>(some (t1854,false))))
def impl_Lay.l0:Nat→List (S85)→Int→Int→List (S85)→Int→Int→Int→List Int→Option ((List (S85)) × Bool)
  |0,_,_,_,_,_,_,_,_=>none
  |k+1,x1,x2,x3,x10,x11,x1837000,x1837001,x1837002=>if x11<(x10.length:Int) then(if 0≤x11 then(if ((rd_T85 x10 x11).f0)<x2 then(impl_Lay.l0 k x1 x2 x3 x10 (wrap64 (x11+1)) x1837000 x1837001 x1837002) else(impl_Lay.j2 k x1 x2 x3 x10 x11 x1837000 x1837001 x1837002)) else(none)) else(impl_Lay.j2 k x1 x2 x3 x10 x11 x1837000 x1837001 x1837002)
end
def impl_Lay.f (k:Nat) (a0_0:Int) (a0_1:Int) (l0_2:List Int) (l1:List (S85)) (a2:Int) (a3:Int):Option ((List (S85)) × Bool):=(impl_InRange.f a3 1 10000).bind fun t1837=>(if t1837=true then((impl_AreDepots.f k a0_0 a0_1 l0_2 l1).bind fun t1838=>(impl_Lay.j0 k l1 a2 a3 (!t1838) a0_0 a0_1 l0_2)) else(impl_Lay.j0 k l1 a2 a3 true a0_0 a0_1 l0_2))
def impl_Lay.T9:Bool × List (List Nat × List Nat):=(true,[([],[]),([],[]),([1],[1]),([0,2],[0,2]),([],[]),([],[]),([4,5],[4,5]),([3,6],[3,6])])
theorem impl_Lay.tab9:rtab .any (opsOf Try.f96 9)=impl_Lay.T9:=by kernel_rfl
theorem impl_Lay.calls (k:Nat) (aJ:Int) (aI:Int) (aT:Option Addr) (aQ:Nat) (aH:List Int) (A1:Option Addr) (c1:Nat) (l1:List (S85)) (a2:Int) (a3:Int) (r1:List (S85)) (r2:Bool) (w:World) (cT:Kd.C (Kd.int .i64) w aT aH.length aH) (cU:aH.length≤aQ) (eF:Kd.C k85 w A1 l1.length l1) (eG:l1.length≤c1) (h:impl_Lay.f k aJ aI aH l1 a2 a3=some (r1,r2)) :
  Calls Try.prog 96 #[.agg #[.int .i64 aJ,.int .i64 aI,.slice aT aH.length aQ],.slice A1 l1.length c1,.int .i64 a2,.int .i64 a3] w fun e w'=>∃ v0_:Value,e=.returned (.tuple #[v0_,.bool r2])∧Kd.R k85 85 w' w.heap.size (fun _=>True) v0_ r1∧Below w.heap.size w w':=by
 have hu37:=Try.underlying37;have hu85:=Try.underlying85;have cD:=zA cT;have cE:=zA cU;clear cT cU;have cY:=zA eF;have cZ:=zA eG;clear eF eG;have HB:=zA (Below.refl w.heap.size w);have H:=h;clear h;unfold impl_Lay.f at H;have dP:=zA H;clear H;go_enter Try.func96,Try.ntmps96
 go_upto_region 1 with (first|((with_reducible refine zgd 4 rfl ?_);refine zbx 4 #[.int .i64 aJ,.int .i64 aI,.slice aT aH.length aQ] 37 ?_;intro bD hg w6 hbox hb;have aC:=zA hbox;have fJ:=zga (w:=w) hg;replace HB:=zbs hb;clear hb hbox hg))
 (try simp only[Act.put,List.setIfInBounds_toArray,List.set_cons_zero,List.set_cons_succ])
 go_cut [20] (fun v20 wc=>∃ (kq:Nat) (bL:Bool),v20=.bool bL∧Aside0 (impl_Lay.j0 kq l1 a2 a3 bL aJ aI aH=some (r1,r2))∧Aside0 (kq≤k)∧Aside0 (wc.heap[bD]?=some (.cells #[.int .i64 aJ,.int .i64 aI,(.slice aT aH.length aQ)] 37 (0,0)))∧Aside0 (Below w.heap.size w wc))
 case first =>
  have H:=dP.out;clear dP;obtain⟨dV,A7,H⟩:=zB H
  by_cases c8:dV=true
  ·subst c8;rw[if_pos rfl] at H;obtain⟨cQ,A9,H⟩:=zB H;have H':=zA H;clear H
   go_wp2_with (first|((with_reducible refine zgf 95 rfl ?_);refine zgl 13 Try.func95 #[.int .i64 a3,.int .i64 1,.int .i64 10000] ?_;(with_reducible refine(impl_InRange.calls a3 1 10000 true _ A7.out).mono ?_);rintro e w' ⟨rfl,⟨nd,rfl⟩⟩;refine⟨_,rfl,?_⟩;obtain⟨bC,bB,bA,aZ,aY,aX⟩:=ze3 aC)|(go_at_call 133;(with_reducible refine(impl_AreDepots.calls k aJ aI _ _ aH _ _ l1 cQ _ ?s1 ?s2 ?s3 ?s4 A9.out).mono ?_);(case s1=>exact zCb cD);(case s2=>exact cE.out);(case s3=>exact zCb cY);(case s4=>exact cZ.out);rintro e gG ⟨rfl,hb⟩;replace aC:=zkb aC hb;replace HB:=zbs hb;(try clear hb)))
   go_meet
   case rel=>exact⟨_,(!cQ),zr,H',⟨by first|omega|exact Nat.le_refl _⟩,⟨zk aC⟩,⟨zb⟩⟩
  ·replace c8:=Bool.eq_false_iff.mpr c8;subst c8;rw[if_neg zNo] at H;have H':=zA H;clear H
   go_wp2_with (first|((with_reducible refine zgf 95 rfl ?_);refine zgl 13 Try.func95 #[.int .i64 a3,.int .i64 1,.int .i64 10000] ?_;(with_reducible refine(impl_InRange.calls a3 1 10000 false _ A7.out).mono ?_);rintro e w' ⟨rfl,⟨nd,rfl⟩⟩;refine⟨_,rfl,?_⟩))
   go_meet
   case rel=>exact⟨_,(true),zr,H',⟨by first|omega|exact Nat.le_refl _⟩,⟨zk aC⟩,⟨zb⟩⟩
 case rest =>
  clear dP;(try clear c1);(try clear c8);(try clear bC);(try clear bB);(try clear bA);(try clear aZ);(try clear aY);(try clear aX);obtain⟨kq,bL,rfl,HA,HJ4,aC,HB⟩:=hcut;cases kq with
  |zero=>exact absurd HA.out (by simp[impl_Lay.j0])
  |succ kj4 =>
   have H:=HA.out;clear HA;simp only[impl_Lay.j0] at H
   by_cases bK:bL=true
   ·subst bK;rw[if_pos rfl] at H;obtain⟨dU,fN,H⟩:=zB H;simp only[Option.some.injEq,Prod.mk.injEq] at H;obtain⟨rfl,rfl⟩:=H
    go_wp2_with (first|((with_reducible refine zgf 134 rfl ?_);refine zgl 22 Try.func134 #[.slice A1 l1.length c1] ?_;(with_reducible refine(impl_copyDepots.calls _ _ l1 dU _ ?s1 ?s2 fN.out).mono ?_);(case s1=>exact zCb cY);(case s2=>exact cZ.out);rintro e gF ⟨v1840,rfl,ho0,hb⟩;refine⟨_,rfl,?_⟩;have dO:=zA (Kd.R_lower ho0 (below_size zb));replace aC:=zkb aC hb;replace HB:=zbs hb;(try clear hb);(try clear ho0)))
    go_ret2;exact⟨_,zE,zR dO,zb⟩
   ·replace bK:=Bool.eq_false_iff.mpr bK;subst bK;rw[if_neg zNo] at H;obtain⟨aE,fM,H⟩:=zB H;have cP:=zA H;clear H
    go_upto_block 0 with (first|((with_reducible refine zgf 134 rfl ?_);refine zgl 24 Try.func134 #[.slice A1 l1.length c1] ?_;(with_reducible refine(impl_copyDepots.calls _ _ l1 aE _ ?s1 ?s2 fM.out).mono ?_);(case s1=>exact zCb cY);(case s2=>exact cZ.out);rintro e gE ⟨v1843,rfl,ho0,hb⟩;refine⟨_,rfl,?_⟩;have dN:=zA (Kd.R_lower ho0 (below_size zb));replace aC:=zkb aC hb;replace HB:=zbs hb;(try clear hb);(try clear ho0)))
    (try simp only[Act.put,List.setIfInBounds_toArray,List.set_cons_zero,List.set_cons_succ])
    go_cut [11] (fun v11 wc=>∃ (kq:Nat) (aA:Int),v11=.int .i64 aA∧Aside0 (impl_Lay.j2 kq l1 a2 a3 aE aA aJ aI aH=some (r1,r2))∧Aside0 (kq≤kj4)∧Aside0 (Kd.R k85 85 wc w.heap.size (fun _=>True) v1843 aE)∧Aside0 (wc.heap[bD]?=some (.cells #[.int .i64 aJ,.int .i64 aI,(.slice aT aH.length aQ)] 37 (0,0)))∧Aside0 (Below w.heap.size w wc))
    case first =>
     have H:=cP.out;clear cP;have H':=zA H;clear H;go_wp2
     go_loopg [11] kj4 (fun kq v11 w'=>∃ (aM:Int),v11=.int .i64 aM∧Aside0 (impl_Lay.l0 kq l1 a2 a3 aE aM aJ aI aH=some (r1,r2))∧Aside0 (kq≤kj4)∧Aside0 (Kd.R k85 85 w' w.heap.size (fun _=>True) v1843 aE)∧Aside0 (w'.heap[bD]?=some (.cells #[.int .i64 aJ,.int .i64 aI,(.slice aT aH.length aQ)] 37 (0,0)))∧Aside0 (Below w.heap.size w w'))
     case atStart=>exact⟨(0),zr,H',⟨Nat.le_refl _⟩,⟨zR dN⟩,⟨zk aC⟩,⟨zb⟩⟩
     case round =>
      clear H';(try clear c1);(try clear c8);(try clear bK);(try clear bC);(try clear bB);(try clear bA);(try clear aZ);(try clear aY);(try clear aX);obtain⟨aM,rfl,HA,HK2,aD,aC,HB⟩:=hrel
      cases gk with
      |zero=>exact absurd HA.out (by simp[impl_Lay.l0])
      |succ k2 =>
       have H:=HA.out;clear HA;simp only[impl_Lay.l0] at H
       by_cases c18:aM<(aE.length:Int)
       ·rw[if_pos c18] at H;have aU:=decide_eq_true c18;clear c18;(first|rw[aU]|(simp only[i64_w,i32_w];rw[aU])|skip);obtain⟨cC,H⟩:=zifD H
        by_cases c20:((rd_T85 aE aM).f0)<a2
        ·rw[if_pos c20] at H;have bO:=decide_eq_true c20;clear c20;have H':=zA H;clear H;obtain⟨fZ,fT,eP⟩:=Kd.R_slice aD.out;subst eP;have bN:=zT (0≤(aM:Int));have bM:=zT (aM<(aE.length:Int));obtain⟨dL,bZ,bF,bE⟩:=at_T85 (Kd.R_reads' aD.out).2.2 aM zd zd;cases bZ;go_wp2
         go_roundg k2
         case measure=>have:=HJ4.out;have:=HK2.out;omega
         case rel=>exact⟨(wrap64 (aM+1)),zr,H',⟨by have:=HJ4.out;have:=HK2.out;omega⟩,⟨zR aD⟩,⟨zk aC⟩,⟨zb⟩⟩
        ·rw[if_neg c20] at H;have bO:=decide_eq_false c20;clear c20;have H':=zA H;clear H;obtain⟨fY,fS,eO⟩:=Kd.R_slice aD.out;subst eO;have bN:=zT (0≤(aM:Int));have bM:=zT (aM<(aE.length:Int));obtain⟨dL,bZ,bF,bE⟩:=at_T85 (Kd.R_reads' aD.out).2.2 aM zd zd;cases bZ;go_wp2
         go_meet
         case rel=>exact⟨_,(aM),zr,H',⟨by have:=HJ4.out;have:=HK2.out;first|omega|exact Nat.le_refl _⟩,⟨zR aD⟩,⟨zk aC⟩,⟨zb⟩⟩
       ·rw[if_neg c18] at H;have aU:=decide_eq_false c18;clear c18;(first|rw[aU]|(simp only[i64_w,i32_w];rw[aU])|skip);have H':=zA H;clear H;obtain⟨fX,fR,eN⟩:=Kd.R_slice aD.out;subst eN;go_wp2
        go_meet
        case rel=>exact⟨_,(aM),zr,H',⟨by have:=HJ4.out;have:=HK2.out;first|omega|exact Nat.le_refl _⟩,⟨zR aD⟩,⟨zk aC⟩,⟨zb⟩⟩
    case rest =>
     clear cP;(try clear c1);(try clear c8);(try clear bK);(try clear c18);(try clear aU);(try clear c19);(try clear cC);(try clear c20);(try clear bO);(try clear bC);(try clear bB);(try clear bA);(try clear aZ);(try clear aY);(try clear aX);(try clear bF);(try clear bE);(try clear bN);(try clear bM);obtain⟨kq,aA,rfl,HA,HJ15,aD,aC,HB⟩:=hcut;cases kq with
     |zero=>exact absurd HA.out (by simp[impl_Lay.j2])
     |succ kj15 =>
      have H:=HA.out;clear HA;simp only[impl_Lay.j2] at H;have cO:=zA H;clear H
      go_upto_region 6 with (fail)
      go_cut [52] (fun v52 wc=>∃ (kq:Nat) (bI:Bool),v52=.bool bI∧Aside0 (impl_Lay.j3 kq l1 a2 a3 aE aA bI aJ aI aH=some (r1,r2))∧Aside0 (kq≤kj15)∧Aside0 (Kd.R k85 85 wc w.heap.size (fun _=>True) v1843 aE)∧Aside0 (wc.heap[bD]?=some (.cells #[.int .i64 aJ,.int .i64 aI,(.slice aT aH.length aQ)] 37 (0,0)))∧Aside0 (Below w.heap.size w wc))
      case first =>
       have H:=cO.out;clear cO
       by_cases c25:aA<(aE.length:Int)
       ·rw[if_pos c25] at H;have bG:=decide_eq_true c25;clear c25;(first|rw[bG]|(simp only[i64_w,i32_w];rw[bG])|skip);obtain⟨cW,H⟩:=zifD H;have H':=zA H;clear H;obtain⟨fW,fQ,eM⟩:=Kd.R_slice aD.out;subst eM;have cS:=zT (0≤(aA:Int));have cR:=zT (aA<(aE.length:Int));obtain⟨fI,dZ,bV,bU⟩:=at_T85 (Kd.R_reads' aD.out).2.2 aA zd zd;cases dZ;go_wp2
        go_meet
        case rel=>exact⟨_,((((rd_T85 aE aA).f0)==a2)),zr,H',⟨by have:=HJ4.out;have:=HJ15.out;first|omega|exact Nat.le_refl _⟩,⟨zR aD⟩,⟨zk aC⟩,⟨zb⟩⟩
       ·rw[if_neg c25] at H;have bG:=decide_eq_false c25;clear c25;(first|rw[bG]|(simp only[i64_w,i32_w];rw[bG])|skip);have H':=zA H;clear H;obtain⟨fV,fP,eL⟩:=Kd.R_slice aD.out;subst eL;go_wp2
        go_meet
        case rel=>exact⟨_,(false),zr,H',⟨by have:=HJ4.out;have:=HJ15.out;first|omega|exact Nat.le_refl _⟩,⟨zR aD⟩,⟨zk aC⟩,⟨zb⟩⟩
      case rest =>
       clear cO;(try clear c1);(try clear c8);(try clear bK);(try clear c18);(try clear aU);(try clear c19);(try clear cC);(try clear c20);(try clear bO);(try clear c25);(try clear bG);(try clear c26);(try clear cW);(try clear bC);(try clear bB);(try clear bA);(try clear aZ);(try clear aY);(try clear aX);(try clear bF);(try clear bE);(try clear bV);(try clear bU);(try clear bN);(try clear cS);(try clear bM);(try clear cR);obtain⟨kq,bI,rfl,HA,HJ23,aD,aC,HB⟩:=hcut;cases kq with
       |zero=>exact absurd HA.out (by simp[impl_Lay.j3])
       |succ kj23 =>
        have H:=HA.out;clear HA;simp only[impl_Lay.j3] at H;have cN:=zA H;clear H
        go_upto_if 52 with (fail)
        go_cut [10] (fun v10 wc=>∃ (kq:Nat) (aN:List (S85)),Aside0 (impl_Lay.j4 kq l1 aN aJ aI aH=some (r1,r2))∧Aside0 (kq≤kj23)∧Aside0 (Kd.R k85 85 wc w.heap.size (fun _=>True) v10 aN)∧Aside0 (wc.heap[bD]?=some (.cells #[.int .i64 aJ,.int .i64 aI,(.slice aT aH.length aQ)] 37 (0,0)))∧Aside0 (Below w.heap.size w wc))
        case first =>
         have H:=cN.out;clear cN
         by_cases cM:bI=true
         ·subst cM;rw[if_pos rfl] at H;obtain⟨cB,H⟩:=zifD H;(first|rw[cB]|(simp only[i64_w,i32_w];rw[cB])|skip);obtain⟨eC,H⟩:=zifD H;obtain⟨bY,bR⟩:∃ y_:List (S85),y_=(aE.set (aA:Int).toNat (⟨(rd_T85 aE aA).f0,wrap64 (((rd_T85 aE aA).f1)+a3)⟩:S85)):=⟨_,rfl⟩
          replace H:(impl_Lay.j4 kj23 l1 bY aJ aI aH)=some (r1,r2):=zY bR H
          have Ny1848:=zA bR;clear bR;have H':=zA H;clear H;obtain⟨fU,dK,eK⟩:=Kd.R_slice aD.out;subst eK;have dX:=zT (0≤(aA:Int));have dW:=zT (aA<(aE.length:Int));obtain⟨fH,dY,bT,bS⟩:=at_T85 (Kd.R_reads' aD.out).2.2 aA zd zd;cases dY;have cI:0≤(aA:Int):=zd;have cG:(aA:Int)<((aE.length:Int):Int):=zd;obtain⟨go33,fO,dJ,dH,gl33,cl33,HG33⟩:=Kd.R_form aD.out (by omega);(first|cases dJ|(injection dJ with ea_ en_ ec_;(first|subst ea_|(injection ea_ with ea_;subst ea_));subst ec_;clear en_));have GB33:=zA dH;have GG33:=zA HG33;clear dH gl33 HG33;(first|simp only[add_plain] at bT|skip);(first|simp only[add_plain] at bS|skip);obtain⟨ce33,hcl33,hM33,hcc33,hfr33⟩:=Kd.R_elem aD.out z85 (aA:Int) cI cG;obtain rfl:=k85_openM hM33;have dF:wc.cell? ⟨go33,(aA:Int).toNat * 2,none⟩=some (.int .i64 ((rd_T85 aE aA).f0)):=hcc33 0 _ rfl;have dE:wc.cell? ⟨go33,(aA:Int).toNat * 2+1,none⟩=some (.int .i64 ((rd_T85 aE aA).f1)):=hcc33 1 _ rfl;have hf33_0:wc.frozen? ⟨go33,(aA:Int).toNat * 2,none⟩=false:=hfr33 0;have hf33_1:wc.frozen? ⟨go33,(aA:Int).toNat * 2+1,none⟩=false:=hfr33 1;clear hcl33 hcc33 hfr33 hM33;replace cI:=eq_true cI;replace cG:=eq_true cG;have HX35:=zA (show Kd.R k85 85 wc w.heap.size (fun _=>True) (.slice (some ⟨go33,0,none⟩) aE.length dK) aE from (zR aD));obtain⟨ce35,hcl35,hM35,hcc35,hfr35⟩:=Kd.R_elem HX35.out z85 (aA:Int) zd (by have h_:(aA:Int)<((aE.length:Int):Int):=zd;first|exact h_|(have e_:=(Kd.R_reads' aD.out).1;omega)|simpa using h_);obtain rfl:=k85_openM hM35;have HP35:=Kd.R_seg HX35.out (aA:Int) zd (by have h_:(aA:Int)<((aE.length:Int):Int):=zd;first|exact h_|(have e_:=(Kd.R_reads' aD.out).1;omega)|simpa using h_) (seg:=[.int .i64 (wrap64 (((rd_T85 aE aA).f1)+a3))]) (j:=1) hcl35 hcc35 (show 2≤2 from by decide) (x':=(⟨(rd_T85 aE aA).f0,wrap64 (((rd_T85 aE aA).f1)+a3)⟩:S85)) (k85_mkM _ _ _ (⟨(rd_T85 aE aA).f0,wrap64 (((rd_T85 aE aA).f1)+a3)⟩:S85) ) (fun _ hk=>hk);have cL:=hcc35 1 _ rfl;(try simp only[show (k85).sz=2 from rfl,Nat.mul_one,Nat.add_zero] at cL);have hf35_1:=hfr35 1;(try simp only[show (k85).sz=2 from rfl,Nat.mul_one,Nat.add_zero] at hf35_1);clear hcl35 hcc35 hfr35 hM35
          go_wp2_with (first|((with_reducible refine gate_store (t:=3) (p:=61) rfl ?_);refine store_event (t:=3) (p:=61) (v:=?vo_w36) (w1:=(wc.setCell ⟨go33,(aA:Int).toNat * 2+1,none⟩ (.int .i64 (wrap64 (((rd_T85 aE aA).f1)+a3))))) ?hg ?ho ?hn ?hr ?_;(case ho=>rfl);(case hg=>rfl);(case hn=>rfl);(case hr=>first|(go_simp;done)|(go_simp;rfl));intro dB hw;have hg:wc.grownBy dB (some go33):=(by rw[hw];exact HP35.2);have hp_:Kd.R k85 85 dB w.heap.size (fun _=>True) (.slice (some ⟨go33,0,none⟩) aE.length dK) bY:=(by rw[hw,Ny1848.out];exact HP35.1);clear HP35;replace aC:=zgr aC hg (Kd.R_ne aD.out aC.out (by decide));replace aD:=zA hp_;replace HB:=zA ((by rw[hw];exact below_set (HB.out) GB33.out:Below w.heap.size w dB));clear hg hw hp_))
          go_meet
          case rel=>exact⟨_,(bY),H',⟨by have:=HJ4.out;have:=HJ15.out;have:=HJ23.out;first|omega|exact Nat.le_refl _⟩,⟨zR aD⟩,⟨zk aC⟩,⟨zb⟩⟩
         ·replace cM:=Bool.eq_false_iff.mpr cM;subst cM;rw[if_neg zNo] at H;obtain⟨cX,H⟩:=zifA H;obtain⟨aK,bQ⟩:∃ y_:List (S85),y_=(aE++[(⟨0,0⟩:S85)]):=⟨_,rfl⟩
          replace H:(if 0≤aA then(if aA<(aK.length:Int) then(impl_Lay.j4 kj23 l1 ((shf aK (aA:Int).toNat).set (aA:Int).toNat (⟨a2,a3⟩:S85)) aJ aI aH) else(none)) else(none))=some (r1,r2):=zY bQ H
          have Ny1849:=zA bQ;clear bQ;obtain⟨eB,H⟩:=zifD H;obtain⟨eA,H⟩:=zifD H;obtain⟨bX,bP⟩:∃ y_:List (S85),y_=((shf aK (aA:Int).toNat).set (aA:Int).toNat (⟨a2,a3⟩:S85)):=⟨_,rfl⟩
          replace H:(impl_Lay.j4 kj23 l1 bX aJ aI aH)=some (r1,r2):=zY bP H
          have Ny1852:=zA bP;clear bP;have H':=zA H;clear H
          go_wp2_with (first|((with_reducible refine gate_builtin (b:=.append) (xs:=#[.tmp 62,.tmp 64]) rfl ?_);at_builtin;refine Kd.R_append k85 (w0:=w) w.heap.size rfl (.tmp 62) (.tmp 64) 39 85 (.agg #[(.int .i64 0),(.int .i64 0)]) 16 rfl Try.underlying39 info85 rfl (by decide) (by omega) v1843 aE (⟨0,0⟩:S85) [.int .i64 0,.int .i64 0] (fun _=>True) (fun _=>False) rfl rfl ?aP (fun _ hk=>hk.elim) ?aF ?aO ?aB ?aS ?aL ?_;(case aP=>exact k85_mkM _ _ _ (⟨0,0⟩:S85));(case aB=>exact zb);(case aF=>exact(fun _ _=>trivial));(case aO=>exact(zR aD));(case aS=>exact(below_size zb));(case aL=>have:=cX.out;omega);intro v1850 fG ho hb hg hat;rw[←Ny1849.out] at ho;replace aC:=zgr aC hg (Kd.R_ne aD.out aC.out (by decide));replace HB:=zA hb;have aG:=zA ho;clear aD;clear ho hb hg hat))
          have cH:0≤(aA:Int):=zd;have cF:(aA:Int)<((aK.length:Int):Int):=zd;obtain⟨go40,bH,dI,dG,gl40,cl40,HG40⟩:=Kd.R_form aG.out (by omega);(first|cases dI|(injection dI with ea_ en_ ec_;(first|subst ea_|(injection ea_ with ea_;subst ea_));subst ec_;clear en_));have GB40:=zA dG;have GG40:=zA HG40;clear dG gl40 HG40;have YL:=shf_len aK (aA:Int).toNat (by omega);obtain⟨i0c,hi0c,_,hszc,_⟩:=info_parts info85;obtain⟨hnn_,hcc_,_⟩:=Kd.R_reads' aG.out;have j1w_:IntKind.i64.wrap (aA+1)=aA+1:=(i64_w _).trans (by have hly_:=congrArg List.length Ny1849.out;simp only[List.length_append,List.length_singleton] at hly_;have hlm_:=cX.out;unfold wrap64;omega);obtain⟨Ad_,hcd_,had_⟩:=drop_own (P:=Try.prog) 39 85 Try.underlying39 hi0c hszc go40 aK.length bH (aA+1) (by omega) (by omega) hcc_;obtain⟨As_,hcs_,has_⟩:=drop_own (P:=Try.prog) 39 85 Try.underlying39 hi0c hszc go40 aK.length bH aA (by omega) (by omega) hcc_;have k1_:(aA+1).toNat=aA.toNat+1:=(by omega);rw[k1_] at hcd_ had_;obtain rfl:=(has_ (by omega)).symm;have RUN_:=zA (fun (w_:World) (h_:Kd.R k85 85 w_ w.heap.size (fun _=>True) (.slice (some ⟨go40,0,none⟩) aK.length bH) aK)=>run_shift (P:=Try.prog) (t:=39) (e:=85) (ty:=3) Try.underlying39 (by simp[hi0c,hszc]) h_ aA.toNat (by omega) Ad_ _ (fun h_=>had_ (by omega)) rfl (bH-(aA.toNat+1)) (bH-aA.toNat));clear hszc hi0c hnn_ hcc_ had_ has_
          go_wp2_with fail
          refine start_ (n:=8) (S:=fun _=>True) (ds:=[]) _ (by kernel_rfl) rfl rfl trivial (fun _=>?_);refine with_tab impl_Lay.tab9 (fun HT_=>?_);replace aG:=zA (Kd.R_drew aG.out);replace aC:=zA (blk_drew aC.out);replace HB:=zA (below_drew1 HB.out);generalize fG.drew=wd_ at aG aC HB ⊢
          obtain⟨vc_,wc_,e_,r_,g_⟩:=RUN_.out wd_ aG.out;have BB_:=zA (Below.grown HB.out g_ (below_size HB.out) (fun k_ hk_=>by injection hk_ with hk_;rw[←hk_];exact GB40.out));replace aC:=zA (blk_grown (g:=bD) (o:=.cells #[.int .i64 aJ,.int .i64 aI,.slice aT aH.length aQ] 37 (0,0)) (zk aC) g_ (Kd.R_ne aG.out aC.out (by decide)));have RR_:=zA r_;have EE_:=zA e_;clear e_ r_ g_ RUN_
          refine zp 0 66 HT_ ?_;refine zp 1 67 HT_ ?_;refine zp 2 68 HT_ ?_;refine zp 3 69 HT_ ?_;refine zp 4 70 HT_ ?_;refine zp 5 71 HT_ ?_;refine zp 6 72 HT_ ?_
          refine zo 7 73 HT_ (fun K hK=>?_)
          refine step_copy EE_.out (.tmp 69) (.tmp 72) (by rfl) (by rfl) (by rfl) (by rfl) (by rfl) (some 73) (by rfl) ?_
          refine hK.out _ _ trivial (fun _=>?_);clear hK K;refine norm_ zV ?_;refine done_ (done_of HT_.out (by kernel_rfl)) ?_
          have eE:=RR_;have eD:=BB_;clear HB;clear aG;have HB:=eD;have aG:=eE;clear eE eD RR_ BB_ EE_
          obtain⟨ys_,hys_⟩:∃ y_,y_=shf aK (aA:Int).toNat:=⟨_,rfl⟩;rw[←hys_] at aG YL;have Nys:=zA hys_;clear hys_
          obtain⟨ce40,hcl40,hM40,hcc40,hfr40⟩:=Kd.R_elem aG.out z85 (aA:Int) cH cF;obtain rfl:=k85_openM hM40;have dD:wc_.cell? ⟨go40,(aA:Int).toNat * 2,none⟩=some (.int .i64 ((rd_T85 ys_ aA).f0)):=hcc40 0 _ rfl;have dC:wc_.cell? ⟨go40,(aA:Int).toNat * 2+1,none⟩=some (.int .i64 ((rd_T85 ys_ aA).f1)):=hcc40 1 _ rfl;have hf40_0:wc_.frozen? ⟨go40,(aA:Int).toNat * 2,none⟩=false:=hfr40 0;have hf40_1:wc_.frozen? ⟨go40,(aA:Int).toNat * 2+1,none⟩=false:=hfr40 1;clear hcl40 hcc40 hfr40 hM40;replace cH:=eq_true cH;replace cF:=eq_true cF;have HX42:=zA (show Kd.R k85 85 wc_ w.heap.size (fun _=>True) (.slice (some ⟨go40,0,none⟩) aK.length bH) ys_ from (zR aG));obtain⟨ce42,hcl42,hM42,hcc42,hfr42⟩:=Kd.R_elem HX42.out z85 (aA:Int) zd (by have h_:(aA:Int)<((aK.length:Int):Int):=zd;first|exact h_|(have e_:=(Kd.R_reads' aG.out).1;omega)|simpa using h_);obtain rfl:=k85_openM hM42;have HP42:=Kd.R_seg HX42.out (aA:Int) zd (by have h_:(aA:Int)<((aK.length:Int):Int):=zd;first|exact h_|(have e_:=(Kd.R_reads' aG.out).1;omega)|simpa using h_) (seg:=[.int .i64 a2,.int .i64 a3]) (j:=0) hcl42 hcc42 (show 2≤2 from by decide) (x':=(⟨a2,a3⟩:S85)) (k85_mkM _ _ _ (⟨a2,a3⟩:S85) ) (fun _ hk=>hk);have cK:=hcc42 0 _ rfl;(try simp only[show (k85).sz=2 from rfl,Nat.mul_one,Nat.add_zero] at cK);have hf42_0:=hfr42 0;(try simp only[show (k85).sz=2 from rfl,Nat.mul_one,Nat.add_zero] at hf42_0);have cJ:=hcc42 1 _ rfl;(try simp only[show (k85).sz=2 from rfl,Nat.mul_one,Nat.add_zero] at cJ);have hf42_1:=hfr42 1;(try simp only[show (k85).sz=2 from rfl,Nat.mul_one,Nat.add_zero] at hf42_1);clear hcl42 hcc42 hfr42 hM42
          go_wp2_with (first|((with_reducible refine gate_store (t:=85) (p:=79) rfl ?_);refine store_event (t:=85) (p:=79) (v:=?vo_w43) (w1:=((wc_.setCell ⟨go40,(aA:Int).toNat * 2,none⟩ (.int .i64 a2)).setCell ⟨go40,(aA:Int).toNat * 2+1,none⟩ (.int .i64 a3))) ?hg ?ho ?hn ?hr ?_;(case ho=>rfl);(case hg=>rfl);(case hn=>rfl);(case hr=>first|(go_simp;done)|(go_simp;rfl));intro dA hw;have hg:wc_.grownBy dA (some go40):=(by rw[hw];exact HP42.2);have hp_:Kd.R k85 85 dA w.heap.size (fun _=>True) (.slice (some ⟨go40,0,none⟩) aK.length bH) bX:=(by rw[hw,Ny1852.out,←Nys.out];exact HP42.1);clear HP42;replace aC:=zgr aC hg (Kd.R_ne aG.out aC.out (by decide));replace aG:=zA hp_;replace HB:=zA ((by rw[hw];exact below_set (below_set (HB.out) GB40.out) GB40.out:Below w.heap.size w dA));clear hg hw hp_))
          go_meet
          case rel=>exact⟨_,(bX),H',⟨by have:=HJ4.out;have:=HJ15.out;have:=HJ23.out;first|omega|exact Nat.le_refl _⟩,⟨zR aG⟩,⟨zk aC⟩,⟨zb⟩⟩
        case rest =>
         clear cN;(try clear c1);(try clear c8);(try clear bK);(try clear c18);(try clear aU);(try clear c19);(try clear cC);(try clear c20);(try clear bO);(try clear c25);(try clear bG);(try clear c26);(try clear cW);(try clear cM);(try clear c31);(try clear cB);(try clear c32);(try clear eC);(try clear cI);(try clear cG);(try clear c37);(try clear c38);(try clear eB);(try clear c39);(try clear eA);(try clear cH);(try clear cF);(try clear bC);(try clear bB);(try clear bA);(try clear aZ);(try clear aY);(try clear aX);(try clear bF);(try clear bE);(try clear bV);(try clear bU);(try clear bT);(try clear bS);(try clear dF);(try clear dE);(try clear cL);(try clear dD);(try clear dC);(try clear cK);(try clear cJ);(try clear bN);(try clear cS);(try clear dX);(try clear cI);(try clear cH);(try clear bM);(try clear cR);(try clear dW);(try clear cG);(try clear cF);obtain⟨kq,aN,HA,HJ28,aD,aC,HB⟩:=hcut;cases kq with
         |zero=>exact absurd HA.out (by simp[impl_Lay.j4])
         |succ kj28 =>
          have H:=HA.out;clear HA;simp only[impl_Lay.j4] at H;obtain⟨dS,eH,H⟩:=zB H
          by_cases cV:dS=true
          ·subst cV;rw[if_pos rfl] at H;simp only[Option.some.injEq,Prod.mk.injEq] at H;obtain⟨rfl,rfl⟩:=H;obtain⟨fF,fE,fD,eZ,eY,eX⟩:=ze3 aC;obtain⟨eT,eR,eJ⟩:=Kd.R_slice aD.out;subst eJ
           go_wp2_with (first|((with_reducible refine zgf 133 rfl ?_);refine zgl 82 Try.func133 #[.agg #[.int .i64 aJ,.int .i64 aI,.slice aT aH.length aQ],.slice eT aN.length eR] ?_;(with_reducible refine(impl_AreDepots.calls kj28 aJ aI _ _ aH _ _ aN true _ ?s1 ?s2 ?s3 ?s4 eH.out).mono ?_);(case s1=>exact zCb cD);(case s2=>exact cE.out);(case s3=>exact zCx (Kd.R_reads' aD.out).2.2);(case s4=>exact(Kd.R_reads' aD.out).2.1);rintro e gD ⟨rfl,hb⟩;refine⟨_,rfl,?_⟩;replace aD:=zRb aD hb;replace aC:=zkb aC hb;replace HB:=zbs hb;(try clear hb)))
           go_ret2;exact⟨_,zE,zR aD,zb⟩
          ·replace cV:=Bool.eq_false_iff.mpr cV;subst cV;rw[if_neg zNo] at H;obtain⟨dR,fL,H⟩:=zB H;simp only[Option.some.injEq,Prod.mk.injEq] at H;obtain⟨rfl,rfl⟩:=H;obtain⟨fC,fB,fA,eW,eV,eU⟩:=ze3 aC;obtain⟨eS,eQ,eI⟩:=Kd.R_slice aD.out;subst eI
           go_wp2_with (first|((with_reducible refine zgf 133 rfl ?_);refine zgl 82 Try.func133 #[.agg #[.int .i64 aJ,.int .i64 aI,.slice aT aH.length aQ],.slice eS aN.length eQ] ?_;(with_reducible refine(impl_AreDepots.calls kj28 aJ aI _ _ aH _ _ aN false _ ?s1 ?s2 ?s3 ?s4 eH.out).mono ?_);(case s1=>exact zCb cD);(case s2=>exact cE.out);(case s3=>exact zCx (Kd.R_reads' aD.out).2.2);(case s4=>exact(Kd.R_reads' aD.out).2.1);rintro e gC ⟨rfl,hb⟩;refine⟨_,rfl,?_⟩;replace aD:=zRb aD hb;replace aC:=zkb aC hb;replace HB:=zbs hb;(try clear hb))|((with_reducible refine zgf 134 rfl ?_);refine zgl 85 Try.func134 #[.slice A1 l1.length c1] ?_;(with_reducible refine(impl_copyDepots.calls _ _ l1 dR _ ?s1 ?s2 fL.out).mono ?_);(case s1=>exact zCb cY);(case s2=>exact cZ.out);rintro e gB ⟨v1855,rfl,ho0,hb⟩;refine⟨_,rfl,?_⟩;have dM:=zA (Kd.R_lower (Kd.R_new' ho0 (Kd.R_lt (zR aD))) (below_size zb));replace aD:=zA (Kd.R_elder' (zR aD) (Kd.R_base ho0) hb);replace aC:=zkb aC hb;replace HB:=zbs hb;(try clear hb);(try clear ho0)))
           go_ret2;exact⟨_,zE,by(with_reducible repeat (first|apply Kd.R_alloc|apply Kd.R_drewN|apply Kd.R_drew));exact Kd.R_mono dM.out (fun _ hk=>trivial),zb⟩

def impl_Party_less.f (a0_0:Int) (a0_1:Int) (l0_2:List (S117)) (l0_3:List Bool) (a1:Int):Option (Int × Int × (List (S117)) × List Bool):=(impl_Party_copied.f a0_0 a0_1 l0_2 l0_3).bind fun bt1859=>(some (bt1859.1,wrap64 (bt1859.2.1-a1),bt1859.2.2.1,bt1859.2.2.2))
theorem impl_Party_less.calls (aN:Int) (aM:Int) (bD:Option Addr) (bB:Nat) (aI:List (S117)) (bC:Option Addr) (bA:Nat) (aH:List Bool) (a1:Int) (r1:Int) (r2:Int) (r3:List (S117)) (r4:List Bool) (w:World) (bK:Kd.C k117 w bD aI.length aI) (bM:aI.length≤bB) (bJ:Kd.C Kd.bool w bC aH.length aH) (bL:aH.length≤bA) (h:impl_Party_less.f aN aM aI aH a1=some (r1,r2,r3,r4)) :
  Calls Try.prog 97 #[.agg #[.int .i64 aN,.int .i64 aM,.slice bD aI.length bB,.slice bC aH.length bA],.int .i64 a1] w fun e w'=>∃ v2_ v3_:Value,e=.returned (.agg #[.int .i64 r1,.int .i64 r2,v2_,v3_])∧Kd.R k117 117 w' w.heap.size (fun _=>True) v2_ r3∧Kd.R Kd.bool 4 w' w.heap.size (fun _=>True) v3_ r4∧Below w.heap.size w w':=by
 have hu42:=Try.underlying42;have bP:=zA bK;have bR:=zA bM;clear bK bM;have bO:=zA bJ;have bQ:=zA bL;clear bJ bL;have HB:=zA (Below.refl w.heap.size w);have H:=h;clear h;unfold impl_Party_less.f at H;obtain⟨⟨aZ,aY,aK,aJ⟩,A3,H⟩:=zB H;simp only[Option.some.injEq,Prod.mk.injEq] at H;obtain⟨rfl,rfl,rfl,rfl⟩:=H;go_enter Try.func97,Try.ntmps97
 go_upto_region 2 with (first|((with_reducible refine zgd 2 rfl ?_);refine zbx 2 #[.int .i64 aN,.int .i64 aM,.slice bD aI.length bB,.slice bC aH.length bA] 42 ?_;intro cT hg w4 hbox hb;have aC:=zA hbox;have cW:=zga (w:=w) hg;replace HB:=zbs hb;clear hb hbox hg)|((with_reducible refine zgd 4 rfl ?_);refine zbx 4 #[.int .i64 0,.int .i64 0,.slice none 0 0,.slice none 0 0] 42 ?_;intro bE hg w5 hbox hb;have aA:=zA hbox;have cV:=zga (w:=w) hg;replace HB:=zbs hb;replace aC:=zlh aC hg hb;obtain⟨aX,aV,aC⟩:=aC;clear hb hbox hg;have dC:=aX.out;have dB:=aV.out;obtain⟨cS,cR,cQ,cP,cO,cN,cM,cL⟩:=ze4 aC)|((with_reducible refine zgf 81 rfl ?_);refine zgl 7 Try.func81 #[.agg #[.int .i64 aN,.int .i64 aM,.slice bD aI.length bB,.slice bC aH.length bA]] ?_;(with_reducible refine(impl_Party_copied.calls aN aM _ _ aI _ _ aH aZ aY aK aJ _ ?s1 ?s2 ?s3 ?s4 A3.out).mono ?_);(case s1=>exact zCb bP);(case s2=>exact bR.out);(case s3=>exact zCb bO);(case s4=>exact bQ.out);rintro e w8 ⟨v1862,v1865,rfl,ho0,ho1,hb⟩;refine⟨_,rfl,?_⟩;have aG:=zA (Kd.R_lower ho0 (below_size zb));have aE:=zA (Kd.R_lower ho1 (below_size zb));replace aC:=zkb aC hb;replace aA:=zkb aA hb;replace HB:=zbs hb;(try clear hb);(try clear ho0);(try clear ho1))|((with_reducible refine zgd 5 rfl ?_);refine zbx 5 #[.int .i64 0,.int .i64 0,.slice none 0 0,.slice none 0 0] 42 ?_;intro bN hg w9 hbox hb;replace aG:=zRb aG hb;replace aE:=zRb aE hb;have aD:=zA hbox;have cU:=zga (w:=w) hg;replace HB:=zbs hb;replace aC:=zlh aC hg hb;obtain⟨aW,aT,aC⟩:=aC;replace aA:=zlh aA hg hb;obtain⟨aU,aQ,aA⟩:=aA;clear hb hbox hg;have dA:=aT.out;have cY:=aW.out;have cZ:=aQ.out;have cX:=aU.out;obtain⟨cK,cJ,cI,cH,cC,cB,cA,bZ⟩:=ze4 aD;obtain⟨bI,bG,bT⟩:=Kd.R_slice aG.out;subst bT;obtain⟨bH,bF,bS⟩:=Kd.R_slice aE.out;subst bS;obtain⟨cG,cF,cE,cD,bY,bX,bW,bV⟩:=ze4 aA))
 refine zgenC (fun w_=>Kd.R k117 117 w_ w.heap.size (fun _=>True) (.slice bI aK.length bG) aK∧Kd.R Kd.bool 4 w_ w.heap.size (fun _=>True) (.slice bH aJ.length bF) aJ∧w_.heap[bE]?=some (.cells #[.int .i64 0,.int .i64 0,.slice none 0 0,.slice none 0 0] 42 (0,0))∧w_.heap[bN]?=some (.cells #[.int .i64 aZ,.int .i64 aY,.slice bI aK.length bG,.slice bH aJ.length bF] 42 (0,0))∧Below w.heap.size w w_) ⟨zF1 aG aD,zF1 aE aD,zkf aA,zkp aD,zb⟩ ?_;clear aG aE aA aD HB
 intro wg_ ⟨z0_,z1_,z2_,z3_,z4_⟩;have aG:=zA z0_;clear z0_;have aE:=zA z1_;clear z1_;have aA:=zA z2_;clear z2_;have aD:=zA z3_;clear z3_;have HB:=zA z4_;clear z4_
 obtain⟨za0,za1,za2,za3,zb0,zb1,zb2,zb3⟩:=ze4 aD;obtain⟨zc0_,zc1_,zc2_,zc3_,zd0,zd1,zd2,zd3⟩:=ze4 aA
 go_wp2
 refine bodyPost_ret (results_cell_row rfl _ _ bE 42 #[.int .i64 aZ,.int .i64 (wrap64 (aY-a1)),.slice bI aK.length bG,.slice bH aJ.length bF] (0,0) _ rfl (zkp aA) Try.underlying42 rfl (by kernel_rfl)) rfl ?_;exact⟨_,_,zE,zF2 aG aD aA,zF2 aE aD aA,zb⟩
end Go.Proofs.Yteiepphhkikmoaa.Q
