/- Walks of 3 functions of the program: each comes to what a plain function tells. -/
import Derived.Test.YteiepphhkikmoaaG0
namespace Go.Proofs.Yteiepphhkikmoaa.Q
open Go.RowKit Go.Proofs.YteiepphhkikmoaaW.PrintWords Go.Proofs.YteiepphhkikmoaaW.PrintLast Go.Proofs.YteiepphhkikmoaaW.PrintMore Go.Proofs.YteiepphhkikmoaaW.Zip
attribute [local go_sem] max2_int min2_int max_two min_two max_three min_three max_four min_four   -- for this text's walks alone
set_option linter.unusedVariables false
set_option maxHeartbeats 8000000
set_option maxRecDepth 100000
set_option linter.unusedSimpArgs false

def XQ.l0:Nat->List (S117)->Int->Int->Option (Int)
  |0,_,_,_=>none
  |k+1,x0,x1,x5=>if x5<(x0.length:Int) then(if 0<=x5 then(if ((rd_T117 x0 x5).f0)=x1 then(if ((rd_T117 x0 x5).f1)=(wrap64 (x1+1)) then(if ((rd_T117 x0 x5).f2)=(wrap64 ((wrap64 (x1+1))+1)) then(if (((rd_T117 x0 x5).f3) != ((Int.tmod (wrap64 ((wrap64 ((wrap64 (x1+1))+1))+1)) 3)==0))=true then(some (-1)) else(XQ.l0 k x0 (wrap64 ((wrap64 ((wrap64 ((wrap64 (x1+1))+1))+1))+1)) (wrap64 (x5+1)))) else(some (-1))) else(some (-1))) else(some (-1))) else(none)) else(some x1)
def XQ.f (k:Nat) (l0:List (S117)) (a1:Int):Option (Int):=XQ.l0 k l0 a1 0
theorem XQ.calls (k:Nat) (A0:Option Addr) (c0:Nat) (l0:List (S117)) (a1:Int) (r:Int) (w:World) (bK:Kd.C k117 w A0 l0.length l0) (bL:l0.length<=c0) (h:XQ.f k l0 a1=some r) :
  Calls Try.prog 83 #[.slice A0 l0.length c0,a1] w fun e w'=>e=.returned (.int .i64 r)/\Drawn0 w w':=by
 have aG:=zA bK;have cB:=zA bL;clear bK bL;have H:=h;clear h;unfold XQ.f at H;have H':=zA H;clear H;go_enter Try.func83,Try.ntmps83;go_wp2
 go_loopg [1,5] k (fun kq v1 v5 w'=>∃ (aB:Int) (aA:Int),v1=.int .i64 aB/\v5=.int .i64 aA/\Aside0 (XQ.l0 kq l0 aB aA=some r)/\Aside0 (kq<=k)/\Drawn0 w w')
 case atStart=>exact⟨(a1),(0),zr,zr,H',⟨Nat.le_refl _⟩,zDr⟩
 case round =>
  clear H';obtain⟨aB,aA,rfl,rfl,HA,HK1,⟨m1,rfl⟩⟩:=hrel
  cases gk with
  |zero=>exact absurd HA.out (by simp[XQ.l0])
  |succ k1 =>
   have H:=HA.out;clear HA;simp only[XQ.l0] at H
   by_cases c3:aA<(l0.length:Int)
   ·rw[if_pos c3] at H;have bV:=decide_eq_true c3;clear c3;obtain⟨cA,H⟩:=zifD H
    by_cases c5:((rd_T117 l0 aA).f0)=aB
    ·rw[if_pos c5] at H;have bU:(((rd_T117 l0 aA).f0)==aB)=true:=beq_iff_eq.mpr c5;have bT:(((rd_T117 l0 aA).f0) != aB)=false:=bne_eq_false_iff_eq.mpr c5;clear c5
     by_cases c6:((rd_T117 l0 aA).f1)=(wrap64 (aB+1))
     ·rw[if_pos c6] at H;have bS:(((rd_T117 l0 aA).f1)==(wrap64 (aB+1)))=true:=beq_iff_eq.mpr c6;have bR:(((rd_T117 l0 aA).f1) != (wrap64 (aB+1)))=false:=bne_eq_false_iff_eq.mpr c6;clear c6
      by_cases c7:((rd_T117 l0 aA).f2)=(wrap64 ((wrap64 (aB+1))+1))
      ·rw[if_pos c7] at H;have bQ:(((rd_T117 l0 aA).f2)==(wrap64 ((wrap64 (aB+1))+1)))=true:=beq_iff_eq.mpr c7;have bP:(((rd_T117 l0 aA).f2) != (wrap64 ((wrap64 (aB+1))+1)))=false:=bne_eq_false_iff_eq.mpr c7;clear c7
       by_cases c8:(((rd_T117 l0 aA).f3) != ((Int.tmod (wrap64 ((wrap64 ((wrap64 (aB+1))+1))+1)) 3)==0))=true
       ·rw[if_pos c8] at H;have bO:(((rd_T117 l0 aA).f3) != ((Int.tmod (wrap64 ((wrap64 ((wrap64 (aB+1))+1))+1)) 3)==0))=true:=c8;(try (have bN:decide (((rd_T117 l0 aA).f3)=((Int.tmod (wrap64 ((wrap64 ((wrap64 (aB+1))+1))+1)) 3)==0))=false:=by simpa using c8));(try (have bM:(((rd_T117 l0 aA).f3)==((Int.tmod (wrap64 ((wrap64 ((wrap64 (aB+1))+1))+1)) 3)==0))=false:=by simpa using c8));(try (have bZ:¬ (((rd_T117 l0 aA).f3)=((Int.tmod (wrap64 ((wrap64 ((wrap64 (aB+1))+1))+1)) 3)==0)):=by simpa using c8));clear c8;obtain rfl:=zI H;have aT:=zT (0<=(aA:Int));have aS:=zT (aA<(l0.length:Int));obtain⟨aD,aE,aK,aJ,aI,aH⟩:=at_T117 aG.out aA zd zd;cases aE;have bA:=zT (0<=(aA:Int));have aZ:=zT (aA<(l0.length:Int));obtain⟨aF,aL,aQ,aP,aO,aN⟩:=at_T117 aG.out aA zd zd;obtain rfl:aD=aF:=(by injection aL);have bH:=zT (0<=(aA:Int));have bG:=zT (aA<(l0.length:Int));obtain⟨aM,aR,aX,aW,aV,aU⟩:=at_T117 aG.out aA zd zd;obtain rfl:aD=aM:=(by injection aR);have bJ:=zT (0<=(aA:Int));have bI:=zT (aA<(l0.length:Int));obtain⟨aY,bB,bF,bE,bD,bC⟩:=at_T117 aG.out aA zd zd;obtain rfl:aD=aY:=(by injection bB);go_wp2;go_ret;exact⟨by first|rfl|(simp;done)|(simp[*];done),zDr⟩
       ·rw[if_neg c8] at H
        have bO:(((rd_T117 l0 aA).f3) != ((Int.tmod (wrap64 ((wrap64 ((wrap64 (aB+1))+1))+1)) 3)==0))=false:=by simpa using c8
        (try (have bN:decide (((rd_T117 l0 aA).f3)=((Int.tmod (wrap64 ((wrap64 ((wrap64 (aB+1))+1))+1)) 3)==0))=true:=by simpa using c8));(try (have bM:(((rd_T117 l0 aA).f3)==((Int.tmod (wrap64 ((wrap64 ((wrap64 (aB+1))+1))+1)) 3)==0))=true:=by simpa using c8));clear c8;have H':=zA H;clear H;have aT:=zT (0<=(aA:Int));have aS:=zT (aA<(l0.length:Int));obtain⟨aD,aE,aK,aJ,aI,aH⟩:=at_T117 aG.out aA zd zd;cases aE;have bA:=zT (0<=(aA:Int));have aZ:=zT (aA<(l0.length:Int));obtain⟨aF,aL,aQ,aP,aO,aN⟩:=at_T117 aG.out aA zd zd;obtain rfl:aD=aF:=(by injection aL);have bH:=zT (0<=(aA:Int));have bG:=zT (aA<(l0.length:Int));obtain⟨aM,aR,aX,aW,aV,aU⟩:=at_T117 aG.out aA zd zd;obtain rfl:aD=aM:=(by injection aR);have bJ:=zT (0<=(aA:Int));have bI:=zT (aA<(l0.length:Int));obtain⟨aY,bB,bF,bE,bD,bC⟩:=at_T117 aG.out aA zd zd;obtain rfl:aD=aY:=(by injection bB);go_wp2
        go_roundg k1
        case measure=>have:=HK1.out;omega
        case rel=>exact⟨(wrap64 ((wrap64 ((wrap64 ((wrap64 (aB+1))+1))+1))+1)),(wrap64 (aA+1)),zr,zr,H',⟨by have:=HK1.out;omega⟩,zDr⟩
      ·rw[if_neg c7] at H;have bQ:(((rd_T117 l0 aA).f2)==(wrap64 ((wrap64 (aB+1))+1)))=false:=beq_eq_false_iff_ne.mpr c7;have bP:(((rd_T117 l0 aA).f2) != (wrap64 ((wrap64 (aB+1))+1)))=true:=bne_iff_ne.mpr c7;obtain rfl:=zI H;have aT:=zT (0<=(aA:Int));have aS:=zT (aA<(l0.length:Int));obtain⟨aD,aE,aK,aJ,aI,aH⟩:=at_T117 aG.out aA zd zd;cases aE;have bA:=zT (0<=(aA:Int));have aZ:=zT (aA<(l0.length:Int));obtain⟨aF,aL,aQ,aP,aO,aN⟩:=at_T117 aG.out aA zd zd;obtain rfl:aD=aF:=(by injection aL);have bH:=zT (0<=(aA:Int));have bG:=zT (aA<(l0.length:Int));obtain⟨aM,aR,aX,aW,aV,aU⟩:=at_T117 aG.out aA zd zd;obtain rfl:aD=aM:=(by injection aR);go_wp2;go_ret;exact⟨by first|rfl|(simp;done)|(simp[*];done),zDr⟩
     ·rw[if_neg c6] at H;have bS:(((rd_T117 l0 aA).f1)==(wrap64 (aB+1)))=false:=beq_eq_false_iff_ne.mpr c6;have bR:(((rd_T117 l0 aA).f1) != (wrap64 (aB+1)))=true:=bne_iff_ne.mpr c6;obtain rfl:=zI H;have aT:=zT (0<=(aA:Int));have aS:=zT (aA<(l0.length:Int));obtain⟨aD,aE,aK,aJ,aI,aH⟩:=at_T117 aG.out aA zd zd;cases aE;have bA:=zT (0<=(aA:Int));have aZ:=zT (aA<(l0.length:Int));obtain⟨aF,aL,aQ,aP,aO,aN⟩:=at_T117 aG.out aA zd zd;obtain rfl:aD=aF:=(by injection aL);go_wp2;go_ret;exact⟨by first|rfl|(simp;done)|(simp[*];done),zDr⟩
    ·rw[if_neg c5] at H;have bU:(((rd_T117 l0 aA).f0)==aB)=false:=beq_eq_false_iff_ne.mpr c5;have bT:(((rd_T117 l0 aA).f0) != aB)=true:=bne_iff_ne.mpr c5;obtain rfl:=zI H;have aT:=zT (0<=(aA:Int));have aS:=zT (aA<(l0.length:Int));obtain⟨aD,aE,aK,aJ,aI,aH⟩:=at_T117 aG.out aA zd zd;cases aE;go_wp2;go_ret;exact⟨by first|rfl|(simp;done)|(simp[*];done),zDr⟩
   ·rw[if_neg c3] at H;have bV:=decide_eq_false c3;clear c3;obtain rfl:=zI H;go_wp2;go_ret;exact⟨by first|rfl|(simp;done)|(simp[*];done),zDr⟩

def XU.l0:Nat->List Bool->Int->Int->Option (Int)
  |0,_,_,_=>none
  |k+1,x0,x1,x5=>if x5<(x0.length:Int) then(if 0<=x5 then(if ((rdOf false x0 x5) != ((Int.tmod x1 3)==0))=true then(some (-1)) else(XU.l0 k x0 (wrap64 (x1+1)) (wrap64 (x5+1)))) else(none)) else(some x1)
def XU.f (k:Nat) (l0:List Bool) (a1:Int):Option (Int):=XU.l0 k l0 a1 0
theorem XU.calls (k:Nat) (A0:Option Addr) (c0:Nat) (l0:List Bool) (a1:Int) (r:Int) (w:World) (aI:Kd.C Kd.bool w A0 l0.length l0) (aJ:l0.length<=c0) (h:XU.f k l0 a1=some r) :
  Calls Try.prog 84 #[.slice A0 l0.length c0,a1] w fun e w'=>e=.returned (.int .i64 r)/\Drawn0 w w':=by
 have aK:=zA aI;have aU:=zA aJ;clear aI aJ;have H:=h;clear h;unfold XU.f at H;have H':=zA H;clear H;go_enter Try.func84,Try.ntmps84;go_wp2
 go_loopg [1,5] k (fun kq v1 v5 w'=>∃ (aB:Int) (aA:Int),v1=.int .i64 aB/\v5=.int .i64 aA/\Aside0 (XU.l0 kq l0 aB aA=some r)/\Aside0 (kq<=k)/\Drawn0 w w')
 case atStart=>exact⟨(a1),(0),zr,zr,H',⟨Nat.le_refl _⟩,zDr⟩
 case round =>
  clear H';obtain⟨aB,aA,rfl,rfl,HA,HK1,⟨m1,rfl⟩⟩:=hrel
  cases gk with
  |zero=>exact absurd HA.out (by simp[XU.l0])
  |succ k1 =>
   have H:=HA.out;clear HA;simp only[XU.l0] at H
   by_cases c3:aA<(l0.length:Int)
   ·rw[if_pos c3] at H;have aO:=decide_eq_true c3;clear c3;obtain⟨aT,H⟩:=zifD H
    by_cases c5:((rdOf false l0 aA) != ((Int.tmod aB 3)==0))=true
    ·rw[if_pos c5] at H;have aN:((rdOf false l0 aA) != ((Int.tmod aB 3)==0))=true:=c5;(try (have aM:decide ((rdOf false l0 aA)=((Int.tmod aB 3)==0))=false:=by simpa using c5));(try (have aL:((rdOf false l0 aA)==((Int.tmod aB 3)==0))=false:=by simpa using c5));(try (have aS:¬ ((rdOf false l0 aA)=((Int.tmod aB 3)==0)):=by simpa using c5));clear c5;obtain rfl:=zI H;have aD:0<=(aA:Int):=zd;have aC:aA<(l0.length:Int):=zd;obtain⟨aH,aF,aG⟩:=Kd.at_bool aK.out aA aD aC;cases aF;replace aD:=eq_true aD;replace aC:=eq_true aC;go_wp2;go_ret;exact⟨by first|rfl|(simp;done)|(simp[*];done),zDr⟩
    ·rw[if_neg c5] at H
     have aN:((rdOf false l0 aA) != ((Int.tmod aB 3)==0))=false:=by simpa using c5
     (try (have aM:decide ((rdOf false l0 aA)=((Int.tmod aB 3)==0))=true:=by simpa using c5));(try (have aL:((rdOf false l0 aA)==((Int.tmod aB 3)==0))=true:=by simpa using c5));clear c5;have H':=zA H;clear H;have aD:0<=(aA:Int):=zd;have aC:aA<(l0.length:Int):=zd;obtain⟨aH,aF,aG⟩:=Kd.at_bool aK.out aA aD aC;cases aF;replace aD:=eq_true aD;replace aC:=eq_true aC;go_wp2
     go_roundg k1
     case measure=>have:=HK1.out;omega
     case rel=>exact⟨(wrap64 (aB+1)),(wrap64 (aA+1)),zr,zr,H',⟨by have:=HK1.out;omega⟩,zDr⟩
   ·rw[if_neg c3] at H;have aO:=decide_eq_false c3;clear c3;obtain rfl:=zI H;go_wp2;go_ret;exact⟨by first|rfl|(simp;done)|(simp[*];done),zDr⟩

def X1n.f (k:Nat) (a0_0:Int) (a0_1:Int) (l0_2:List (S117)) (l0_3:List Bool) (a1:Int):Option (Int):=(XQ.f k l0_2 a1).bind fun t1955=>(if t1955<0 then(some (-1)) else((XU.f k l0_3 t1955).bind fun t1956=>(if t1956<0 then(some (-1)) else(some t1956))))
theorem X1n.calls (k:Nat) (aJ:Int) (aI:Int) (aF:Option Addr) (aD:Nat) (aA:List (S117)) (aH:Option Addr) (aG:Nat) (aB:List Bool) (a1:Int) (r:Int) (w:World) (aR:Kd.C k117 w aF aA.length aA) (aT:aA.length<=aD) (aQ:Kd.C Kd.bool w aH aB.length aB) (aS:aB.length<=aG) (h:X1n.f k aJ aI aA aB a1=some r) :
  Calls Try.prog 38 #[.agg #[aJ,aI,.slice aF aA.length aD,.slice aH aB.length aG],a1] w fun e w'=>e=.returned (.int .i64 r)/\Below w.heap.size w w':=by
 have hu42:=Try.underlying42;have aL:=zA aR;have aM:=zA aT;clear aR aT;have aU:=zA aQ;have aV:=zA aS;clear aQ aS;have HB:=zA (Below.refl w.heap.size w);have H:=h;clear h;unfold X1n.f at H;obtain⟨aC,A3,H⟩:=zB H
 by_cases c4:aC<0
 ·rw[if_pos c4] at H;have aX:=decide_eq_true c4;clear c4;obtain rfl:=zI H;go_enter Try.func38,Try.ntmps38
  go_wp2_with (first|((with_reducible refine zgd 2 rfl ?_);refine zbx 2 #[aJ,aI,.slice aF aA.length aD,.slice aH aB.length aG] 42 ?_;intro aN hg w5 b' hb;have aE:=zA b';have aP:=zga (w:=w) hg;replace HB:=zbs hb;clear hb b' hg;obtain⟨bW,bV,bU,bT,bS,bR,bQ,bP⟩:=ze4 aE)|((with_reducible refine zgf 83 rfl ?_);refine zgl 8 Try.func83 #[.slice aF aA.length aD,a1] ?_;(refine(XQ.calls k _ _ aA a1 aC _ (zCb aL) aM.out A3.out).mono ?_);rintro e w' ⟨rfl,⟨nd,rfl⟩⟩;refine⟨_,rfl,?_⟩))
  go_ret;exact⟨zE,zb⟩
 ·rw[if_neg c4] at H;have aX:=decide_eq_false c4;clear c4;obtain⟨aK,A7,H⟩:=zB H
  by_cases c8:aK<0
  ·rw[if_pos c8] at H;have aW:=decide_eq_true c8;clear c8;obtain rfl:=zI H;go_enter Try.func38,Try.ntmps38
   go_wp2_with (first|((with_reducible refine zgd 2 rfl ?_);refine zbx 2 #[aJ,aI,.slice aF aA.length aD,.slice aH aB.length aG] 42 ?_;intro aN hg w9 b' hb;have aE:=zA b';have aP:=zga (w:=w) hg;replace HB:=zbs hb;clear hb b' hg;obtain⟨bO,bN,bM,bL,bG,bF,bE,bD⟩:=ze4 aE)|((with_reducible refine zgf 83 rfl ?_);refine zgl 8 Try.func83 #[.slice aF aA.length aD,a1] ?_;(refine(XQ.calls k _ _ aA a1 aC _ (zCb aL) aM.out A3.out).mono ?_);rintro e w' ⟨rfl,⟨nd,rfl⟩⟩;refine⟨_,rfl,?_⟩)|((with_reducible refine zgf 84 rfl ?_);refine zgl 14 Try.func84 #[.slice aH aB.length aG,aC] ?_;(refine(XU.calls k _ _ aB aC aK _ (zCb aU) aV.out A7.out).mono ?_);rintro e w' ⟨rfl,⟨nd,rfl⟩⟩;refine⟨_,rfl,?_⟩))
   go_ret;exact⟨zE,zb⟩
  ·rw[if_neg c8] at H;have aW:=decide_eq_false c8;clear c8;obtain rfl:=zI H;go_enter Try.func38,Try.ntmps38
   go_wp2_with (first|((with_reducible refine zgd 2 rfl ?_);refine zbx 2 #[aJ,aI,.slice aF aA.length aD,.slice aH aB.length aG] 42 ?_;intro aN hg bY b' hb;have aE:=zA b';have aP:=zga (w:=w) hg;replace HB:=zbs hb;clear hb b' hg;obtain⟨bK,bJ,bI,bH,bC,bB,bA,aZ⟩:=ze4 aE)|((with_reducible refine zgf 83 rfl ?_);refine zgl 8 Try.func83 #[.slice aF aA.length aD,a1] ?_;(refine(XQ.calls k _ _ aA a1 aC _ (zCb aL) aM.out A3.out).mono ?_);rintro e w' ⟨rfl,⟨nd,rfl⟩⟩;refine⟨_,rfl,?_⟩)|((with_reducible refine zgf 84 rfl ?_);refine zgl 14 Try.func84 #[.slice aH aB.length aG,aC] ?_;(refine(XU.calls k _ _ aB aC aK _ (zCb aU) aV.out A7.out).mono ?_);rintro e w' ⟨rfl,⟨nd,rfl⟩⟩;refine⟨_,rfl,?_⟩))
   go_ret;exact⟨zE,zb⟩
end Go.Proofs.Yteiepphhkikmoaa.Q
