/- Walks of 19 functions of the program: each comes to what a plain function tells. -/
import Derived.Test.YteiepphhkikmoaaG0
namespace Go.Proofs.Yteiepphhkikmoaa.Q
open Go.RowKit Go.Proofs.YteiepphhkikmoaaW.PrintWords Go.Proofs.YteiepphhkikmoaaW.PrintLast Go.Proofs.YteiepphhkikmoaaW.PrintMore Go.Proofs.YteiepphhkikmoaaW.Zip
attribute [local go_sem] max2_int min2_int max_two min_two max_three min_three max_four min_four   -- for this text's walks alone
set_option linter.unusedVariables false
set_option maxHeartbeats 8000000
set_option maxRecDepth 100000
set_option linter.unusedSimpArgs false

def X1u.f (l0:List Int) (a1:Int):Option (Int):=if (wrap64 (a1-(l0.length:Int)))<0 then(some (-1)) else(some (wrap64 (a1-(l0.length:Int))))
theorem X1u.calls (A0:Option Addr) (c0:Nat) (l0:List Int) (a1:Int) (r:Int) (w:World) (aC:Kd.C (Kd.int .i64) w A0 l0.length l0) (aD:l0.length<=c0) (h:X1u.f l0 a1=some r) :
  Calls Try.prog 60 #[.slice A0 l0.length c0,a1] w fun e w'=>e=.returned (.int .i64 r)/\Drawn0 w w':=by
 have aJ:=zA aC;have aK:=zA aD;clear aC aD;have H:=h;clear h;unfold X1u.f at H
 by_cases c3:(wrap64 (a1-(l0.length:Int)))<0
 ·rw[if_pos c3] at H;have aE:=decide_eq_true c3;clear c3;obtain rfl:=zI H;go_enter Try.func60,Try.ntmps60;go_wp2;go_ret;exact⟨by first|rfl|(simp;done)|(simp[*];done),zDr⟩
 ·rw[if_neg c3] at H;have aE:=decide_eq_false c3;clear c3;obtain rfl:=zI H;go_enter Try.func60,Try.ntmps60;go_wp2;go_ret;exact⟨by first|rfl|(simp;done)|(simp[*];done),zDr⟩

def X1c.f (a0_0:Int) (a0_1:Int) (l0_2:List Int) (a1:Int):Option (Int):=(X1u.f l0_2 a1).bind fun t102=>(if t102<0 then(some (-1)) else(some t102))
theorem X1c.calls (aG:Int) (aE:Int) (aD:Option Addr) (aC:Nat) (aA:List Int) (a1:Int) (r:Int) (w:World) (aJ:Kd.C (Kd.int .i64) w aD aA.length aA) (aK:aA.length<=aC) (h:X1c.f aG aE aA a1=some r) :
  Calls Try.prog 18 #[.agg #[aG,aE,.slice aD aA.length aC],a1] w fun e w'=>e=.returned (.int .i64 r)/\Below w.heap.size w w':=by
 have hu24:=Try.underlying24;have aM:=zA aJ;have aN:=zA aK;clear aJ aK;have HB:=zA (Below.refl w.heap.size w);have H:=h;clear h;unfold X1c.f at H;obtain⟨aI,A3,H⟩:=zB H
 by_cases c4:aI<0
 ·rw[if_pos c4] at H;have aV:=decide_eq_true c4;clear c4;obtain rfl:=zI H;go_enter Try.func18,Try.ntmps18
  go_wp2_with (first|((with_reducible refine zgd 2 rfl ?_);refine zbx 2 #[aG,aE,.slice aD aA.length aC] 24 ?_;intro aT hg w5 b' hb;have aH:=zA b';have aU:=zga (w:=w) hg;replace HB:=zbs hb;clear hb b' hg;obtain⟨bH,bG,bF,bB,bA,aZ⟩:=ze3 aH)|((with_reducible refine zgf 60 rfl ?_);refine zgl 8 Try.func60 #[.slice aD aA.length aC,a1] ?_;(refine(X1u.calls _ _ aA a1 aI _ (zCb aM) aN.out A3.out).mono ?_);rintro e w' ⟨rfl,⟨nd,rfl⟩⟩;refine⟨_,rfl,?_⟩))
  go_ret;exact⟨zE,zb⟩
 ·rw[if_neg c4] at H;have aV:=decide_eq_false c4;clear c4;obtain rfl:=zI H;go_enter Try.func18,Try.ntmps18
  go_wp2_with (first|((with_reducible refine zgd 2 rfl ?_);refine zbx 2 #[aG,aE,.slice aD aA.length aC] 24 ?_;intro aT hg w7 b' hb;have aH:=zA b';have aU:=zga (w:=w) hg;replace HB:=zbs hb;clear hb b' hg;obtain⟨bE,bD,bC,aY,aX,aW⟩:=ze3 aH)|((with_reducible refine zgf 60 rfl ?_);refine zgl 8 Try.func60 #[.slice aD aA.length aC,a1] ?_;(refine(X1u.calls _ _ aA a1 aI _ (zCb aM) aN.out A3.out).mono ?_);rintro e w' ⟨rfl,⟨nd,rfl⟩⟩;refine⟨_,rfl,?_⟩))
  go_ret;exact⟨zE,zb⟩

def X1h.f (l0:List (S87)) (a1:Int):Option (Int):=if (wrap64 (a1-(l0.length:Int)))<0 then(some (-1)) else(some (wrap64 (a1-(l0.length:Int))))
theorem X1h.calls (A0:Option Addr) (c0:Nat) (l0:List (S87)) (a1:Int) (r:Int) (w:World) (aC:Kd.C k87 w A0 l0.length l0) (aD:l0.length<=c0) (h:X1h.f l0 a1=some r) :
  Calls Try.prog 19 #[.slice A0 l0.length c0,a1] w fun e w'=>e=.returned (.int .i64 r)/\Drawn0 w w':=by
 have aJ:=zA aC;have aK:=zA aD;clear aC aD;have H:=h;clear h;unfold X1h.f at H
 by_cases c3:(wrap64 (a1-(l0.length:Int)))<0
 ·rw[if_pos c3] at H;have aE:=decide_eq_true c3;clear c3;obtain rfl:=zI H;go_enter Try.func19,Try.ntmps19;go_wp2;go_ret;exact⟨by first|rfl|(simp;done)|(simp[*];done),zDr⟩
 ·rw[if_neg c3] at H;have aE:=decide_eq_false c3;clear c3;obtain rfl:=zI H;go_enter Try.func19,Try.ntmps19;go_wp2;go_ret;exact⟨by first|rfl|(simp;done)|(simp[*];done),zDr⟩

def X1i.f (l0:List (S119)) (a1:Int):Option (Int):=if (wrap64 (a1-(l0.length:Int)))<0 then(some (-1)) else(some (wrap64 (a1-(l0.length:Int))))
theorem X1i.calls (A0:Option Addr) (c0:Nat) (l0:List (S119)) (a1:Int) (r:Int) (w:World) (aC:Kd.C k119 w A0 l0.length l0) (aD:l0.length<=c0) (h:X1i.f l0 a1=some r) :
  Calls Try.prog 61 #[.slice A0 l0.length c0,a1] w fun e w'=>e=.returned (.int .i64 r)/\Drawn0 w w':=by
 have aJ:=zA aC;have aK:=zA aD;clear aC aD;have H:=h;clear h;unfold X1i.f at H
 by_cases c3:(wrap64 (a1-(l0.length:Int)))<0
 ·rw[if_pos c3] at H;have aE:=decide_eq_true c3;clear c3;obtain rfl:=zI H;go_enter Try.func61,Try.ntmps61;go_wp2;go_ret;exact⟨by first|rfl|(simp;done)|(simp[*];done),zDr⟩
 ·rw[if_neg c3] at H;have aE:=decide_eq_false c3;clear c3;obtain rfl:=zI H;go_enter Try.func61,Try.ntmps61;go_wp2;go_ret;exact⟨by first|rfl|(simp;done)|(simp[*];done),zDr⟩

def X1o.f (l0:List Bool) (a1:Int):Option (Int):=if (wrap64 (a1-(l0.length:Int)))<0 then(some (-1)) else(some (wrap64 (a1-(l0.length:Int))))
theorem X1o.calls (A0:Option Addr) (c0:Nat) (l0:List Bool) (a1:Int) (r:Int) (w:World) (aC:Kd.C Kd.bool w A0 l0.length l0) (aD:l0.length<=c0) (h:X1o.f l0 a1=some r) :
  Calls Try.prog 62 #[.slice A0 l0.length c0,a1] w fun e w'=>e=.returned (.int .i64 r)/\Drawn0 w w':=by
 have aJ:=zA aC;have aK:=zA aD;clear aC aD;have H:=h;clear h;unfold X1o.f at H
 by_cases c3:(wrap64 (a1-(l0.length:Int)))<0
 ·rw[if_pos c3] at H;have aE:=decide_eq_true c3;clear c3;obtain rfl:=zI H;go_enter Try.func62,Try.ntmps62;go_wp2;go_ret;exact⟨by first|rfl|(simp;done)|(simp[*];done),zDr⟩
 ·rw[if_neg c3] at H;have aE:=decide_eq_false c3;clear c3;obtain rfl:=zI H;go_enter Try.func62,Try.ntmps62;go_wp2;go_ret;exact⟨by first|rfl|(simp;done)|(simp[*];done),zDr⟩

def X1d.f (a0_0:Int) (a0_1:Int) (l0_2:List (S119)) (l0_3:List Bool) (a1:Int):Option (Int):=(X1i.f l0_2 a1).bind fun t104=>(if t104<0 then(some (-1)) else((X1o.f l0_3 t104).bind fun t105=>(if t105<0 then(some (-1)) else(some t105))))
theorem X1d.calls (aM:Int) (aK:Int) (aG:Option Addr) (aE:Nat) (aA:List (S119)) (aI:Option Addr) (aH:Nat) (aC:List Bool) (a1:Int) (r:Int) (w:World) (aW:Kd.C k119 w aG aA.length aA) (aY:aA.length<=aE) (aV:Kd.C Kd.bool w aI aC.length aC) (aX:aC.length<=aH) (h:X1d.f aM aK aA aC a1=some r) :
  Calls Try.prog 20 #[.agg #[aM,aK,.slice aG aA.length aE,.slice aI aC.length aH],a1] w fun e w'=>e=.returned (.int .i64 r)/\Below w.heap.size w w':=by
 have hu31:=Try.underlying31;have aN:=zA aW;have aQ:=zA aY;clear aW aY;have bA:=zA aV;have bB:=zA aX;clear aV aX;have HB:=zA (Below.refl w.heap.size w);have H:=h;clear h;unfold X1d.f at H;obtain⟨aD,A3,H⟩:=zB H
 by_cases c4:aD<0
 ·rw[if_pos c4] at H;have bE:=decide_eq_true c4;clear c4;obtain rfl:=zI H;go_enter Try.func20,Try.ntmps20
  go_wp2_with (first|((with_reducible refine zgd 2 rfl ?_);refine zbx 2 #[aM,aK,.slice aG aA.length aE,.slice aI aC.length aH] 31 ?_;intro aZ hg w5 b' hb;have aJ:=zA b';have bC:=zga (w:=w) hg;replace HB:=zbs hb;clear hb b' hg;obtain⟨cD,cC,cB,cA,bZ,bY,bX,bW⟩:=ze4 aJ)|((with_reducible refine zgf 61 rfl ?_);refine zgl 8 Try.func61 #[.slice aG aA.length aE,a1] ?_;(refine(X1i.calls _ _ aA a1 aD _ (zCb aN) aQ.out A3.out).mono ?_);rintro e w' ⟨rfl,⟨nd,rfl⟩⟩;refine⟨_,rfl,?_⟩))
  go_ret;exact⟨zE,zb⟩
 ·rw[if_neg c4] at H;have bE:=decide_eq_false c4;clear c4;obtain⟨aU,A7,H⟩:=zB H
  by_cases c8:aU<0
  ·rw[if_pos c8] at H;have bD:=decide_eq_true c8;clear c8;obtain rfl:=zI H;go_enter Try.func20,Try.ntmps20
   go_wp2_with (first|((with_reducible refine zgd 2 rfl ?_);refine zbx 2 #[aM,aK,.slice aG aA.length aE,.slice aI aC.length aH] 31 ?_;intro aZ hg w9 b' hb;have aJ:=zA b';have bC:=zga (w:=w) hg;replace HB:=zbs hb;clear hb b' hg;obtain⟨bV,bU,bT,bS,bN,bM,bL,bK⟩:=ze4 aJ)|((with_reducible refine zgf 61 rfl ?_);refine zgl 8 Try.func61 #[.slice aG aA.length aE,a1] ?_;(refine(X1i.calls _ _ aA a1 aD _ (zCb aN) aQ.out A3.out).mono ?_);rintro e w' ⟨rfl,⟨nd,rfl⟩⟩;refine⟨_,rfl,?_⟩)|((with_reducible refine zgf 62 rfl ?_);refine zgl 14 Try.func62 #[.slice aI aC.length aH,aD] ?_;(refine(X1o.calls _ _ aC aD aU _ (zCb bA) bB.out A7.out).mono ?_);rintro e w' ⟨rfl,⟨nd,rfl⟩⟩;refine⟨_,rfl,?_⟩))
   go_ret;exact⟨zE,zb⟩
  ·rw[if_neg c8] at H;have bD:=decide_eq_false c8;clear c8;obtain rfl:=zI H;go_enter Try.func20,Try.ntmps20
   go_wp2_with (first|((with_reducible refine zgd 2 rfl ?_);refine zbx 2 #[aM,aK,.slice aG aA.length aE,.slice aI aC.length aH] 31 ?_;intro aZ hg cF b' hb;have aJ:=zA b';have bC:=zga (w:=w) hg;replace HB:=zbs hb;clear hb b' hg;obtain⟨bR,bQ,bP,bO,bJ,bI,bH,bG⟩:=ze4 aJ)|((with_reducible refine zgf 61 rfl ?_);refine zgl 8 Try.func61 #[.slice aG aA.length aE,a1] ?_;(refine(X1i.calls _ _ aA a1 aD _ (zCb aN) aQ.out A3.out).mono ?_);rintro e w' ⟨rfl,⟨nd,rfl⟩⟩;refine⟨_,rfl,?_⟩)|((with_reducible refine zgf 62 rfl ?_);refine zgl 14 Try.func62 #[.slice aI aC.length aH,aD] ?_;(refine(X1o.calls _ _ aC aD aU _ (zCb bA) bB.out A7.out).mono ?_);rintro e w' ⟨rfl,⟨nd,rfl⟩⟩;refine⟨_,rfl,?_⟩))
   go_ret;exact⟨zE,zb⟩

def X6.f (a0:Int) (a1:Int) (a2:Int):Option (Bool):=if a0>=a1 then(some (decide (a0<=a2))) else(some false)
theorem X6.calls (a0:Int) (a1:Int) (a2:Int) (r:Bool) (w:World) (h:X6.f a0 a1 a2=some r) :
  Calls Try.prog 93 #[a0,a1,a2] w fun e w'=>e=.returned (.bool r)/\Drawn0 w w':=by
 have H:=h;clear h;unfold X6.f at H
 by_cases c4:a0>=a1
 ·rw[if_pos c4] at H;have aD:decide (a1<=a0)=true:=decide_eq_true c4;clear c4;obtain rfl:=zI H;go_enter Try.func93,Try.ntmps93;go_wp2;go_ret;exact⟨by first|rfl|(simp;done)|(simp[*];done),zDr⟩
 ·rw[if_neg c4] at H;have aD:decide (a1<=a0)=false:=decide_eq_false c4;clear c4;obtain rfl:=zI H;go_enter Try.func93,Try.ntmps93;go_wp2;go_ret;exact⟨by first|rfl|(simp;done)|(simp[*];done),zDr⟩

def X11.f (a0_0:Int) (a0_1:Int):Option (Bool):=(X6.f a0_1 1 10).bind fun t112=>(if t112=true then((X6.f a0_0 0 (wrap64 (a0_1-1))).bind fun t113=>(some t113)) else(some false))
theorem X11.calls (aC:Int) (aA:Int) (r:Bool) (w:World) (h:X11.f aC aA=some r) :
  Calls Try.prog 115 #[.agg #[aC,aA]] w fun e w'=>e=.returned (.bool r)/\Below w.heap.size w w':=by
 have hu38:=Try.underlying38;have HB:=zA (Below.refl w.heap.size w);have H:=h;clear h;unfold X11.f at H;obtain⟨aJ,A2,H⟩:=zB H
 by_cases c3:aJ=true
 ·subst c3;rw[if_pos rfl] at H;obtain⟨aI,A4,H⟩:=zB H;obtain rfl:=zI H;go_enter Try.func115,Try.ntmps115
  go_wp2_with (first|((with_reducible refine zgd 1 rfl ?_);refine zbx 1 #[aC,aA] 38 ?_;intro aE hg w5 b' hb;have aD:=zA b';have aH:=zga (w:=w) hg;replace HB:=zbs hb;clear hb b' hg;obtain⟨aW,aV,aQ,aN⟩:=ze2 aD)|((with_reducible refine zgf 93 rfl ?_);refine zgl 5 Try.func93 #[aA,.int .i64 1,.int .i64 10] ?_;(refine(X6.calls aA 1 10 true _ A2.out).mono ?_);rintro e w' ⟨rfl,⟨nd,rfl⟩⟩;refine⟨_,rfl,?_⟩)|(go_at_call 93;(refine(X6.calls aC 0 (wrap64 (aA-1)) aI _ A4.out).mono ?_);rintro e w' ⟨rfl,⟨nd,rfl⟩⟩))
  go_ret;exact⟨zE,zb⟩
 ·replace c3:=zbq c3;subst c3;rw[if_neg zNo] at H;obtain rfl:=zI H;go_enter Try.func115,Try.ntmps115
  go_wp2_with (first|((with_reducible refine zgd 1 rfl ?_);refine zbx 1 #[aC,aA] 38 ?_;intro aE hg w7 b' hb;have aD:=zA b';have aH:=zga (w:=w) hg;replace HB:=zbs hb;clear hb b' hg;obtain⟨aU,aT,aM,aK⟩:=ze2 aD)|((with_reducible refine zgf 93 rfl ?_);refine zgl 5 Try.func93 #[aA,.int .i64 1,.int .i64 10] ?_;(refine(X6.calls aA 1 10 false _ A2.out).mono ?_);rintro e w' ⟨rfl,⟨nd,rfl⟩⟩;refine⟨_,rfl,?_⟩))
  go_ret;exact⟨zE,zb⟩

def XE.l0:Nat->List Bool->Int->Int->Option (Int)
  |0,_,_,_=>none
  |k+1,x0,x3,x4=>if x4<(x0.length:Int) then(if 0<=x4 then(if rdOf false x0 x4=true then(XE.l0 k x0 (wrap64 (x3+1)) (wrap64 (x4+1))) else(XE.l0 k x0 x3 (wrap64 (x4+1)))) else(none)) else(some x3)
def XE.f (k:Nat) (l0:List Bool):Option (Int):=XE.l0 k l0 0 0
theorem XE.calls (k:Nat) (A0:Option Addr) (c0:Nat) (l0:List Bool) (r:Int) (w:World) (aM:Kd.C Kd.bool w A0 l0.length l0) (aN:l0.length<=c0) (h:XE.f k l0=some r) :
  Calls Try.prog 116 #[.slice A0 l0.length c0] w fun e w'=>e=.returned (.int .i64 r)/\Drawn0 w w':=by
 have aQ:=zA aM;have aX:=zA aN;clear aM aN;have H:=h;clear h;unfold XE.f at H;have H':=zA H;clear H;go_enter Try.func116,Try.ntmps116;go_wp2
 go_loopg [3,4] k (fun kq v3 v4 w'=>∃ (aC:Int) (aA:Int),v3=.int .i64 aC/\v4=.int .i64 aA/\Aside0 (XE.l0 kq l0 aC aA=some r)/\Aside0 (kq<=k)/\Drawn0 w w')
 case atStart=>exact⟨(0),(0),zr,zr,H',⟨Nat.le_refl _⟩,zDr⟩
 case round =>
  clear H';obtain⟨aC,aA,rfl,rfl,HA,HK1,⟨m1,rfl⟩⟩:=hrel
  cases gk with
  |zero=>exact absurd HA.out (by simp[XE.l0])
  |succ k1 =>
   have H:=HA.out;clear HA;simp only[XE.l0] at H
   by_cases c2:aA<(l0.length:Int)
   ·rw[if_pos c2] at H;have aT:=decide_eq_true c2;clear c2;obtain⟨aW,H⟩:=zifD H;obtain⟨bq4,hbq4⟩:∃ b_:Bool,b_=(rdOf false l0 aA):=⟨_,rfl⟩
    replace H:(if bq4=true then(XE.l0 k1 l0 (wrap64 (aC+1)) (wrap64 (aA+1))) else(XE.l0 k1 l0 aC (wrap64 (aA+1))))=some r:=by rw[<-hbq4] at H;exact H
    have Nbq4:=zA hbq4;clear hbq4
    by_cases c5:bq4=true
    ·subst c5;rw[if_pos rfl] at H;have H':=zA H;clear H;have aE:0<=(aA:Int):=zd;have aD:aA<(l0.length:Int):=zd;obtain⟨aK,aI,aG⟩:=Kd.at_bool aQ.out aA aE aD;(try rw[<-Nbq4.out] at aG);cases aI;replace aE:=eq_true aE;replace aD:=eq_true aD;go_wp2
     go_roundg k1
     case measure=>have:=HK1.out;omega
     case rel=>exact⟨(wrap64 (aC+1)),(wrap64 (aA+1)),zr,zr,H',⟨by have:=HK1.out;omega⟩,zDr⟩
    ·replace c5:=zbq c5;subst c5;rw[if_neg zNo] at H;have H':=zA H;clear H;have aE:0<=(aA:Int):=zd;have aD:aA<(l0.length:Int):=zd;obtain⟨aK,aI,aG⟩:=Kd.at_bool aQ.out aA aE aD;(try rw[<-Nbq4.out] at aG);cases aI;replace aE:=eq_true aE;replace aD:=eq_true aD;go_wp2
     go_roundg k1
     case measure=>have:=HK1.out;omega
     case rel=>exact⟨(aC),(wrap64 (aA+1)),zr,zr,H',⟨by have:=HK1.out;omega⟩,zDr⟩
   ·rw[if_neg c2] at H;have aT:=decide_eq_false c2;clear c2;obtain rfl:=zI H;go_wp2;go_ret;exact⟨by first|rfl|(simp;done)|(simp[*];done),zDr⟩

def XG.f (a0:Int) (a1:Int):Option (Int):=if a1>a0 then(some a1) else(some a0)
theorem XG.calls (a0:Int) (a1:Int) (r:Int) (w:World) (h:XG.f a0 a1=some r) :
  Calls Try.prog 117 #[a0,a1] w fun e w'=>e=.returned (.int .i64 r)/\Drawn0 w w':=by
 have H:=h;clear h;unfold XG.f at H
 by_cases c3:a1>a0
 ·rw[if_pos c3] at H;have aD:decide (a0<a1)=true:=decide_eq_true c3;clear c3;obtain rfl:=zI H;go_enter Try.func117,Try.ntmps117;go_wp2;go_ret;exact⟨by first|rfl|(simp;done)|(simp[*];done),zDr⟩
 ·rw[if_neg c3] at H;have aD:decide (a0<a1)=false:=decide_eq_false c3;clear c3;obtain rfl:=zI H;go_enter Try.func117,Try.ntmps117;go_wp2;go_ret;exact⟨by first|rfl|(simp;done)|(simp[*];done),zDr⟩

def Xo.f (k:Nat) (a0_0:Int) (a0_1:Int) (l1:List Bool):Option (Bool):=(X11.f a0_0 a0_1).bind fun t116=>(if t116=true then((XG.f 0 (wrap64 ((wrap64 ((l1.length:Int)+1))-a0_1))).bind fun t117=>(if 0<=t117 then(if t117<=(l1.length:Int) then((XE.f k (l1.drop (t117:Int).toNat)).bind fun t119=>(some (decide (t119<a0_0)))) else(none)) else(none))) else(some false))
def Xo.T1:Bool × List (List Nat × List Nat):=(true,[([],[]),([0],[0]),([1,1],[1]),([2],[2]),([2],[2]),([4,2],[2,4]),([5,2],[2,5]),([2],[2]),([7,2],[2,7]),([6,8,2],[2,6,8]),([9,2,2],[2,9]),([3,10,2],[2,3,10]),([11,10,2],[2,11]),([2],[2]),([13,2],[2,13]),([12,14,2],[2,12,14]),([2,15],[2,15]),([16,12,0,1,2,3,4,5,6,7,8,9,10,11,12,13,14,15,16],[16])])
def Xo.B1:List Nat:=[0,1,3,7,7,23,55,7,135,503,1015,2047,4095,7,8199,32767,65535,131071]
theorem Xo.tab1:rtab .any (opsOf Try.f76 1)=Xo.T1:=by kernel_rfl
theorem Xo.bits1:waitsOk Xo.T1.2 Xo.B1=true:=by kernel_rfl
theorem Xo.calls (k:Nat) (aD:Int) (aC:Int) (A1:Option Addr) (c1:Nat) (l1:List Bool) (r:Bool) (w:World) (aQ:Kd.C Kd.bool w A1 l1.length l1) (aT:l1.length<=c1) (h:Xo.f k aD aC l1=some r) :
  Calls Try.prog 76 #[.agg #[aD,aC],.slice A1 l1.length c1] w fun e w'=>e=.returned (.bool r)/\Below w.heap.size w w':=by
 have hu38:=Try.underlying38;have bA:=zA aQ;have bB:=zA aT;clear aQ aT;have HB:=zA (Below.refl w.heap.size w);have H:=h;clear h;unfold Xo.f at H;obtain⟨aV,A3,H⟩:=zB H
 by_cases c4:aV=true
 ·subst c4;rw[if_pos rfl] at H;obtain⟨aE,A5,H⟩:=zB H;obtain⟨c6,H⟩:=zif H;have bI:=eq_true c6;have bH:=decide_eq_true c6;clear c6;obtain⟨c7,H⟩:=zif H;have bG:=eq_true c7;have bF:=decide_eq_true c7;clear c7;obtain⟨aU,A8,H⟩:=zB H;obtain rfl:=zI H;go_enter Try.func76,Try.ntmps76
  try go_wp2_with (first|((with_reducible refine zgd 2 rfl ?_);(try (refine gate_guard (by rfl) ?_;dsimp only));refine zbx 2 #[aD,aC] 38 ?_;intro aG hg w9 b' hb;have aA:=zA b';have aN:=zga (w:=w) hg;replace HB:=zbs hb;clear hb b' hg))
  replace aA:=zA (blk_drew aA.out);replace HB:=zA (below_drew1 HB.out);refine start_ (n:=18) (S:=fun w'=>w'.cell? ⟨aG,0,none⟩=some (.int .i64 aD)/\w'.cell? ⟨aG,1,none⟩=some (.int .i64 aC)) (ds:=[]) _ (by kernel_rfl) rfl rfl ⟨zq aA 0,zq aA 1⟩ (fun h'=>?_);refine with_tabW Xo.tab1 Xo.bits1 (fun T_ W_=>?_);generalize w9.drew=bO at aA HB h' ⊢;refine zt 0 5 T_ W_ h' ?_;refine zo 1 6 T_ (fun K hK=>?_);refine zgo Try.func115 #[.agg #[aD,aC]] ?_
  refine(X11.calls aD aC true _ A3.out).mono ?_
  rintro e bN ⟨rfl,hb⟩;refine⟨_,rfl,?_⟩;replace aA:=zkb aA hb;replace HB:=zbs hb;(try clear hb);refine hK.out _ _ ⟨zq aA 0,zq aA 1⟩ (fun h'=>?_);clear hK K;refine norm_ zV ?_;refine zp 2 7 T_ ?_;refine zp 3 8 T_ ?_;refine zp 4 9 T_ ?_;refine zp 5 10 T_ ?_;refine zp 6 11 T_ ?_;refine zp 7 12 T_ ?_;refine zp 13 18 T_ ?_;refine zt 8 13 T_ W_ h' ?_;refine zp 9 14 T_ ?_;refine zt 14 19 T_ W_ h' ?_;refine zo 10 15 T_ (fun K hK=>?_);refine zgo Try.func117 #[.int .i64 0,.int .i64 (wrap64 ((wrap64 ((l1.length:Int)+1))-aC))] ?_
  refine(XG.calls 0 (wrap64 ((wrap64 ((l1.length:Int)+1))-aC)) aE _ A5.out).mono ?_
  rintro e w' ⟨rfl,⟨nd,rfl⟩⟩;refine⟨_,rfl,?_⟩;obtain⟨i012,hi012,_,hsz12,_⟩:=info_parts info4;obtain⟨bD,hcut12,hA12,hC12⟩:=print_drop_of (P:=Try.prog) Value.bool false 29 4 .i64 Try.underlying29 hi012 hsz12 A1 c1 l1 aE zd zd bB.out;have aK:=zA (Kd.C_of_reads (h1:=fun _=>rfl) (hA12 _ (Kd.reads_of_C bA.out)));have aM:=zA hC12;clear hA12 hC12 hi012 hsz12;refine hK.out _ _ ⟨zq aA 0,zq aA 1⟩ (fun h'=>?_);clear hK K;refine norm_ zV ?_;refine zp 11 16 T_ ?_;refine zo 12 17 T_ (fun K hK=>?_);refine goes_ Try.func116 (by kernel_rfl) rfl #[.slice bD (l1.drop (aE:Int).toNat).length (c1-aE.toNat)] (by rfl) rfl rfl (by(try simp only[List.map_toArray,List.map_cons,List.map_nil]);first|done|(rw[show (l1.drop (aE:Int).toNat).length=(l1.length-aE.toNat) from List.length_drop] <;> rfl)|rfl|(simp only[List.length_drop,List.length_take];rfl)) ?_
  refine(XE.calls k _ _ (l1.drop (aE:Int).toNat) aU _ (zCb aK) aM.out A8.out).mono ?_
  rintro e w' ⟨rfl,⟨nd,rfl⟩⟩;refine⟨_,rfl,?_⟩;refine hK.out _ _ ⟨zq aA 0,zq aA 1⟩ (fun h'=>?_);clear hK K;refine norm_ zV ?_;refine zp 15 20 T_ ?_;refine zp 16 21 T_ ?_;refine zp 17 4 T_ ?_;refine done_ (done_of T_.out (by kernel_rfl)) ?_
  try go_wp2
  go_ret;exact⟨zE,zb⟩
 ·replace c4:=zbq c4;subst c4;rw[if_neg zNo] at H;obtain rfl:=zI H;go_enter Try.func76,Try.ntmps76
  try go_wp2_with (first|((with_reducible refine zgd 2 rfl ?_);(try (refine gate_guard (by rfl) ?_;dsimp only));refine zbx 2 #[aD,aC] 38 ?_;intro aG hg aZ b' hb;have aA:=zA b';have aN:=zga (w:=w) hg;replace HB:=zbs hb;clear hb b' hg))
  replace aA:=zA (blk_drew aA.out);replace HB:=zA (below_drew1 HB.out);refine start_ (n:=18) (S:=fun w'=>w'.cell? ⟨aG,0,none⟩=some (.int .i64 aD)/\w'.cell? ⟨aG,1,none⟩=some (.int .i64 aC)) (ds:=[]) _ (by kernel_rfl) rfl rfl ⟨zq aA 0,zq aA 1⟩ (fun h'=>?_);refine with_tabW Xo.tab1 Xo.bits1 (fun T_ W_=>?_);generalize aZ.drew=bM at aA HB h' ⊢;refine zt 0 5 T_ W_ h' ?_;refine zo 1 6 T_ (fun K hK=>?_);refine zgo Try.func115 #[.agg #[aD,aC]] ?_
  refine(X11.calls aD aC false _ A3.out).mono ?_
  rintro e bL ⟨rfl,hb⟩;refine⟨_,rfl,?_⟩;replace aA:=zkb aA hb;replace HB:=zbs hb;(try clear hb);refine hK.out _ _ ⟨zq aA 0,zq aA 1⟩ (fun h'=>?_);clear hK K;refine norm_ zV ?_;refine zp 2 7 T_ ?_;refine zu 3 8 T_ ?_;refine zu 4 9 T_ ?_;refine zu 5 10 T_ ?_;refine zu 6 11 T_ ?_;refine zu 7 12 T_ ?_;refine zu 8 13 T_ ?_;refine zu 9 14 T_ ?_;refine zu 10 15 T_ ?_;refine zu 11 16 T_ ?_;refine zu 12 17 T_ ?_;refine zu 13 18 T_ ?_;refine zu 14 19 T_ ?_;refine zu 15 20 T_ ?_;refine zp 16 21 T_ ?_;refine zp 17 4 T_ ?_;refine done_ (done_of T_.out (by kernel_rfl)) ?_
  try go_wp2
  go_ret;exact⟨zE,zb⟩

mutual
def X3.j0:Nat->Int->List Int->Bool->Int->Int->List Int->Option (List Int)
  |0,_,_,_,_,_,_=>none
  |k+1,x1,x5,x21,x121000,x121001,x121002=>if x21=true then(if x5.length<17592186044416 then(X3.j1 k x1 (x5++[wrap64 (x1-x121000)]) x121000 x121001 x121002) else(none)) else(X3.j1 k x1 x5 x121000 x121001 x121002)
def X3.j1:Nat->Int->List Int->Int->Int->List Int->Option (List Int)
  |0,_,_,_,_,_=>none
  |k+1,x1,x5,x121000,x121001,x121002=>if x121000=0 then(none) else(if (Int.tmod x1 x121000)>0 then(if 0<=(wrap64 (x1-1)) then(if (wrap64 (x1-1))<(x121002.length:Int) then(X3.j2 k x1 x5 ((rd x121002 (wrap64 (x1-1))) != 2) x121000 x121001 x121002) else(none)) else(none)) else(X3.j2 k x1 x5 false x121000 x121001 x121002))
def X3.j2:Nat->Int->List Int->Bool->Int->Int->List Int->Option (List Int)
  |0,_,_,_,_,_,_=>none
  |k+1,x1,x5,x42,x121000,x121001,x121002=>if x42=true then(if x5.length<17592186044416 then(X3.j3 k x1 (x5++[wrap64 (x1-1)]) x121000 x121001 x121002) else(none)) else(X3.j3 k x1 x5 x121000 x121001 x121002)
def X3.j3:Nat->Int->List Int->Int->Int->List Int->Option (List Int)
  |0,_,_,_,_,_=>none
  |k+1,x1,x5,x121000,x121001,x121002=>if x121000=0 then(none) else(if (Int.tmod x1 x121000)<(wrap64 (x121000-1)) then(if 0<=(wrap64 (x1+1)) then(if (wrap64 (x1+1))<(x121002.length:Int) then(X3.j4 k x1 x5 ((rd x121002 (wrap64 (x1+1))) != 2) x121000 x121001 x121002) else(none)) else(none)) else(X3.j4 k x1 x5 false x121000 x121001 x121002))
def X3.j4:Nat->Int->List Int->Bool->Int->Int->List Int->Option (List Int)
  |0,_,_,_,_,_,_=>none
  |k+1,x1,x5,x64,x121000,x121001,x121002=>if x64=true then(if x5.length<17592186044416 then((some (x5++[wrap64 (x1+1)]:List Int)).bind fun y133=>(if (wrap64 (x1+x121000))<(x121002.length:Int) then(if 0<=(wrap64 (x1+x121000)) then(if (rd x121002 (wrap64 (x1+x121000)))=2 then(some y133) else(if y133.length<17592186044416 then(some (y133++[wrap64 (x1+x121000)])) else(none))) else(none)) else(some y133))) else(none)) else(if (wrap64 (x1+x121000))<(x121002.length:Int) then(if 0<=(wrap64 (x1+x121000)) then(if (rd x121002 (wrap64 (x1+x121000)))=2 then(some x5) else(if x5.length<17592186044416 then(some (x5++[wrap64 (x1+x121000)])) else(none))) else(none)) else(some x5))
end
def X3.f (k:Nat) (a0_0:Int) (a0_1:Int) (l0_2:List Int) (a1:Int):Option (List Int):=(some (([]:List Int):List Int)).bind fun y121=>(if a1>=a0_0 then(if 0<=(wrap64 (a1-a0_0)) then(if (wrap64 (a1-a0_0))<(l0_2.length:Int) then(X3.j0 k a1 y121 ((rd l0_2 (wrap64 (a1-a0_0))) != 2) a0_0 a0_1 l0_2) else(none)) else(none)) else(X3.j0 k a1 y121 false a0_0 a0_1 l0_2))
theorem X3.calls (k:Nat) (aD:Int) (aJ:Int) (bN:Option Addr) (bM:Nat) (aC:List Int) (a1:Int) (r:List Int) (w:World) (dY:Kd.C (Kd.int .i64) w bN aC.length aC) (dZ:aC.length<=bM) (h:X3.f k aD aJ aC a1=some r) :
  Calls Try.prog 105 #[.agg #[aD,aJ,.slice bN aC.length bM],a1] w fun e w'=>∃ v0_:Value,e=.returned (v0_)/\Kd.R (Kd.int .i64) 3 w' w.heap.size (fun _=>True) v0_ r/\Below w.heap.size w w':=by
 have hu37:=Try.underlying37;have aU:=zA dY;have hV:=zA dZ;clear dY dZ;have HB:=zA (Below.refl w.heap.size w);have H:=h;clear h;unfold X3.f at H;obtain⟨bL,dH⟩:∃ y_:List Int,y_=(([]:List Int)):=⟨_,rfl⟩
 replace H:(if a1>=aD then(if 0<=(wrap64 (a1-aD)) then(if (wrap64 (a1-aD))<(aC.length:Int) then(X3.j0 k a1 bL ((rd aC (wrap64 (a1-aD))) != 2) aD aJ aC) else(none)) else(none)) else(X3.j0 k a1 bL false aD aJ aC))=some r:=zY dH H
 have Ny121:=zA dH;clear dH;have fS:=zA H;clear H;go_enter Try.func105,Try.ntmps105
 go_upto_region 2 with (first|((with_reducible refine zgd 2 rfl ?_);refine zbx 2 #[aD,aJ,.slice bN aC.length bM] 37 ?_;intro bY hg w4 b' hb;have aA:=zA b';have gB:=zga (w:=w) hg;replace HB:=zbs hb;clear hb b' hg)|((with_reducible refine zgd 6 rfl ?_);refine Kd.R_lit (Kd.int .i64) _ 3 ?hg (N:=6) ?hd (xs:=([]:List Int)) (inner:=[]) (ok:=fun _=>True) (okp:=fun _=>True) ?hr ?hp (fun _ hk=>hk) trivial (Below.refl _ _) (Nat.le_refl _) (by simp) ?_;(case hd=>rfl);(case hg=>rfl);(case hr=>first|(go_simp;done)|(go_simp;rfl));(case hp=>exact(Reps.none _ _));intro v122 w5 ho6 hb hg_ hnew_;clear hg_ hnew_;(first|rw[<-Ny121.out] at ho6|(simp only[Int.reduceToNat] at ho6;rw[<-Ny121.out] at ho6));have dO:=zA (Kd.R_lower ho6 (below_size zb));replace aA:=zkb aA hb;replace HB:=zbs hb;clear hb ho6))
 repeat (go_quiet (fail);go_upto_region 2 with (first|((with_reducible refine zgd 2 rfl ?_);refine zbx 2 #[aD,aJ,.slice bN aC.length bM] 37 ?_;intro bY hg w4 b' hb;have aA:=zA b';have gB:=zga (w:=w) hg;replace HB:=zbs hb;clear hb b' hg)|((with_reducible refine zgd 6 rfl ?_);refine Kd.R_lit (Kd.int .i64) _ 3 ?hg (N:=6) ?hd (xs:=([]:List Int)) (inner:=[]) (ok:=fun _=>True) (okp:=fun _=>True) ?hr ?hp (fun _ hk=>hk) trivial (Below.refl _ _) (Nat.le_refl _) (by simp) ?_;(case hd=>rfl);(case hg=>rfl);(case hr=>first|(go_simp;done)|(go_simp;rfl));(case hp=>exact(Reps.none _ _));intro v122 w5 ho6 hb hg_ hnew_;clear hg_ hnew_;(first|rw[<-Ny121.out] at ho6|(simp only[Int.reduceToNat] at ho6;rw[<-Ny121.out] at ho6));have dO:=zA (Kd.R_lower ho6 (below_size zb));replace aA:=zkb aA hb;replace HB:=zbs hb;clear hb ho6)))
 (try simp only[Act.put,z1,z2,z3])
 go_cut [21] (fun v21 wc=>∃ (kq:Nat) (cU:Bool),v21=.bool cU/\Aside0 (X3.j0 kq a1 bL cU aD aJ aC=some r)/\Aside0 (kq<=k)/\Aside0 (Kd.R (Kd.int .i64) 3 wc w.heap.size (fun _=>True) v122 bL)/\Aside0 (wc.heap[bY]?=some (.cells #[aD,aJ,(.slice bN aC.length bM)] 37 (0,0)))/\Aside0 (Below w.heap.size w wc))
 case first =>
  have H:=fS.out;clear fS
  by_cases c7:a1>=aD
  ·rw[if_pos c7] at H;have aW:decide (aD<=a1)=true:=decide_eq_true c7;clear c7;(first|rw[aW]|(simp only[i64_w,i32_w];rw[aW])|skip);obtain⟨cS,dI⟩:∃ j_:Int,(wrap64 (a1-aD))=j_:=⟨_,rfl⟩
   replace H:(if 0<=(cS) then(if (cS)<(aC.length:Int) then(X3.j0 k a1 bL ((rd aC (cS)) != 2) aD aJ aC) else(none)) else(none))=some r:=by first|(rw[dI] at H;exact H)|(simp only[dI] at H ⊢;exact H)
   have hP:(IntKind.i64.wrap (a1-aD))=cS:=(i64_w _).trans dI;obtain⟨dA,H⟩:=zifD H;obtain⟨cE,H⟩:=zifD H;have H':=zA H;clear H;obtain⟨bK,bJ,bI,bE,bD,bC⟩:=ze3 aA;have cZ:=zT (0<=((cS):Int));have cY:=zT ((cS)<(aC.length:Int));obtain⟨hU,gK,aQ⟩:=Kd.at_int aU.out (cS) zd zd;cases gK;replace aQ:=zC HB aQ;go_wp2
   repeat (go_quiet (fail);try go_wp2)
   go_meet
   case rel=>exact⟨_,(((rd aC (cS)) != 2)),(by first|rfl|(simp;done)|(simp only[<-dI] <;> (first|rfl|simp))|(simp[*];done)),H',⟨by first|omega|exact Nat.le_refl _⟩,⟨zR dO⟩,⟨zk aA⟩,⟨zb⟩⟩
  ·rw[if_neg c7] at H;have aW:decide (aD<=a1)=false:=decide_eq_false c7;clear c7;(first|rw[aW]|(simp only[i64_w,i32_w];rw[aW])|skip);have H':=zA H;clear H;obtain⟨bH,bG,bF,bB,bA,aZ⟩:=ze3 aA;go_wp2
   repeat (go_quiet (fail);try go_wp2)
   go_meet
   case rel=>exact⟨_,(false),zr,H',⟨by first|omega|exact Nat.le_refl _⟩,⟨zR dO⟩,⟨zk aA⟩,⟨zb⟩⟩
 case rest =>
  clear fS;(try clear c7);(try clear aW);(try clear c9);(try clear dA);(try clear c10);(try clear cE);(try clear bK);(try clear bJ);(try clear bI);(try clear bH);(try clear bG);(try clear bF);(try clear bE);(try clear bD);(try clear bC);(try clear bB);(try clear bA);(try clear aZ);(try clear aQ);(try clear cZ);(try clear cY);obtain⟨kq,cU,rfl,HA,HJ2,aE,aA,HB⟩:=hcut;cases kq with
  |zero=>exact absurd HA.out (by simp[X3.j0])
  |succ kj2 =>
   have H:=HA.out;clear HA;simp only[X3.j0] at H;have dX:=zA H;clear H
   go_upto_if 21 with (fail)
   repeat (go_quiet (fail);go_upto_if 21 with (fail))
   go_cut [5] (fun v5 wc=>∃ (kq:Nat) (aT:List Int),Aside0 (X3.j1 kq a1 aT aD aJ aC=some r)/\Aside0 (kq<=kj2)/\Aside0 (Kd.R (Kd.int .i64) 3 wc w.heap.size (fun _=>True) v5 aT)/\Aside0 (wc.heap[bY]?=some (.cells #[aD,aJ,(.slice bN aC.length bM)] 37 (0,0)))/\Aside0 (Below w.heap.size w wc))
   case first =>
    have H:=dX.out;clear dX
    by_cases cT:cU=true
    ·subst cT;rw[if_pos rfl] at H;obtain⟨eH,H⟩:=zifA H;obtain⟨fR,dG⟩:∃ y_:List Int,y_=(bL++[wrap64 (a1-aD)]):=⟨_,rfl⟩
     replace H:(X3.j1 kj2 a1 fR aD aJ aC)=some r:=zY dG H
     have Ny125:=zA dG;clear dG;have H':=zA H;clear H;obtain⟨bX,bW,bV,bU,bT,bS⟩:=ze3 aA
     go_wp2_with (first|((with_reducible refine gate_builtin (b:=.append) (xs:=#[.tmp 22,.tmp 27]) rfl ?_);at_builtin;refine Kd.R_append (Kd.int .i64) (w0:=w) w.heap.size rfl (.tmp 22) (.tmp 27) 22 3 (.int .i64 0) 8 rfl Try.underlying22 info3 rfl (by decide) (by omega) v122 bL (wrap64 (a1-aD)) [.int .i64 (wrap64 (a1-aD))] (fun _=>True) (fun _=>False) rfl rfl ?aP (fun _ hk=>hk.elim) ?aF ?aO ?aB ?aS ?aL ?_;(case aP=>exact rfl);(case aB=>exact zb);(case aF=>exact(fun _ _=>trivial));(case aO=>exact(zR aE));(case aS=>exact(below_size zb));(case aL=>have:=eH.out;omega);intro v126 hJ ho hb hg hat;rw[<-Ny125.out] at ho;replace aA:=zgr aA hg (Kd.R_ne aE.out aA.out (by decide));replace HB:=zA hb;have eL:=zA ho;clear aE;clear ho hb hg hat))
     repeat (go_quiet (fail);try go_wp2_with (first|((with_reducible refine gate_builtin (b:=.append) (xs:=#[.tmp 22,.tmp 27]) rfl ?_);at_builtin;refine Kd.R_append (Kd.int .i64) (w0:=w) w.heap.size rfl (.tmp 22) (.tmp 27) 22 3 (.int .i64 0) 8 rfl Try.underlying22 info3 rfl (by decide) (by omega) v122 bL (wrap64 (a1-aD)) [.int .i64 (wrap64 (a1-aD))] (fun _=>True) (fun _=>False) rfl rfl ?aP (fun _ hk=>hk.elim) ?aF ?aO ?aB ?aS ?aL ?_;(case aP=>exact rfl);(case aB=>exact zb);(case aF=>exact(fun _ _=>trivial));(case aO=>exact(zR aE));(case aS=>exact(below_size zb));(case aL=>have:=eH.out;omega);intro v126 hJ ho hb hg hat;rw[<-Ny125.out] at ho;replace aA:=zgr aA hg (Kd.R_ne aE.out aA.out (by decide));replace HB:=zA hb;have eL:=zA ho;clear aE;clear ho hb hg hat)))
     go_meet
     case rel=>exact⟨_,(fR),H',⟨by have:=HJ2.out;first|omega|exact Nat.le_refl _⟩,⟨zR eL⟩,⟨zk aA⟩,⟨zb⟩⟩
    ·replace cT:=zbq cT;subst cT;rw[if_neg zNo] at H;have H':=zA H;clear H;go_wp2
     repeat (go_quiet (fail);try go_wp2)
     go_meet
     case rel=>exact⟨_,(bL),H',⟨by have:=HJ2.out;first|omega|exact Nat.le_refl _⟩,⟨zR aE⟩,⟨zk aA⟩,⟨zb⟩⟩
   case rest =>
    clear dX;(try clear c7);(try clear aW);(try clear c9);(try clear dA);(try clear c10);(try clear cE);(try clear cT);(try clear c15);(try clear bK);(try clear bJ);(try clear bI);(try clear bH);(try clear bG);(try clear bF);(try clear bX);(try clear bW);(try clear bV);(try clear bE);(try clear bD);(try clear bC);(try clear bB);(try clear bA);(try clear aZ);(try clear bU);(try clear bT);(try clear bS);(try clear aQ);(try clear cZ);(try clear cY);obtain⟨kq,aT,HA,HJ12,aE,aA,HB⟩:=hcut;cases kq with
    |zero=>exact absurd HA.out (by simp[X3.j1])
    |succ kj12 =>
     have H:=HA.out;clear HA;simp only[X3.j1] at H;have dW:=zA H;clear H
     go_upto_region 4 with (fail)
     repeat (go_quiet (fail);go_upto_region 4 with (fail))
     go_cut [42] (fun v42 wc=>∃ (kq:Nat) (cC:Bool),v42=.bool cC/\Aside0 (X3.j2 kq a1 aT cC aD aJ aC=some r)/\Aside0 (kq<=kj12)/\Aside0 (Kd.R (Kd.int .i64) 3 wc w.heap.size (fun _=>True) u5 aT)/\Aside0 (wc.heap[bY]?=some (.cells #[aD,aJ,(.slice bN aC.length bM)] 37 (0,0)))/\Aside0 (Below w.heap.size w wc))
     case first =>
      have H:=dW.out;clear dW
      by_cases c19:aD=0
      ·rw[if_pos c19] at H;exact absurd H (by simp)
      ·rw[if_neg c19] at H;have cD:(aD==0)=false:=beq_eq_false_iff_ne.mpr c19;have dM:(aD != 0)=true:=bne_iff_ne.mpr c19;(first|rw[cD]|(simp only[i64_w,i32_w];rw[cD])|skip)
       by_cases c20:(Int.tmod a1 aD)>0
       ·rw[if_pos c20] at H;have cX:decide (0<(Int.tmod a1 aD))=true:=decide_eq_true c20;clear c20;obtain⟨bP,cW⟩:∃ j_:Int,(wrap64 (a1-1))=j_:=⟨_,rfl⟩
        replace H:(if 0<=(bP) then(if (bP)<(aC.length:Int) then(X3.j2 kj12 a1 aT ((rd aC (bP)) != 2) aD aJ aC) else(none)) else(none))=some r:=by first|(rw[cW] at H;exact H)|(simp only[cW] at H ⊢;exact H)
        have hO:(IntKind.i64.wrap (a1-1))=bP:=(i64_w _).trans cW;obtain⟨dL,H⟩:=zifD H;obtain⟨dK,H⟩:=zifD H;have H':=zA H;clear H;obtain⟨cR,cQ,cP,cL,cK,cJ⟩:=ze3 aA;have dS:=zT (0<=((bP):Int));have dQ:=zT ((bP)<(aC.length:Int));obtain⟨hT,gJ,aY⟩:=Kd.at_int aU.out (bP) zd zd;cases gJ;replace aY:=zC HB aY;go_wp2
        repeat (go_quiet (fail);try go_wp2)
        go_meet
        case rel=>exact⟨_,(((rd aC (bP)) != 2)),(by first|rfl|(simp;done)|(simp only[<-cW] <;> (first|rfl|simp))|(simp[*];done)),H',⟨by have:=HJ2.out;have:=HJ12.out;first|omega|exact Nat.le_refl _⟩,⟨zR aE⟩,⟨zk aA⟩,⟨zb⟩⟩
       ·rw[if_neg c20] at H;have cX:decide (0<(Int.tmod a1 aD))=false:=decide_eq_false c20;clear c20;have H':=zA H;clear H;obtain⟨cO,cN,cM,cI,cH,cG⟩:=ze3 aA;go_wp2
        repeat (go_quiet (fail);try go_wp2)
        go_meet
        case rel=>exact⟨_,(false),zr,H',⟨by have:=HJ2.out;have:=HJ12.out;first|omega|exact Nat.le_refl _⟩,⟨zR aE⟩,⟨zk aA⟩,⟨zb⟩⟩
     case rest =>
      clear dW;(try clear c7);(try clear aW);(try clear c9);(try clear dA);(try clear c10);(try clear cE);(try clear cT);(try clear c15);(try clear c19);(try clear cD);(try clear dM);(try clear c20);(try clear cX);(try clear c22);(try clear dL);(try clear c23);(try clear dK);(try clear bK);(try clear bJ);(try clear bI);(try clear bH);(try clear bG);(try clear bF);(try clear bX);(try clear bW);(try clear bV);(try clear cR);(try clear cQ);(try clear cP);(try clear cO);(try clear cN);(try clear cM);(try clear bE);(try clear bD);(try clear bC);(try clear bB);(try clear bA);(try clear aZ);(try clear bU);(try clear bT);(try clear bS);(try clear cL);(try clear cK);(try clear cJ);(try clear cI);(try clear cH);(try clear cG);(try clear aQ);(try clear aY);(try clear cZ);(try clear dS);(try clear cY);(try clear dQ);obtain⟨kq,cC,rfl,HA,HJ17,aE,aA,HB⟩:=hcut;cases kq with
      |zero=>exact absurd HA.out (by simp[X3.j2])
      |succ kj17 =>
       have H:=HA.out;clear HA;simp only[X3.j2] at H;have dV:=zA H;clear H
       go_upto_if 42 with (fail)
       repeat (go_quiet (fail);go_upto_if 42 with (fail))
       go_cut [5] (fun v5 wc=>∃ (kq:Nat) (aI:List Int),Aside0 (X3.j3 kq a1 aI aD aJ aC=some r)/\Aside0 (kq<=kj17)/\Aside0 (Kd.R (Kd.int .i64) 3 wc w.heap.size (fun _=>True) v5 aI)/\Aside0 (wc.heap[bY]?=some (.cells #[aD,aJ,(.slice bN aC.length bM)] 37 (0,0)))/\Aside0 (Below w.heap.size w wc))
       case first =>
        have H:=dV.out;clear dV
        by_cases dB:cC=true
        ·subst dB;rw[if_pos rfl] at H;obtain⟨eG,H⟩:=zifA H;obtain⟨fQ,dF⟩:∃ y_:List Int,y_=(aT++[wrap64 (a1-1)]):=⟨_,rfl⟩
         replace H:(X3.j3 kj17 a1 fQ aD aJ aC)=some r:=zY dF H
         have Ny129:=zA dF;clear dF;have H':=zA H;clear H
         go_wp2_with (first|((with_reducible refine gate_builtin (b:=.append) (xs:=#[.tmp 43,.tmp 46]) rfl ?_);at_builtin;refine Kd.R_append (Kd.int .i64) (w0:=w) w.heap.size rfl (.tmp 43) (.tmp 46) 22 3 (.int .i64 0) 8 rfl Try.underlying22 info3 rfl (by decide) (by omega) u5 aT (wrap64 (a1-1)) [.int .i64 (wrap64 (a1-1))] (fun _=>True) (fun _=>False) rfl rfl ?aP (fun _ hk=>hk.elim) ?aF ?aO ?aB ?aS ?aL ?_;(case aP=>exact rfl);(case aB=>exact zb);(case aF=>exact(fun _ _=>trivial));(case aO=>exact(zR aE));(case aS=>exact(below_size zb));(case aL=>have:=eG.out;omega);intro v130 hI ho hb hg hat;rw[<-Ny129.out] at ho;replace aA:=zgr aA hg (Kd.R_ne aE.out aA.out (by decide));replace HB:=zA hb;have eK:=zA ho;clear aE;clear ho hb hg hat))
         repeat (go_quiet (fail);try go_wp2_with (first|((with_reducible refine gate_builtin (b:=.append) (xs:=#[.tmp 43,.tmp 46]) rfl ?_);at_builtin;refine Kd.R_append (Kd.int .i64) (w0:=w) w.heap.size rfl (.tmp 43) (.tmp 46) 22 3 (.int .i64 0) 8 rfl Try.underlying22 info3 rfl (by decide) (by omega) u5 aT (wrap64 (a1-1)) [.int .i64 (wrap64 (a1-1))] (fun _=>True) (fun _=>False) rfl rfl ?aP (fun _ hk=>hk.elim) ?aF ?aO ?aB ?aS ?aL ?_;(case aP=>exact rfl);(case aB=>exact zb);(case aF=>exact(fun _ _=>trivial));(case aO=>exact(zR aE));(case aS=>exact(below_size zb));(case aL=>have:=eG.out;omega);intro v130 hI ho hb hg hat;rw[<-Ny129.out] at ho;replace aA:=zgr aA hg (Kd.R_ne aE.out aA.out (by decide));replace HB:=zA hb;have eK:=zA ho;clear aE;clear ho hb hg hat)))
         go_meet
         case rel=>exact⟨_,(fQ),H',⟨by have:=HJ2.out;have:=HJ12.out;have:=HJ17.out;first|omega|exact Nat.le_refl _⟩,⟨zR eK⟩,⟨zk aA⟩,⟨zb⟩⟩
        ·replace dB:=zbq dB;subst dB;rw[if_neg zNo] at H;have H':=zA H;clear H;go_wp2
         repeat (go_quiet (fail);try go_wp2)
         go_meet
         case rel=>exact⟨_,(aT),H',⟨by have:=HJ2.out;have:=HJ12.out;have:=HJ17.out;first|omega|exact Nat.le_refl _⟩,⟨zR aE⟩,⟨zk aA⟩,⟨zb⟩⟩
       case rest =>
        clear dV;(try clear c7);(try clear aW);(try clear c9);(try clear dA);(try clear c10);(try clear cE);(try clear cT);(try clear c15);(try clear c19);(try clear cD);(try clear dM);(try clear c20);(try clear cX);(try clear c22);(try clear dL);(try clear c23);(try clear dK);(try clear dB);(try clear c28);(try clear bK);(try clear bJ);(try clear bI);(try clear bH);(try clear bG);(try clear bF);(try clear bX);(try clear bW);(try clear bV);(try clear cR);(try clear cQ);(try clear cP);(try clear cO);(try clear cN);(try clear cM);(try clear bE);(try clear bD);(try clear bC);(try clear bB);(try clear bA);(try clear aZ);(try clear bU);(try clear bT);(try clear bS);(try clear cL);(try clear cK);(try clear cJ);(try clear cI);(try clear cH);(try clear cG);(try clear aQ);(try clear aY);(try clear cZ);(try clear dS);(try clear cY);(try clear dQ);obtain⟨kq,aI,HA,HJ25,aE,aA,HB⟩:=hcut;cases kq with
        |zero=>exact absurd HA.out (by simp[X3.j3])
        |succ kj25 =>
         have H:=HA.out;clear HA;simp only[X3.j3] at H;have dU:=zA H;clear H
         go_upto_region 6 with (fail)
         repeat (go_quiet (fail);go_upto_region 6 with (fail))
         go_cut [64] (fun v64 wc=>∃ (kq:Nat) (cB:Bool),v64=.bool cB/\Aside0 (X3.j4 kq a1 aI cB aD aJ aC=some r)/\Aside0 (kq<=kj25)/\Aside0 (Kd.R (Kd.int .i64) 3 wc w.heap.size (fun _=>True) u5 aI)/\Aside0 (wc.heap[bY]?=some (.cells #[aD,aJ,(.slice bN aC.length bM)] 37 (0,0)))/\Aside0 (Below w.heap.size w wc))
         case first =>
          have H:=dU.out;clear dU
          by_cases c31:aD=0
          ·rw[if_pos c31] at H;exact absurd H (by simp)
          ·rw[if_neg c31] at H;have dJ:(aD==0)=false:=beq_eq_false_iff_ne.mpr c31;have fZ:(aD != 0)=true:=bne_iff_ne.mpr c31;(first|rw[dJ]|(simp only[i64_w,i32_w];rw[dJ])|skip)
           by_cases c32:(Int.tmod a1 aD)<(wrap64 (aD-1))
           ·rw[if_pos c32] at H;have eD:=decide_eq_true c32;clear c32;obtain⟨bO,cV⟩:∃ j_:Int,(wrap64 (a1+1))=j_:=⟨_,rfl⟩
            replace H:(if 0<=(bO) then(if (bO)<(aC.length:Int) then(X3.j4 kj25 a1 aI ((rd aC (bO)) != 2) aD aJ aC) else(none)) else(none))=some r:=by first|(rw[cV] at H;exact H)|(simp only[cV] at H ⊢;exact H)
            have hN:(IntKind.i64.wrap (a1+1))=bO:=(i64_w _).trans cV;obtain⟨fY,H⟩:=zifD H;obtain⟨fX,H⟩:=zifD H;have H':=zA H;clear H;obtain⟨fP,fO,fN,fA,eZ,eY⟩:=ze3 aA;have gH:=zT (0<=((bO):Int));have gF:=zT ((bO)<(aC.length:Int));obtain⟨hS,gI,cF⟩:=Kd.at_int aU.out (bO) zd zd;cases gI;replace cF:=zC HB cF;go_wp2
            repeat (go_quiet (fail);try go_wp2)
            go_meet
            case rel=>exact⟨_,(((rd aC (bO)) != 2)),(by first|rfl|(simp;done)|(simp only[<-cV] <;> (first|rfl|simp))|(simp[*];done)),H',⟨by have:=HJ2.out;have:=HJ12.out;have:=HJ17.out;have:=HJ25.out;first|omega|exact Nat.le_refl _⟩,⟨zR aE⟩,⟨zk aA⟩,⟨zb⟩⟩
           ·rw[if_neg c32] at H;have eD:=decide_eq_false c32;clear c32;have H':=zA H;clear H;obtain⟨fM,fL,fK,eX,eW,eV⟩:=ze3 aA;go_wp2
            repeat (go_quiet (fail);try go_wp2)
            go_meet
            case rel=>exact⟨_,(false),zr,H',⟨by have:=HJ2.out;have:=HJ12.out;have:=HJ17.out;have:=HJ25.out;first|omega|exact Nat.le_refl _⟩,⟨zR aE⟩,⟨zk aA⟩,⟨zb⟩⟩
         case rest =>
          clear dU;(try clear c7);(try clear aW);(try clear c9);(try clear dA);(try clear c10);(try clear cE);(try clear cT);(try clear c15);(try clear c19);(try clear cD);(try clear dM);(try clear c20);(try clear cX);(try clear c22);(try clear dL);(try clear c23);(try clear dK);(try clear dB);(try clear c28);(try clear c31);(try clear dJ);(try clear fZ);(try clear c32);(try clear eD);(try clear c34);(try clear fY);(try clear c35);(try clear fX);(try clear bK);(try clear bJ);(try clear bI);(try clear bH);(try clear bG);(try clear bF);(try clear bX);(try clear bW);(try clear bV);(try clear cR);(try clear cQ);(try clear cP);(try clear cO);(try clear cN);(try clear cM);(try clear fP);(try clear fO);(try clear fN);(try clear fM);(try clear fL);(try clear fK);(try clear bE);(try clear bD);(try clear bC);(try clear bB);(try clear bA);(try clear aZ);(try clear bU);(try clear bT);(try clear bS);(try clear cL);(try clear cK);(try clear cJ);(try clear cI);(try clear cH);(try clear cG);(try clear fA);(try clear eZ);(try clear eY);(try clear eX);(try clear eW);(try clear eV);(try clear aQ);(try clear aY);(try clear cF);(try clear cZ);(try clear dS);(try clear gH);(try clear cY);(try clear dQ);(try clear gF);obtain⟨kq,cB,rfl,HA,HJ29,aE,aA,HB⟩:=hcut;cases kq with
          |zero=>exact absurd HA.out (by simp[X3.j4])
          |succ kj29 =>
           have H:=HA.out;clear HA;simp only[X3.j4] at H
           by_cases eC:cB=true
           ·subst eC;rw[if_pos rfl] at H;obtain⟨bZ,H⟩:=zifA H;obtain⟨aV,dE⟩:∃ y_:List Int,y_=(aI++[wrap64 (a1+1)]):=⟨_,rfl⟩
            replace H:(if (wrap64 (a1+aD))<(aC.length:Int) then(if 0<=(wrap64 (a1+aD)) then(if (rd aC (wrap64 (a1+aD)))=2 then(some aV) else(if aV.length<17592186044416 then(some (aV++[wrap64 (a1+aD)])) else(none))) else(none)) else(some aV))=some r:=zY dE H
            have Ny133:=zA dE;clear dE
            by_cases c40:(wrap64 (a1+aD))<(aC.length:Int)
            ·rw[if_pos c40] at H;have eB:=decide_eq_true c40;clear c40;obtain⟨aH,bR⟩:∃ j_:Int,(wrap64 (a1+aD))=j_:=⟨_,rfl⟩
             replace H:(if 0<=(aH) then(if (rd aC (aH))=2 then(some aV) else(if aV.length<17592186044416 then(some (aV++[aH])) else(none))) else(none))=some r:=by first|(rw[bR] at H;exact H)|(simp only[bR] at H ⊢;exact H)
             (try rw[bR] at eB);have hM:(IntKind.i64.wrap (a1+aD))=aH:=(i64_w _).trans bR;obtain⟨hR,H⟩:=zifD H
             by_cases c43:(rd aC (aH))=2
             ·rw[if_pos c43] at H;have fW:((rd aC (aH))==2)=true:=beq_iff_eq.mpr c43;have fV:((rd aC (aH)) != 2)=false:=bne_eq_false_iff_eq.mpr c43;clear c43;obtain rfl:=zI H
              go_wp2_with (first|((with_reducible refine gate_builtin (b:=.append) (xs:=#[.tmp 65,.tmp 68]) rfl ?_);at_builtin;refine Kd.R_append (Kd.int .i64) (w0:=w) w.heap.size rfl (.tmp 65) (.tmp 68) 22 3 (.int .i64 0) 8 rfl Try.underlying22 info3 rfl (by decide) (by omega) u5 aI (wrap64 (a1+1)) [.int .i64 (wrap64 (a1+1))] (fun _=>True) (fun _=>False) rfl rfl ?aP (fun _ hk=>hk.elim) ?aF ?aO ?aB ?aS ?aL ?_;(case aP=>exact rfl);(case aB=>exact zb);(case aF=>exact(fun _ _=>trivial));(case aO=>exact(zR aE));(case aS=>exact(below_size zb));(case aL=>have:=bZ.out;omega);intro v134 hH ho hb hg hat;rw[<-Ny133.out] at ho;replace aA:=zgr aA hg (Kd.R_ne aE.out aA.out (by decide));replace HB:=zA hb;have aN:=zA ho;clear aE;clear ho hb hg hat;obtain⟨fJ,fI,fH,eU,eT,eS⟩:=ze3 aA;have dR:=zT (0<=((aH):Int));have dP:=zT ((aH)<(aC.length:Int));obtain⟨dN,cA,aM⟩:=Kd.at_int aU.out (aH) zd zd;cases cA;replace aM:=zC HB aM))
              repeat (go_quiet (fail);try go_wp2_with (first|((with_reducible refine gate_builtin (b:=.append) (xs:=#[.tmp 65,.tmp 68]) rfl ?_);at_builtin;refine Kd.R_append (Kd.int .i64) (w0:=w) w.heap.size rfl (.tmp 65) (.tmp 68) 22 3 (.int .i64 0) 8 rfl Try.underlying22 info3 rfl (by decide) (by omega) u5 aI (wrap64 (a1+1)) [.int .i64 (wrap64 (a1+1))] (fun _=>True) (fun _=>False) rfl rfl ?aP (fun _ hk=>hk.elim) ?aF ?aO ?aB ?aS ?aL ?_;(case aP=>exact rfl);(case aB=>exact zb);(case aF=>exact(fun _ _=>trivial));(case aO=>exact(zR aE));(case aS=>exact(below_size zb));(case aL=>have:=bZ.out;omega);intro v134 hH ho hb hg hat;rw[<-Ny133.out] at ho;replace aA:=zgr aA hg (Kd.R_ne aE.out aA.out (by decide));replace HB:=zA hb;have aN:=zA ho;clear aE;clear ho hb hg hat;obtain⟨fJ,fI,fH,eU,eT,eS⟩:=ze3 aA;have dR:=zT (0<=((aH):Int));have dP:=zT ((aH)<(aC.length:Int));obtain⟨dN,cA,aM⟩:=Kd.at_int aU.out (aH) zd zd;cases cA;replace aM:=zC HB aM)))
              go_ret;exact⟨_,by first|rfl|(simp[errW_none,errW_some] <;> rfl)|(simp only[<-bR];first|rfl|(simp[errW_none,errW_some] <;> rfl))|(simp[*,errW_none,errW_some] <;> rfl),zR aN,zb⟩
             ·rw[if_neg c43] at H;have fW:((rd aC (aH))==2)=false:=beq_eq_false_iff_ne.mpr c43;have fV:((rd aC (aH)) != 2)=true:=bne_iff_ne.mpr c43;obtain⟨eF,H⟩:=zifA H;obtain⟨gD,dD⟩:∃ y_:List Int,y_=(aV++[aH]):=⟨_,rfl⟩
              replace H:(some gD)=some r:=zY dD H
              have Ny137:=zA dD;clear dD;obtain rfl:=zI H
              go_wp2_with (first|((with_reducible refine gate_builtin (b:=.append) (xs:=#[.tmp 65,.tmp 68]) rfl ?_);at_builtin;refine Kd.R_append (Kd.int .i64) (w0:=w) w.heap.size rfl (.tmp 65) (.tmp 68) 22 3 (.int .i64 0) 8 rfl Try.underlying22 info3 rfl (by decide) (by omega) u5 aI (wrap64 (a1+1)) [.int .i64 (wrap64 (a1+1))] (fun _=>True) (fun _=>False) rfl rfl ?aP (fun _ hk=>hk.elim) ?aF ?aO ?aB ?aS ?aL ?_;(case aP=>exact rfl);(case aB=>exact zb);(case aF=>exact(fun _ _=>trivial));(case aO=>exact(zR aE));(case aS=>exact(below_size zb));(case aL=>have:=bZ.out;omega);intro v134 hG ho hb hg hat;rw[<-Ny133.out] at ho;replace aA:=zgr aA hg (Kd.R_ne aE.out aA.out (by decide));replace HB:=zA hb;have aN:=zA ho;clear aE;clear ho hb hg hat;obtain⟨fG,fF,fE,eR,eQ,eP⟩:=ze3 aA;have dR:=zT (0<=((aH):Int));have dP:=zT ((aH)<(aC.length:Int));obtain⟨dN,cA,aM⟩:=Kd.at_int aU.out (aH) zd zd;cases cA;replace aM:=zC HB aM)|((with_reducible refine gate_builtin (b:=.append) (xs:=#[.tmp 89,.tmp 94]) rfl ?_);at_builtin;refine Kd.R_append (Kd.int .i64) (w0:=w) w.heap.size rfl (.tmp 89) (.tmp 94) 22 3 (.int .i64 0) 8 rfl Try.underlying22 info3 rfl (by decide) (by omega) v134 aV aH [aH] (fun _=>True) (fun _=>False) rfl rfl ?aP (fun _ hk=>hk.elim) ?aF ?aO ?aB ?aS ?aL ?_;(case aP=>exact rfl);(case aB=>exact zb);(case aF=>exact(fun _ _=>trivial));(case aO=>exact(zR aN));(case aS=>exact(below_size zb));(case aL=>have:=eF.out;omega);intro v138 hF ho hb hg hat;rw[<-Ny137.out] at ho;replace aA:=zgr aA hg (Kd.R_ne aN.out aA.out (by decide));replace HB:=zA hb;have eJ:=zA ho;clear aN;clear ho hb hg hat))
              repeat (go_quiet (fail);try go_wp2_with (first|((with_reducible refine gate_builtin (b:=.append) (xs:=#[.tmp 65,.tmp 68]) rfl ?_);at_builtin;refine Kd.R_append (Kd.int .i64) (w0:=w) w.heap.size rfl (.tmp 65) (.tmp 68) 22 3 (.int .i64 0) 8 rfl Try.underlying22 info3 rfl (by decide) (by omega) u5 aI (wrap64 (a1+1)) [.int .i64 (wrap64 (a1+1))] (fun _=>True) (fun _=>False) rfl rfl ?aP (fun _ hk=>hk.elim) ?aF ?aO ?aB ?aS ?aL ?_;(case aP=>exact rfl);(case aB=>exact zb);(case aF=>exact(fun _ _=>trivial));(case aO=>exact(zR aE));(case aS=>exact(below_size zb));(case aL=>have:=bZ.out;omega);intro v134 hG ho hb hg hat;rw[<-Ny133.out] at ho;replace aA:=zgr aA hg (Kd.R_ne aE.out aA.out (by decide));replace HB:=zA hb;have aN:=zA ho;clear aE;clear ho hb hg hat;obtain⟨fG,fF,fE,eR,eQ,eP⟩:=ze3 aA;have dR:=zT (0<=((aH):Int));have dP:=zT ((aH)<(aC.length:Int));obtain⟨dN,cA,aM⟩:=Kd.at_int aU.out (aH) zd zd;cases cA;replace aM:=zC HB aM)|((with_reducible refine gate_builtin (b:=.append) (xs:=#[.tmp 89,.tmp 94]) rfl ?_);at_builtin;refine Kd.R_append (Kd.int .i64) (w0:=w) w.heap.size rfl (.tmp 89) (.tmp 94) 22 3 (.int .i64 0) 8 rfl Try.underlying22 info3 rfl (by decide) (by omega) v134 aV aH [aH] (fun _=>True) (fun _=>False) rfl rfl ?aP (fun _ hk=>hk.elim) ?aF ?aO ?aB ?aS ?aL ?_;(case aP=>exact rfl);(case aB=>exact zb);(case aF=>exact(fun _ _=>trivial));(case aO=>exact(zR aN));(case aS=>exact(below_size zb));(case aL=>have:=eF.out;omega);intro v138 hF ho hb hg hat;rw[<-Ny137.out] at ho;replace aA:=zgr aA hg (Kd.R_ne aN.out aA.out (by decide));replace HB:=zA hb;have eJ:=zA ho;clear aN;clear ho hb hg hat)))
              go_ret;exact⟨_,by first|rfl|(simp[errW_none,errW_some] <;> rfl)|(simp only[<-bR];first|rfl|(simp[errW_none,errW_some] <;> rfl))|(simp[*,errW_none,errW_some] <;> rfl),zR eJ,zb⟩
            ·rw[if_neg c40] at H;have eB:=decide_eq_false c40;clear c40;obtain rfl:=zI H
             go_wp2_with (first|((with_reducible refine gate_builtin (b:=.append) (xs:=#[.tmp 65,.tmp 68]) rfl ?_);at_builtin;refine Kd.R_append (Kd.int .i64) (w0:=w) w.heap.size rfl (.tmp 65) (.tmp 68) 22 3 (.int .i64 0) 8 rfl Try.underlying22 info3 rfl (by decide) (by omega) u5 aI (wrap64 (a1+1)) [.int .i64 (wrap64 (a1+1))] (fun _=>True) (fun _=>False) rfl rfl ?aP (fun _ hk=>hk.elim) ?aF ?aO ?aB ?aS ?aL ?_;(case aP=>exact rfl);(case aB=>exact zb);(case aF=>exact(fun _ _=>trivial));(case aO=>exact(zR aE));(case aS=>exact(below_size zb));(case aL=>have:=bZ.out;omega);intro v134 hE ho hb hg hat;rw[<-Ny133.out] at ho;replace aA:=zgr aA hg (Kd.R_ne aE.out aA.out (by decide));replace HB:=zA hb;have aN:=zA ho;clear aE;clear ho hb hg hat;obtain⟨fD,fC,fB,eO,eN,eM⟩:=ze3 aA))
             repeat (go_quiet (fail);try go_wp2_with (first|((with_reducible refine gate_builtin (b:=.append) (xs:=#[.tmp 65,.tmp 68]) rfl ?_);at_builtin;refine Kd.R_append (Kd.int .i64) (w0:=w) w.heap.size rfl (.tmp 65) (.tmp 68) 22 3 (.int .i64 0) 8 rfl Try.underlying22 info3 rfl (by decide) (by omega) u5 aI (wrap64 (a1+1)) [.int .i64 (wrap64 (a1+1))] (fun _=>True) (fun _=>False) rfl rfl ?aP (fun _ hk=>hk.elim) ?aF ?aO ?aB ?aS ?aL ?_;(case aP=>exact rfl);(case aB=>exact zb);(case aF=>exact(fun _ _=>trivial));(case aO=>exact(zR aE));(case aS=>exact(below_size zb));(case aL=>have:=bZ.out;omega);intro v134 hE ho hb hg hat;rw[<-Ny133.out] at ho;replace aA:=zgr aA hg (Kd.R_ne aE.out aA.out (by decide));replace HB:=zA hb;have aN:=zA ho;clear aE;clear ho hb hg hat;obtain⟨fD,fC,fB,eO,eN,eM⟩:=ze3 aA)))
             go_ret;exact⟨_,zE,zR aN,zb⟩
           ·replace eC:=zbq eC;subst eC;rw[if_neg zNo] at H
            by_cases c52:(wrap64 (a1+aD))<(aC.length:Int)
            ·rw[if_pos c52] at H;have eA:=decide_eq_true c52;clear c52;obtain⟨aK,bQ⟩:∃ j_:Int,(wrap64 (a1+aD))=j_:=⟨_,rfl⟩
             replace H:(if 0<=(aK) then(if (rd aC (aK))=2 then(some aI) else(if aI.length<17592186044416 then(some (aI++[aK])) else(none))) else(none))=some r:=by first|(rw[bQ] at H;exact H)|(simp only[bQ] at H ⊢;exact H)
             (try rw[bQ] at eA);have hL:(IntKind.i64.wrap (a1+aD))=aK:=(i64_w _).trans bQ;obtain⟨hQ,H⟩:=zifD H
             by_cases c55:(rd aC (aK))=2
             ·rw[if_pos c55] at H;have fU:((rd aC (aK))==2)=true:=beq_iff_eq.mpr c55;have fT:((rd aC (aK)) != 2)=false:=bne_eq_false_iff_eq.mpr c55;clear c55;obtain rfl:=zI H;obtain⟨hC,hB,hA,gT,gS,gR⟩:=ze3 aA;have gG:=zT (0<=((aK):Int));have gE:=zT ((aK)<(aC.length:Int));obtain⟨gA,dT,aX⟩:=Kd.at_int aU.out (aK) zd zd;cases dT;replace aX:=zC HB aX;go_wp2
              repeat (go_quiet (fail);try go_wp2)
              go_ret;exact⟨_,by first|rfl|(simp[errW_none,errW_some] <;> rfl)|(simp only[<-bQ];first|rfl|(simp[errW_none,errW_some] <;> rfl))|(simp[*,errW_none,errW_some] <;> rfl),zR aE,zb⟩
             ·rw[if_neg c55] at H;have fU:((rd aC (aK))==2)=false:=beq_eq_false_iff_ne.mpr c55;have fT:((rd aC (aK)) != 2)=true:=bne_iff_ne.mpr c55;obtain⟨eE,H⟩:=zifA H;obtain⟨gC,dC⟩:∃ y_:List Int,y_=(aI++[aK]):=⟨_,rfl⟩
              replace H:(some gC)=some r:=zY dC H
              have Ny141:=zA dC;clear dC;obtain rfl:=zI H;obtain⟨gZ,gY,gX,gQ,gP,gO⟩:=ze3 aA;have gG:=zT (0<=((aK):Int));have gE:=zT ((aK)<(aC.length:Int));obtain⟨gA,dT,aX⟩:=Kd.at_int aU.out (aK) zd zd;cases dT;replace aX:=zC HB aX
              go_wp2_with (first|((with_reducible refine gate_builtin (b:=.append) (xs:=#[.tmp 89,.tmp 94]) rfl ?_);at_builtin;refine Kd.R_append (Kd.int .i64) (w0:=w) w.heap.size rfl (.tmp 89) (.tmp 94) 22 3 (.int .i64 0) 8 rfl Try.underlying22 info3 rfl (by decide) (by omega) u5 aI aK [aK] (fun _=>True) (fun _=>False) rfl rfl ?aP (fun _ hk=>hk.elim) ?aF ?aO ?aB ?aS ?aL ?_;(case aP=>exact rfl);(case aB=>exact zb);(case aF=>exact(fun _ _=>trivial));(case aO=>exact(zR aE));(case aS=>exact(below_size zb));(case aL=>have:=eE.out;omega);intro v142 hD ho hb hg hat;rw[<-Ny141.out] at ho;replace aA:=zgr aA hg (Kd.R_ne aE.out aA.out (by decide));replace HB:=zA hb;have eI:=zA ho;clear aE;clear ho hb hg hat))
              repeat (go_quiet (fail);try go_wp2_with (first|((with_reducible refine gate_builtin (b:=.append) (xs:=#[.tmp 89,.tmp 94]) rfl ?_);at_builtin;refine Kd.R_append (Kd.int .i64) (w0:=w) w.heap.size rfl (.tmp 89) (.tmp 94) 22 3 (.int .i64 0) 8 rfl Try.underlying22 info3 rfl (by decide) (by omega) u5 aI aK [aK] (fun _=>True) (fun _=>False) rfl rfl ?aP (fun _ hk=>hk.elim) ?aF ?aO ?aB ?aS ?aL ?_;(case aP=>exact rfl);(case aB=>exact zb);(case aF=>exact(fun _ _=>trivial));(case aO=>exact(zR aE));(case aS=>exact(below_size zb));(case aL=>have:=eE.out;omega);intro v142 hD ho hb hg hat;rw[<-Ny141.out] at ho;replace aA:=zgr aA hg (Kd.R_ne aE.out aA.out (by decide));replace HB:=zA hb;have eI:=zA ho;clear aE;clear ho hb hg hat)))
              go_ret;exact⟨_,by first|rfl|(simp[errW_none,errW_some] <;> rfl)|(simp only[<-bQ];first|rfl|(simp[errW_none,errW_some] <;> rfl))|(simp[*,errW_none,errW_some] <;> rfl),zR eI,zb⟩
            ·rw[if_neg c52] at H;have eA:=decide_eq_false c52;clear c52;obtain rfl:=zI H;obtain⟨gW,gV,gU,gN,gM,gL⟩:=ze3 aA;go_wp2
             repeat (go_quiet (fail);try go_wp2)
             go_ret;exact⟨_,zE,zR aE,zb⟩

mutual
def X4.l0:Nat->Int->List Int->Int->Int->Int->List Int->Option (List Int)
  |0,_,_,_,_,_,_=>none
  |k+1,x1,x5,x6,x140000,x140001,x140002=>if x6<(x140002.length:Int) then(if x5.length<17592186044416 then(X4.l0 k x1 (x5++[(-1)]) (wrap64 (x6+1)) x140000 x140001 x140002) else(none)) else(if 0<=x1 then(if x1<(x5.length:Int) then(X4.l1 k (x5.set (x1:Int).toNat 0) (([x1]:List Int)) 0 x140000 x140001 x140002) else(none)) else(none))
def X4.l1:Nat->List Int->List Int->Int->Int->Int->List Int->Option (List Int)
  |0,_,_,_,_,_,_=>none
  |k+1,x5,x7,x8,x140000,x140001,x140002=>if x8<(x7.length:Int) then(if 0<=x8 then((X3.f k x140000 x140001 x140002 (rd x7 x8)).bind fun t151=>(X4.l2 k x5 x7 x8 t151 0 x140000 x140001 x140002)) else(none)) else(some x5)
def X4.l2:Nat->List Int->List Int->Int->List Int->Int->Int->Int->List Int->Option (List Int)
  |0,_,_,_,_,_,_,_,_=>none
  |k+1,x5,x7,x8,x9,x10,x140000,x140001,x140002=>if x10<(x9.length:Int) then(if 0<=x10 then(if 0<=(rd x9 x10) then(if (rd x9 x10)<(x5.length:Int) then(if (rd x5 (rd x9 x10))<0 then(if 0<=x8 then(if x8<(x7.length:Int) then(if 0<=(rd x7 x8) then(if (rd x7 x8)<(x5.length:Int) then(if x7.length<17592186044416 then(X4.l2 k (x5.set ((rd x9 x10):Int).toNat (wrap64 ((rd x5 (rd x7 x8))+1))) (x7++[rd x9 x10]) x8 x9 (wrap64 (x10+1)) x140000 x140001 x140002) else(none)) else(none)) else(none)) else(none)) else(none)) else(X4.l2 k x5 x7 x8 x9 (wrap64 (x10+1)) x140000 x140001 x140002)) else(none)) else(none)) else(none)) else(X4.l1 k x5 x7 (wrap64 (x8+1)) x140000 x140001 x140002)
end
def X4.f (k:Nat) (a0_0:Int) (a0_1:Int) (l0_2:List Int) (a1:Int):Option (List Int):=X4.l0 k a1 (([]:List Int)) 0 a0_0 a0_1 l0_2
def X4.T16:Bool × List (List Nat × List Nat):=(true,[([],[]),([],[]),([],[]),([1,2],[1,2]),([3],[3]),([],[]),([],[]),([],[]),([6,7],[6,7]),([8],[8]),([5,9],[5,9]),([10],[10]),([11],[11]),([0,4,0,1,2,3,4,5,6,7,8,9,10,11,12],[0,4]),([13,12,0,1,2,3,4,5,6,7,8,9,10,11,12],[12,13])])
def X4.B16:List Nat:=[0,0,0,6,14,0,0,0,192,448,992,2016,4064,8191,16383]
theorem X4.tab16:rtab .any (opsOf Try.f126 16)=X4.T16:=by kernel_rfl
theorem X4.bits16:waitsOk X4.T16.2 X4.B16=true:=by kernel_rfl
theorem X4.calls (k:Nat) (aK:Int) (aJ:Int) (aZ:Option Addr) (aY:Nat) (aH:List Int) (a1:Int) (r:List Int) (w:World) (bO:Kd.C (Kd.int .i64) w aZ aH.length aH) (bP:aH.length<=aY) (h:X4.f k aK aJ aH a1=some r) :
  Calls Try.prog 126 #[.agg #[aK,aJ,.slice aZ aH.length aY],a1] w fun e w'=>∃ v0_:Value,e=.returned (v0_)/\Kd.R (Kd.int .i64) 3 w' w.heap.size (fun _=>True) v0_ r/\Below w.heap.size w w':=by
 have hu36:=Try.underlying37
 have HR0_2:=zA bO
 have HC0_2:=zA bP
 clear bO bP
 have HB:=zA (Below.refl w.heap.size w)
 have H:(X4.l0 k a1 (([]:List Int)) 0 aK aJ aH)=some r:=h
 clear h
 obtain⟨y140,hy140⟩:∃ y_:List Int,y_=(([]:List Int)):=⟨_,rfl⟩
 replace H:(X4.l0 k a1 y140 0 aK aJ aH)=some r:=zY hy140 H
 have Ny140:=zA hy140
 clear hy140
 have H':=zA H
 clear H
 go_enter Try.func126,Try.ntmps126
 go_wp2_with (first|((with_reducible refine zgd 2 rfl ?_);refine box_event ?hg (N:=2) ?hd (cs:=#[aK,aJ,.slice aZ aH.length aY]) (t:=37) ?hr ?_;(case hd=>rfl);(case hg=>rfl);(case hr=>first|(go_simp;done)|(go_simp;rfl));intro aQ hg w3 b' hb;have aW:=zA (below_step zb hb);have aV:=zA b';have aU:=zA ((by rw[hg];exact(below_size zb):w.heap.size<=aQ));have bB:=zA ((by rw[hg];exact(below_size zb):w.heap.size<=aQ));clear HB;have HB:=aW;have aA:=aV;have bZ:=aU;have aT:=bB;clear aW aV aU bB;clear hb b' hg)|((with_reducible refine zgd 11 rfl ?_);refine Kd.R_lit (Kd.int .i64) _ 3 ?hg (N:=11) ?hd (xs:=([]:List Int)) (inner:=[]) (ok:=fun _=>True) (okp:=fun _=>True) ?hr ?hp (fun _ hk=>hk) trivial (Below.refl _ _) (Nat.le_refl _) (by simp) ?_;(case hd=>rfl);(case hg=>rfl);(case hr=>first|(go_simp;done)|(go_simp;rfl));(case hp=>exact(Reps.none _ _));intro v141 w4 ho5 hb hg_ hnew_;clear hg_ hnew_;(first|rw[<-Ny140.out] at ho5|(simp only[Int.reduceToNat] at ho5;rw[<-Ny140.out] at ho5));have aW:=zA (Kd.R_lower ho5 (below_size zb));have aV:=zA (blk_below (g:=aQ) (o:=.cells #[aK,aJ,.slice aZ aH.length aY] 37 (0,0)) (by(with_reducible repeat (first|refine blk_drewN ?_ _|refine blk_drew ?_|refine blk_alloc ?_ _));exact aA.out) hb);have aU:=zA (below_step zb hb);clear aA;clear HB;have bY:=aW;have aA:=aV;have HB:=aU;clear aW aV aU;clear hb ho5))
 go_loopg [5,6] k (fun kq v5 v6 w'=>∃ (bA:List Int) (bF:Int),v6=.int .i64 bF/\Aside0 (X4.l0 kq a1 bA bF aK aJ aH=some r)/\Aside0 (kq<=k)/\Aside0 (Kd.R (Kd.int .i64) 3 w' w.heap.size (fun _=>True) v5 bA)/\Aside0 (w'.heap[aQ]?=some (.cells #[aK,aJ,(.slice aZ aH.length aY)] 37 (0,0)))/\Aside0 (Below w.heap.size w w'))
 case atStart=>exact⟨(y140),(0),(by first|rfl|(simp;done)|(simp[*];done)),H',⟨Nat.le_refl _⟩,⟨zR bY⟩,⟨zkf aA⟩,⟨zb⟩⟩
 case round =>
  clear H'
  try clear p2
  obtain⟨bA,bF,rfl,HA,HK1,aD,aA,HB⟩:=hrel
  cases gk with
  |zero=>exact absurd HA.out (by simp[X4.l0])
  |succ k1 =>
   have H:=HA.out
   clear HA
   simp only[X4.l0] at H
   by_cases c6:bF<(aH.length:Int)
   ·rw[if_pos c6] at H
    have bN:decide (bF<(aH.length:Int))=true:=decide_eq_true c6
    clear c6
    by_cases c7:bA.length<17592186044416
    ·rw[if_pos c7] at H
     have LMc7:=zA c7
     clear c7
     obtain⟨y143,hy143⟩:∃ y_:List Int,y_=(bA++[(-1)]):=⟨_,rfl⟩
     replace H:(X4.l0 k1 a1 y143 (wrap64 (bF+1)) aK aJ aH)=some r:=zY hy143 H
     have Ny143:=zA hy143
     clear hy143
     have H':=zA H
     clear H
     have hcz8_0:wr.cell? ⟨aQ,0,none⟩=some (.int .i64 aK):=(blk_cell aA.out 0).trans rfl
     have hcz8_1:wr.cell? ⟨aQ,1,none⟩=some (.int .i64 aJ):=(blk_cell aA.out 1).trans rfl
     have hcz8_2:wr.cell? ⟨aQ,2,none⟩=some (.slice aZ aH.length aY):=(blk_cell aA.out 2).trans rfl
     have hfz8_0:=blk_frozen aA.out 0
     have hfz8_1:=blk_frozen aA.out 1
     have hfz8_2:=blk_frozen aA.out 2
     go_wp2_with (first|((with_reducible refine gate_builtin (b:=.append) (xs:=#[.tmp 19,.tmp 20]) rfl ?_);at_builtin;refine Kd.R_append (Kd.int .i64) (w0:=w) w.heap.size rfl (.tmp 19) (.tmp 20) 22 3 (.int .i64 0) 8 rfl Try.underlying22 info3 rfl (by decide) (by omega) u5 bA (-1) [.int .i64 (-1)] (fun _=>True) (fun _=>False) rfl rfl ?aP (fun _ hk=>hk.elim) ?aF ?aO ?aB ?aS ?aL ?_;(case aP=>exact rfl);(case aB=>exact(zb));(case aF=>exact(fun _ _=>trivial));(case aO=>exact(zR aD));(case aS=>exact(below_size zb));(case aL=>have:=LMc7.out;omega);intro v144 w9 ho hb hg hat;rw[<-Ny143.out] at ho;have aW:=zA (blk_grown (g:=aQ) (o:=.cells #[aK,aJ,.slice aZ aH.length aY] 37 (0,0)) (by(with_reducible repeat (first|refine blk_drewN ?_ _|refine blk_drew ?_|refine blk_alloc ?_ _));exact aA.out) hg (Kd.R_ne aD.out aA.out (by decide)));have aV:=zA hb;have aU:=zA ho;clear aA;clear HB;clear aD;have aA:=aW;have HB:=aV;have bX:=aU;clear aW aV aU;clear ho hb hg hat))
     go_roundg k1
     case measure=>have:=HK1.out;omega
     case rel=>exact⟨(y143),(wrap64 (bF+1)),(by first|rfl|(simp;done)|(simp[*];done)),H',⟨by have:=HK1.out;omega⟩,⟨zR bX⟩,⟨zkf aA⟩,⟨zb⟩⟩
    ·rw[if_neg c7] at H
     exact absurd H (by simp)
   ·rw[if_neg c6] at H
    have bN:decide (bF<(aH.length:Int))=false:=decide_eq_false c6
    clear c6
    by_cases c10:0<=a1
    ·rw[if_pos c10] at H
     have c10b0:decide (0<=a1)=true:=decide_eq_true c10
     clear c10
     by_cases c11:a1<(bA.length:Int)
     ·rw[if_pos c11] at H
      have c11b0:decide (a1<(bA.length:Int))=true:=decide_eq_true c11
      clear c11
      obtain⟨bL,hy146⟩:∃ y_:List Int,y_=(bA.set (a1:Int).toNat 0):=⟨_,rfl⟩
      replace H:(X4.l1 k1 bL (([a1]:List Int)) 0 aK aJ aH)=some r:=zY hy146 H
      have Ny146:=zA hy146
      clear hy146
      obtain⟨y147,hy147⟩:∃ y_:List Int,y_=(([a1]:List Int)):=⟨_,rfl⟩
      replace H:(X4.l1 k1 bL y147 0 aK aJ aH)=some r:=zY hy147 H
      have Ny147:=zA hy147
      clear hy147
      have H':=zA H
      clear H
      have hcz13_0:wr.cell? ⟨aQ,0,none⟩=some (.int .i64 aK):=(blk_cell aA.out 0).trans rfl
      have hcz13_1:wr.cell? ⟨aQ,1,none⟩=some (.int .i64 aJ):=(blk_cell aA.out 1).trans rfl
      have hcz13_2:wr.cell? ⟨aQ,2,none⟩=some (.slice aZ aH.length aY):=(blk_cell aA.out 2).trans rfl
      have hfz13_0:=blk_frozen aA.out 0
      have hfz13_1:=blk_frozen aA.out 1
      have hfz13_2:=blk_frozen aA.out 2
      have p12:0<=(a1:Int):=of_decide_eq_true (by first|(with_reducible assumption)|assumption)
      have q12:(a1:Int)<((bA.length:Int):Int):=of_decide_eq_true (by first|(with_reducible assumption)|assumption)
      obtain⟨go12,bH,eo12,gb12,gl12,cl12,HG12⟩:=Kd.R_form aD.out (by omega)
      (first|cases eo12|(injection eo12 with ea_ en_ ec_;(first|subst ea_|(injection ea_ with ea_;subst ea_));subst ec_;clear en_))
      have GB12:=zA gb12
      have GG12:=zA HG12
      clear gb12 gl12 HG12
      obtain⟨hx12_0,hf12_0⟩:=Kd.R_celln 0 aD.out (a1:Int) p12 q12
      replace p12:=eq_true p12
      replace q12:=eq_true q12
      have HP14:=Kd.R_putg aD.out (a1:Int) 0
      go_wp2_with (first|((with_reducible refine gate_store (t:=3) (p:=24) rfl ?_);refine store_event (t:=3) (p:=24) (v:=?vo_w15) (w1:=(wr.setCell ⟨go12,(a1:Int).toNat,none⟩ (.int .i64 0))) ?hg ?ho ?hn ?hr ?_;(case ho=>rfl);(case hg=>rfl);(case hn=>rfl);(case hr=>first|(go_simp;done)|(go_simp;rfl));intro bR hw;have hg:wr.grownBy bR (some go12):=(by rw[hw];exact HP14.2);have hp_:Kd.R (Kd.int .i64) 3 bR w.heap.size (fun _=>True) (.slice (some ⟨go12,0,none⟩) bA.length bH) bL:=(by rw[hw,Ny146.out];exact HP14.1);clear HP14;have aW:=zA hp_;have aV:=zA (blk_grown (g:=aQ) (o:=.cells #[aK,aJ,.slice aZ aH.length aY] 37 (0,0)) (by(with_reducible repeat (first|refine blk_drewN ?_ _|refine blk_drew ?_|refine blk_alloc ?_ _));exact aA.out) hg (Kd.R_ne aD.out aA.out (by decide)));have aU:=zA ((by rw[hw];exact below_set (HB.out) GB12.out:Below w.heap.size w bR));clear aD;clear aA;clear HB;have aD:=aW;have aA:=aV;have HB:=aU;clear aW aV aU;clear hg hw hp_)|((with_reducible refine zgd 26 rfl ?_);refine Kd.R_lit (Kd.int .i64) _ 3 ?hg (N:=26) ?hd (xs:=([a1]:List Int)) (inner:=[a1]) (ok:=fun _=>True) (okp:=fun _=>True) ?hr ?hp (fun _ hk=>hk) trivial (Below.refl _ _) (Nat.le_refl _) (by simp) ?_;(case hd=>rfl);(case hg=>rfl);(case hr=>first|(go_simp;done)|(go_simp;rfl));(case hp=>exact(Reps.one (show Kd.M (Kd.int .i64) _ _ _ a1 [a1] from rfl) (Reps.none _ _)));intro v148 cE ho17 hb hg_ hnew_;clear hg_ hnew_;(first|rw[<-Ny147.out] at ho17|(simp only[Int.reduceToNat] at ho17;rw[<-Ny147.out] at ho17));have aW:=zA (Kd.R_elder' (zR aD) (Kd.R_base ho17) hb);have aV:=zA (Kd.R_lower (Kd.R_new' ho17 (Kd.R_lt (zR aD))) (below_size zb));have aU:=zA (blk_below (g:=aQ) (o:=.cells #[aK,aJ,.slice aZ aH.length aY] 37 (0,0)) (by(with_reducible repeat (first|refine blk_drewN ?_ _|refine blk_drew ?_|refine blk_alloc ?_ _));exact aA.out) hb);have bB:=zA (below_step zb hb);clear aD;clear aA;clear HB;have aD:=aW;have bW:=aV;have aA:=aU;have HB:=bB;clear aW aV aU bB;clear hb ho17))
      go_loopg [7,8] k1 (fun kq v7 v8 w'=>∃ (bG:List Int) (bC:List Int) (aE:Int),v8=.int .i64 aE/\Aside0 (X4.l1 kq bG bC aE aK aJ aH=some r)/\Aside0 (kq<=k1)/\Aside0 (Kd.R (Kd.int .i64) 3 w' w.heap.size (fun k_=>some k_≠(v7:Value).ownBlock) (.slice (some ⟨go12,0,none⟩) bA.length bH) bG)/\Aside0 (Kd.R (Kd.int .i64) 3 w' w.heap.size (fun k_=>some k_≠((.slice (some ⟨go12,0,none⟩) bA.length bH):Value).ownBlock) v7 bC)/\Aside0 (w'.heap[aQ]?=some (.cells #[aK,aJ,(.slice aZ aH.length aY)] 37 (0,0)))/\Aside0 (Below w.heap.size w w'))
      case atStart=>exact⟨(bL),(y147),(0),(by first|rfl|(simp;done)|(simp[*];done)),H',⟨Nat.le_refl _⟩,⟨zWm aD⟩,⟨zWm bW⟩,⟨zkf aA⟩,⟨zb⟩⟩
      case round =>
       clear H'
       try clear c1
       try clear p1
       try clear q1
       try clear hx1
       try clear p2
       try clear c6
       try clear bN
       try clear p6
       try clear c7
       try clear c10
       try clear c10b0
       try clear c11
       try clear c11b0
       try clear p12
       try clear q12
       try clear hx12
       try clear hf12
       try clear hcz13_0
       try clear hcz13_1
       try clear hcz13_2
       try clear hcz8_0
       try clear hcz8_1
       try clear hcz8_2
       try clear hfz13_0
       try clear hfz13_1
       try clear hfz13_2
       try clear hfz8_0
       try clear hfz8_1
       try clear hfz8_2
       try clear hx12_0
       try clear p12
       try clear p2
       try clear q12
       obtain⟨bG,bC,aE,rfl,HA,HK2,aD,aN,aA,HB⟩:=hrel
       have hl5_2:=(Kd.R_reads' aD.out).1
       rw[hl5_2] at aD
       (try simp only[hl5_2])
       (try simp only[hl5_2] at aA)
       (try simp only[hl5_2] at aN)
       cases gk with
       |zero=>exact absurd HA.out (by simp[X4.l1])
       |succ k2 =>
        have H:=HA.out
        clear HA
        simp only[X4.l1] at H
        by_cases c18:aE<(bC.length:Int)
        ·rw[if_pos c18] at H
         have bQ:decide (aE<(bC.length:Int))=true:=decide_eq_true c18
         clear c18
         by_cases c19:0<=aE
         ·rw[if_pos c19] at H
          have c19b0:decide (0<=aE)=true:=decide_eq_true c19
          clear c19
          replace H:=Option.bind_eq_some_iff.mp H
          obtain⟨aG,A200,H⟩:=H
          replace H:(X4.l2 k2 bG bC aE aG 0 aK aJ aH)=some r:=H
          have A20:=zA A200
          clear A200
          have H':=zA H
          clear H
          obtain⟨Ao21,co21,eo21⟩:=Kd.R_slice aN.out
          subst eo21
          try go_wp2
          have aW:=zA (Kd.R_drew aD.out)
          have aV:=zA (Kd.R_drew aN.out)
          have aU:=zA (blk_drew aA.out)
          have bB:=zA (below_drew1 HB.out)
          clear aD
          clear aN
          clear aA
          clear HB
          have aD:=aW
          have aN:=aV
          have aA:=aU
          have HB:=bB
          clear aW aV aU bB
          have p150:0<=(aE:Int):=of_decide_eq_true (by first|(with_reducible assumption)|assumption)
          have q150:aE<(bC.length:Int):=of_decide_eq_true (by first|(with_reducible assumption)|assumption)
          obtain⟨ad150,e150,hx150_0⟩:=Kd.at_int (Kd.R_reads' aN.out).2.2 aE p150 q150
          cases e150
          replace p150:=eq_true p150
          replace q150:=eq_true q150
          refine start_ (n:=7) (S:=fun w'=>w'.cell? ⟨aQ,0,none⟩=some (.int .i64 aK)/\w'.cell? ⟨aQ,1,none⟩=some (.int .i64 aJ)/\w'.cell? ⟨aQ,2,none⟩=some (.slice aZ aH.length aY)/\w'.cell? (ad150.add (aE).toNat)=some (.int .i64 (rd bC aE))) (ds:=[]) #[false,false,false,false,false,false,false] (by kernel_rfl) rfl rfl ⟨(blk_cell aA.out 0).trans rfl,(blk_cell aA.out 1).trans rfl,(blk_cell aA.out 2).trans rfl,hx150_0⟩ (fun h'=>?_)
          generalize wr.drew=cD at aD aN aA HB hx150_0 h' ⊢
          refine pure_ (i:=1) (N:=some 34) (v:=?_) (a':=?_) #[false,true,false,false,false,false,false] rfl rfl (by kernel_rfl) (fun _ _ _ h=>h) (Or.inl ⟨by rfl,?_⟩) ?_ ?_
          rotate_left
          ·intro w'
           go_simp
           with_reducible rfl
          rotate_left
          ·simp only[Act.put,z1,z2,z3,i64_w,i32_w]
           rfl
          refine pure_ (i:=2) (N:=some 35) (v:=?_) (a':=?_) #[false,true,true,false,false,false,false] rfl rfl (by kernel_rfl) (fun _ _ _ h=>h) (Or.inl ⟨by rfl,?_⟩) ?_ ?_
          rotate_left
          ·intro w'
           go_simp
           with_reducible rfl
          rotate_left
          ·simp only[Act.put,z1,z2,z3,i64_w,i32_w]
           rfl
          refine pure_ (i:=3) (N:=some 36) (v:=?_) (a':=?_) #[false,true,true,true,false,false,false] rfl rfl (by kernel_rfl) (fun _ _ _ h=>h) (Or.inl ⟨by rfl,?_⟩) ?_ ?_
          rotate_left
          ·intro w'
           go_simp
           with_reducible rfl
          rotate_left
          ·simp only[Act.put,z1,z2,z3,i64_w,i32_w]
           rfl
          refine take_ (i:=0) (N:=some 33) (v:=?_) (a':=?_) #[true,true,true,true,false,false,false] rfl rfl (by kernel_rfl) (fun _ _ _ h=>h) (Or.inl ⟨by rfl,?_⟩) h' ?_ ?_
          rotate_left
          ·rintro w' ⟨s0,s1,s2,s3⟩
           go_simp
           with_reducible rfl
          rotate_left
          ·simp only[Act.put,z1,z2,z3,i64_w,i32_w]
           rfl
          refine take_ (i:=4) (N:=some 37) (v:=?_) (a':=?_) #[true,true,true,true,true,false,false] rfl rfl (by kernel_rfl) (fun _ _ _ h=>h) (Or.inl ⟨by rfl,?_⟩) h' ?_ ?_
          rotate_left
          ·rintro w' ⟨s0,s1,s2,s3⟩
           go_simp
           with_reducible rfl
          rotate_left
          ·simp only[Act.put,z1,z2,z3,i64_w,i32_w]
           rfl
          refine one_ (i:=5) (N:=some 38) #[true,true,true,true,true,true,false] rfl rfl (by kernel_rfl) (by decide) (fun K hK=>?_)
          refine goes_ Try.func105 (by kernel_rfl) rfl #[.agg #[aK,aJ,.slice aZ aH.length aY],.int .i64 (rd bC aE)] (by rfl) rfl rfl (by(try simp only[List.map_toArray,List.map_cons,List.map_nil]);first|done|rfl|(simp only[List.length_drop,List.length_take];rfl)) ?_
          refine(X3.calls k2 aK aJ _ _ aH (rd bC aE) aG _ ?s1 ?s2 A20.out).mono ?_
          (case s1=>repeat (first|exact(Kd.C_below HR0_2.out HB.out)|(with_reducible refine Kd.C_alloc ?_ _)|(with_reducible refine Kd.C_drewN ?_ _)|(with_reducible refine Kd.C_drew ?_)))
          (case s2=>exact HC0_2.out)
          rintro e cC ⟨v152,rfl,ho0,hb⟩
          have HS3_:=(hb.cell (World.block_lt_of_cell? _ _ (h'.2.2.2))).trans (h'.2.2.2)
          refine⟨_,rfl,?_⟩
          have aW:=zA (Kd.R_elder' (zR aD) (Kd.R_base ho0) hb)
          have aV:=zA (Kd.R_elder' (zR aN) (Kd.R_base ho0) hb)
          have aU:=zA (Kd.R_lower (Kd.R_new' (Kd.R_new' ho0 (Kd.R_lt (zR aD))) (Kd.R_lt (zR aN))) (below_size zb))
          have bB:=zA (blk_below (g:=aQ) (o:=.cells #[aK,aJ,.slice aZ aH.length aY] 37 (0,0)) (by(with_reducible repeat (first|refine blk_drewN ?_ _|refine blk_drew ?_|refine blk_alloc ?_ _));exact aA.out) hb)
          have bI:=zA (below_step zb hb)
          clear aD
          clear aN
          clear aA
          clear HB
          have aD:=aW
          have aN:=aV
          have HO153:=aU
          have aA:=bB
          have HB:=bI
          clear aW aV aU bB bI
          (try clear hb)
          (try clear hb2)
          (try clear hk)
          (try clear hi)
          (try clear ho0)
          refine hK.out _ _ ⟨(blk_cell aA.out 0).trans rfl,(blk_cell aA.out 1).trans rfl,(blk_cell aA.out 2).trans rfl,HS3_⟩ (fun h'=>?_)
          clear hK K
          refine norm_ (a':=?_) ?_ ?_
          rotate_left
          ·show Act.put _ (some 38) _=_
           simp only[Act.put,z1,z2,z3,i64_w,i32_w]
           rfl
          refine pure_ (i:=6) (N:=some 9) (v:=?_) (a':=?_) #[true,true,true,true,true,true,true] rfl rfl (by kernel_rfl) (fun _ _ _ h=>h) (Or.inl ⟨by rfl,?_⟩) ?_ ?_
          rotate_left
          ·intro w'
           go_simp
           with_reducible rfl
          rotate_left
          ·simp only[Act.put,z1,z2,z3,i64_w,i32_w]
           rfl
          refine done_ (by kernel_rfl) ?_
          try go_wp2
          go_loopg [7,10] k2 (fun kq v7 v10 w'=>∃ (aM:List Int) (aI:List Int) (aC:Int),v10=.int .i64 aC/\Aside0 (X4.l2 kq aM aI aE aG aC aK aJ aH=some r)/\Aside0 (kq<=k2)/\Aside0 (Kd.R (Kd.int .i64) 3 w' w.heap.size (fun k_=>some k_≠(v7:Value).ownBlock/\some k_≠(v152:Value).ownBlock) (.slice (some ⟨go12,0,none⟩) bG.length bH) aM)/\Aside0 (Kd.R (Kd.int .i64) 3 w' w.heap.size (fun k_=>some k_≠((.slice (some ⟨go12,0,none⟩) bG.length bH):Value).ownBlock/\some k_≠(v152:Value).ownBlock) v7 aI)/\Aside0 (Kd.R (Kd.int .i64) 3 w' w.heap.size (fun k_=>some k_≠((.slice (some ⟨go12,0,none⟩) bG.length bH):Value).ownBlock/\some k_≠(v7:Value).ownBlock) v152 aG)/\Aside0 (w'.heap[aQ]?=some (.cells #[aK,aJ,(.slice aZ aH.length aY)] 37 (0,0)))/\Aside0 (Below w.heap.size w w'))
          case atStart=>exact⟨(bG),(bC),(0),(by first|rfl|(simp;done)|(simp[*];done)),H',⟨Nat.le_refl _⟩,⟨by(try simp only[hl5_2]);(with_reducible repeat (first|apply Kd.R_alloc|apply Kd.R_drewN|apply Kd.R_drew));exact aD.out⟩,⟨by(try simp only[hl5_2]);(with_reducible repeat (first|apply Kd.R_alloc|apply Kd.R_drewN|apply Kd.R_drew));exact aN.out⟩,⟨by(try simp only[hl5_2]);(with_reducible repeat (first|apply Kd.R_alloc|apply Kd.R_drewN|apply Kd.R_drew));exact Kd.R_mono HO153.out (fun _ hk=>⟨hk.1.2,hk.2⟩)⟩,⟨by(try simp only[hl5_2]);(with_reducible repeat (first|refine blk_drewN ?_ _|refine blk_drew ?_|refine blk_alloc ?_ _));exact aA.out⟩,⟨zb⟩⟩
          case round =>
           clear H'
           try clear c1
           try clear p1
           try clear q1
           try clear hx1
           try clear p2
           try clear c6
           try clear bN
           try clear p6
           try clear c7
           try clear c10
           try clear c10b0
           try clear c11
           try clear c11b0
           try clear p12
           try clear q12
           try clear hx12
           try clear hf12
           try clear p15
           try clear q15
           try clear hx15
           try clear c18
           try clear bQ
           try clear c19
           try clear c19b0
           try clear hcz13_0
           try clear hcz13_1
           try clear hcz13_2
           try clear hcz8_0
           try clear hcz8_1
           try clear hcz8_2
           try clear hfz13_0
           try clear hfz13_1
           try clear hfz13_2
           try clear hfz8_0
           try clear hfz8_1
           try clear hfz8_2
           try clear hx12_0
           try clear hx150_0
           try clear p1
           try clear p12
           try clear p150
           try clear p2
           try clear p6
           try clear q1
           try clear q12
           try clear q150
           obtain⟨aM,aI,aC,rfl,HA,HK3,aD,aN,aX,aA,HB⟩:=hrel
           have hl5_3:=(Kd.R_reads' aD.out).1
           rw[hl5_3] at aD
           (try simp only[hl5_3])
           (try simp only[hl5_3] at aA)
           (try simp only[hl5_3] at aN)
           (try simp only[hl5_3] at aX)
           cases gk with
           |zero=>exact absurd HA.out (by simp[X4.l2])
           |succ k3 =>
            have H:=HA.out
            clear HA
            simp only[X4.l2] at H
            by_cases c24:aC<(aG.length:Int)
            ·rw[if_pos c24] at H
             have bU:decide (aC<(aG.length:Int))=true:=decide_eq_true c24
             clear c24
             by_cases c25:0<=aC
             ·rw[if_pos c25] at H
              have c25b0:decide (0<=aC)=true:=decide_eq_true c25
              clear c25
              by_cases c26:0<=(rd aG aC)
              ·rw[if_pos c26] at H
               have c26b0:decide (0<=(rd aG aC))=true:=decide_eq_true c26
               clear c26
               by_cases c27:(rd aG aC)<(aM.length:Int)
               ·rw[if_pos c27] at H
                have c27b0:decide ((rd aG aC)<(aM.length:Int))=true:=decide_eq_true c27
                clear c27
                by_cases c28:(rd aM (rd aG aC))<0
                ·rw[if_pos c28] at H
                 have bT:decide ((rd aM (rd aG aC))<0)=true:=decide_eq_true c28
                 clear c28
                 by_cases c29:0<=aE
                 ·rw[if_pos c29] at H
                  have c29b0:decide (0<=aE)=true:=decide_eq_true c29
                  clear c29
                  by_cases c30:aE<(aI.length:Int)
                  ·rw[if_pos c30] at H
                   have c30b0:decide (aE<(aI.length:Int))=true:=decide_eq_true c30
                   clear c30
                   by_cases c31:0<=(rd aI aE)
                   ·rw[if_pos c31] at H
                    have c31b0:decide (0<=(rd aI aE))=true:=decide_eq_true c31
                    clear c31
                    by_cases c32:(rd aI aE)<(aM.length:Int)
                    ·rw[if_pos c32] at H
                     have c32b0:decide ((rd aI aE)<(aM.length:Int))=true:=decide_eq_true c32
                     clear c32
                     obtain⟨y159,hy159⟩:∃ y_:List Int,y_=(aM.set ((rd aG aC):Int).toNat (wrap64 ((rd aM (rd aI aE))+1))):=⟨_,rfl⟩
                     replace H:(if aI.length<17592186044416 then(X4.l2 k3 y159 (aI++[rd aG aC]) aE aG (wrap64 (aC+1)) aK aJ aH) else(none))=some r:=zY hy159 H
                     have Ny159:=zA hy159
                     clear hy159
                     by_cases c34:aI.length<17592186044416
                     ·rw[if_pos c34] at H
                      have LMc34:=zA c34
                      clear c34
                      obtain⟨y160,hy160⟩:∃ y_:List Int,y_=(aI++[rd aG aC]):=⟨_,rfl⟩
                      replace H:(X4.l2 k3 y159 y160 aE aG (wrap64 (aC+1)) aK aJ aH)=some r:=zY hy160 H
                      have Ny160:=zA hy160
                      clear hy160
                      have H':=zA H
                      clear H
                      obtain⟨Ao35,co35,eo35⟩:=Kd.R_slice aX.out
                      subst eo35
                      have p154:0<=(aC:Int):=of_decide_eq_true (by first|(with_reducible assumption)|assumption)
                      have q154:aC<(aG.length:Int):=of_decide_eq_true (by first|(with_reducible assumption)|assumption)
                      obtain⟨ad154,e154,hx154_0⟩:=Kd.at_int (Kd.R_reads' aX.out).2.2 aC p154 q154
                      cases e154
                      replace p154:=eq_true p154
                      replace q154:=eq_true q154
                      have p155:0<=((rd aG aC):Int):=of_decide_eq_true (by first|(with_reducible assumption)|assumption)
                      have q155:(rd aG aC)<(aM.length:Int):=of_decide_eq_true (by first|(with_reducible assumption)|assumption)
                      obtain⟨ad155,e155,hx155_0⟩:=Kd.at_int (Kd.R_reads' aD.out).2.2 (rd aG aC) p155 q155
                      obtain rfl:(⟨go12,0,none⟩:Addr)=ad155:=(by injection e155)
                      (first|simp only[add_plain] at hx155_0|simp only[add_at] at hx155_0|simp only[Addr.add,Nat.zero_add] at hx155_0|skip)
                      replace p155:=eq_true p155
                      replace q155:=eq_true q155
                      try go_wp2
                      have aW:=zA (Kd.R_drew aD.out)
                      have aV:=zA (Kd.R_drew aN.out)
                      have aU:=zA (Kd.R_drew aX.out)
                      have bB:=zA (blk_drew aA.out)
                      have bI:=zA (below_drew1 HB.out)
                      clear aD
                      clear aN
                      clear aX
                      clear aA
                      clear HB
                      have aD:=aW
                      have aN:=aV
                      have aX:=aU
                      have aA:=bB
                      have HB:=bI
                      clear aW aV aU bB bI
                      have p156:0<=(aC:Int):=of_decide_eq_true (by first|(with_reducible assumption)|assumption)
                      have q156:aC<(aG.length:Int):=of_decide_eq_true (by first|(with_reducible assumption)|assumption)
                      obtain⟨ad156,e156,bK⟩:=Kd.at_int (Kd.R_reads' aX.out).2.2 aC p156 q156
                      obtain rfl:ad154=ad156:=(by injection e156)
                      replace p156:=eq_true p156
                      replace q156:=eq_true q156
                      obtain⟨Ao37,co37,eo37⟩:=Kd.R_slice aN.out
                      (first|subst eo37|(injection eo37 with f1_ f2_ f3_;have f4_:=f1_.symm;have f5_:=f3_.symm;clear f1_ f2_ f3_;subst f4_;subst f5_))
                      have bM:0<=(aE:Int):=of_decide_eq_true (by first|(with_reducible assumption)|assumption)
                      have q157:aE<(aI.length:Int):=of_decide_eq_true (by first|(with_reducible assumption)|assumption)
                      obtain⟨ad157,e157,bJ⟩:=Kd.at_int (Kd.R_reads' aN.out).2.2 aE bM q157
                      cases e157
                      replace bM:=eq_true bM
                      replace q157:=eq_true q157
                      have p158:0<=((rd aI aE):Int):=of_decide_eq_true (by first|(with_reducible assumption)|assumption)
                      have q158:(rd aI aE)<(aM.length:Int):=of_decide_eq_true (by first|(with_reducible assumption)|assumption)
                      obtain⟨ad158,e158,bE⟩:=Kd.at_int (Kd.R_reads' aD.out).2.2 (rd aI aE) p158 q158
                      obtain rfl:(⟨go12,0,none⟩:Addr)=ad158:=(by injection e158)
                      (first|simp only[add_plain] at bE|simp only[add_at] at bE|simp only[Addr.add,Nat.zero_add] at bE|skip)
                      replace p158:=eq_true p158
                      replace q158:=eq_true q158
                      have p33:0<=((rd aG aC):Int):=of_decide_eq_true (by first|(with_reducible assumption)|assumption)
                      have q33:((rd aG aC):Int)<((aM.length:Int):Int):=of_decide_eq_true (by first|(with_reducible assumption)|assumption)
                      obtain⟨bS,hf33_0⟩:=Kd.R_celln 0 aD.out ((rd aG aC):Int) p33 q33
                      replace p33:=eq_true p33
                      replace q33:=eq_true q33
                      have HP38:=Kd.R_putn aD.out ((rd aG aC):Int) (wrap64 ((rd aM (rd aI aE))+1))
                      rw[<-Ny159.out] at HP38
                      have HQ38:=zA HP38
                      clear HP38
                      refine start_ (n:=15) (S:=fun w'=>w'.cell? (ad154.add (aC).toNat)=some (.int .i64 (rd aG aC))/\w'.cell? (ad157.add (aE).toNat)=some (.int .i64 (rd aI aE))/\w'.cell? ⟨go12,((rd aI aE)).toNat,none⟩=some (.int .i64 (rd aM (rd aI aE)))) (ds:=[14]) #[false,false,false,false,false,false,false,false,false,false,false,false,false,false,false] (by kernel_rfl) rfl rfl ⟨bK,bJ,bE⟩ (fun h'=>?_);refine with_tabW X4.tab16 X4.bits16 (fun T_ W_=>?_)
                      generalize wr.drew=cB at aD aN aX aA HB HQ38 hf33_0 bK bJ bE bS h' ⊢
                      refine pure_ (i:=0) (N:=some 53) (v:=?_) (a':=?_) #[true,false,false,false,false,false,false,false,false,false,false,false,false,false,false] rfl rfl (any_of T_.out (by kernel_rfl)) (fun _ _ _ h=>h) (Or.inl ⟨by rfl,?_⟩) ?_ ?_
                      rotate_left
                      ·intro w'
                       go_simp
                       with_reducible rfl
                      rotate_left
                      ·simp only[Act.put,z1,z2,z3,i64_w,i32_w]
                       rfl
                      refine pure_ (i:=1) (N:=some 54) (v:=?_) (a':=?_) #[true,true,false,false,false,false,false,false,false,false,false,false,false,false,false] rfl rfl (any_of T_.out (by kernel_rfl)) (fun _ _ _ h=>h) (Or.inl ⟨by rfl,?_⟩) ?_ ?_
                      rotate_left
                      ·intro w'
                       go_simp
                       with_reducible rfl
                      rotate_left
                      ·simp only[Act.put,z1,z2,z3,i64_w,i32_w]
                       rfl
                      refine pure_ (i:=2) (N:=some 55) (v:=?_) (a':=?_) #[true,true,true,false,false,false,false,false,false,false,false,false,false,false,false] rfl rfl (any_of T_.out (by kernel_rfl)) (fun _ _ _ h=>h) (Or.inl ⟨by rfl,?_⟩) ?_ ?_
                      rotate_left
                      ·intro w'
                       go_simp
                       with_reducible rfl
                      rotate_left
                      ·simp only[Act.put,z1,z2,z3,i64_w,i32_w]
                       rfl
                      refine pure_ (i:=3) (N:=some 56) (v:=?_) (a':=?_) #[true,true,true,true,false,false,false,false,false,false,false,false,false,false,false] rfl rfl (any_of T_.out (by kernel_rfl)) (fun _ _ _ h=>h) (Or.inl ⟨by rfl,?_⟩) ?_ ?_
                      rotate_left
                      ·intro w'
                       go_simp
                       with_reducible rfl
                      rotate_left
                      ·simp only[Act.put,z1,z2,z3,i64_w,i32_w]
                       rfl
                      refine pure_ (i:=5) (N:=some 58) (v:=?_) (a':=?_) #[true,true,true,true,false,true,false,false,false,false,false,false,false,false,false] rfl rfl (any_of T_.out (by kernel_rfl)) (fun _ _ _ h=>h) (Or.inl ⟨by rfl,?_⟩) ?_ ?_
                      rotate_left
                      ·intro w'
                       go_simp
                       with_reducible rfl
                      rotate_left
                      ·simp only[Act.put,z1,z2,z3,i64_w,i32_w]
                       rfl
                      refine pure_ (i:=6) (N:=some 59) (v:=?_) (a':=?_) #[true,true,true,true,false,true,true,false,false,false,false,false,false,false,false] rfl rfl (any_of T_.out (by kernel_rfl)) (fun _ _ _ h=>h) (Or.inl ⟨by rfl,?_⟩) ?_ ?_
                      rotate_left
                      ·intro w'
                       go_simp
                       with_reducible rfl
                      rotate_left
                      ·simp only[Act.put,z1,z2,z3,i64_w,i32_w]
                       rfl
                      refine pure_ (i:=7) (N:=some 60) (v:=?_) (a':=?_) #[true,true,true,true,false,true,true,true,false,false,false,false,false,false,false] rfl rfl (any_of T_.out (by kernel_rfl)) (fun _ _ _ h=>h) (Or.inl ⟨by rfl,?_⟩) ?_ ?_
                      rotate_left
                      ·intro w'
                       go_simp
                       with_reducible rfl
                      rotate_left
                      ·simp only[Act.put,z1,z2,z3,i64_w,i32_w]
                       rfl
                      refine pure_ (i:=8) (N:=some 61) (v:=?_) (a':=?_) #[true,true,true,true,false,true,true,true,true,false,false,false,false,false,false] rfl rfl (any_of T_.out (by kernel_rfl)) (fun _ _ _ h=>h) (Or.inl ⟨by rfl,?_⟩) ?_ ?_
                      rotate_left
                      ·intro w'
                       go_simp
                       with_reducible rfl
                      rotate_left
                      ·simp only[Act.put,z1,z2,z3,i64_w,i32_w]
                       rfl
                      refine take_ (i:=4) (N:=some 57) (v:=?_) (a':=?_) #[true,true,true,true,true,true,true,true,true,false,false,false,false,false,false] rfl rfl (take_ofW T_.out W_.out (by kernel_rfl)) (fun _ _ _ h=>h) (Or.inl ⟨by rfl,?_⟩) h' ?_ ?_
                      rotate_left
                      ·rintro w' ⟨s0,s1,s2⟩
                       go_simp
                       with_reducible rfl
                      rotate_left
                      ·simp only[Act.put,z1,z2,z3,i64_w,i32_w]
                       rfl
                      refine take_ (i:=9) (N:=some 62) (v:=?_) (a':=?_) #[true,true,true,true,true,true,true,true,true,true,false,false,false,false,false] rfl rfl (take_ofW T_.out W_.out (by kernel_rfl)) (fun _ _ _ h=>h) (Or.inl ⟨by rfl,?_⟩) h' ?_ ?_
                      rotate_left
                      ·rintro w' ⟨s0,s1,s2⟩
                       go_simp
                       with_reducible rfl
                      rotate_left
                      ·simp only[Act.put,z1,z2,z3,i64_w,i32_w]
                       rfl
                      refine pure_ (i:=10) (N:=some 63) (v:=?_) (a':=?_) #[true,true,true,true,true,true,true,true,true,true,true,false,false,false,false] rfl rfl (any_of T_.out (by kernel_rfl)) (fun _ _ _ h=>h) (Or.inl ⟨by rfl,?_⟩) ?_ ?_
                      rotate_left
                      ·intro w'
                       go_simp
                       with_reducible rfl
                      rotate_left
                      ·simp only[Act.put,z1,z2,z3,i64_w,i32_w]
                       rfl
                      refine take_ (i:=11) (N:=some 64) (v:=?_) (a':=?_) #[true,true,true,true,true,true,true,true,true,true,true,true,false,false,false] rfl rfl (take_ofW T_.out W_.out (by kernel_rfl)) (fun _ _ _ h=>h) (Or.inl ⟨by rfl,?_⟩) h' ?_ ?_
                      rotate_left
                      ·rintro w' ⟨s0,s1,s2⟩
                       go_simp
                       with_reducible rfl
                      rotate_left
                      ·simp only[Act.put,z1,z2,z3,i64_w,i32_w]
                       rfl
                      refine pure_ (i:=12) (N:=some 65) (v:=?_) (a':=?_) #[true,true,true,true,true,true,true,true,true,true,true,true,true,false,false] rfl rfl (any_of T_.out (by kernel_rfl)) (fun _ _ _ h=>h) (Or.inl ⟨by rfl,?_⟩) ?_ ?_
                      rotate_left
                      ·intro w'
                       go_simp
                       with_reducible rfl
                      rotate_left
                      ·simp only[Act.put,z1,z2,z3,i64_w,i32_w]
                       rfl
                      refine pure_ (i:=13) (N:=some 66) (v:=?_) (a':=?_) #[true,true,true,true,true,true,true,true,true,true,true,true,true,true,false] rfl rfl (any_of T_.out (by kernel_rfl)) (fun _ _ _ h=>h) (Or.inl ⟨by rfl,?_⟩) ?_ ?_
                      rotate_left
                      ·intro w'
                       go_simp
                       with_reducible rfl
                      rotate_left
                      ·simp only[Act.put,z1,z2,z3,i64_w,i32_w]
                       rfl
                      refine last_ (i:=14) (N:=none) #[true,true,true,true,true,true,true,true,true,true,true,true,true,true,true] rfl rfl (one_of T_.out (by kernel_rfl)) (by decide) (fun K hK=>?_)
                      refine skip_ (w1:=?_) (by rfl) rfl ?_ ?_
                      rotate_left
                      ·go_simp
                       rfl
                      refine hK.out _ _ ?_
                      clear hK K
                      refine done_ (done_of T_.out (by kernel_rfl)) ?_
                      obtain⟨adN_,eN_,hxN_⟩:=Kd.at_int (Kd.R_reads' (Kd.R_mono (Kd.R_far (p:=⟨go12,((rd aG aC):Int).toNat,none⟩) (Kd.R_mono aX.out (fun k_ hk=>(⟨hk,fun e_=>hk.1 (by rw[e_];rfl)⟩:_/\k_≠go12))) (fun _ hk=>hk.2) (.int .i64 (wrap64 ((rd aM (rd aI aE))+1)))) (fun _ h_=>h_.1))).2.2 aC (of_decide_eq_true (by first|(with_reducible assumption)|assumption)) (of_decide_eq_true (by first|(with_reducible assumption)|assumption));cases eN_
                      try go_wp2_with (first|((with_reducible refine gate_builtin (b:=.append) (xs:=#[.tmp 67,.tmp 72]) rfl ?_);at_builtin;refine Kd.R_append (Kd.int .i64) (w0:=w) w.heap.size rfl (.tmp 67) (.tmp 72) 22 3 (.int .i64 0) 8 rfl Try.underlying22 info3 rfl (by decide) (by omega) (.slice (some ad157) aI.length co37) aI (rd aG aC) [.int .i64 (rd aG aC)] (fun k_=>some k_≠(.slice (some ⟨go12,0,none⟩) aM.length bH:Value).ownBlock/\some k_≠(.slice (some ad154) aG.length co35:Value).ownBlock) (fun _=>False) rfl (by first|(go_simp;done)|(go_simp;rfl)) ?aP (fun _ hk=>hk.elim) ?aF ?aO ?aB ?aS ?aL ?_;(case aP=>exact rfl);(case aB=>exact(by repeat (first|(with_reducible first|exact HB.out|apply below_alloc|apply pw_below_drewN|apply below_drew1|refine below_set ?_ GB12.out|refine below_set ?_ aT.out)|exact HB.out)));(case aF=>exact(fun k_ hk=>⟨Kd.fresh' (Kd.R_lt (zR HQ38)) k_ hk,Kd.fresh' (Kd.R_lt (by(with_reducible repeat (first|apply Kd.R_alloc|apply Kd.R_drewN|apply Kd.R_drew));exact(Kd.R_mono (Kd.R_far (p:=⟨go12,((rd aG aC):Int).toNat,none⟩) (Kd.R_mono aX.out (fun k_ hk=>(⟨hk,fun e_=>hk.1 (by rw[e_];rfl)⟩:_/\k_≠go12))) (fun _ hk=>hk.2) (.int .i64 (wrap64 ((rd aM (rd aI aE))+1)))) (fun _ h_=>h_.1)))) k_ hk⟩));(case aO=>exact(by(with_reducible repeat (first|apply Kd.R_alloc|apply Kd.R_drewN|apply Kd.R_drew));exact Kd.R_mono (Kd.R_far (p:=⟨go12,((rd aG aC):Int).toNat,none⟩) (Kd.R_mono aN.out (fun k_ hk=>(⟨hk,fun e_=>hk.1 (by rw[e_];rfl)⟩:_/\k_≠go12))) (fun _ hk=>hk.2) (.int .i64 (wrap64 ((rd aM (rd aI aE))+1)))) (fun _ hk=>⟨hk.1.1,hk.1.2⟩)));(case aS=>exact(below_size (by repeat (first|(with_reducible first|exact HB.out|apply below_alloc|apply pw_below_drewN|apply below_drew1|refine below_set ?_ GB12.out|refine below_set ?_ aT.out)|exact HB.out))));(case aL=>have:=LMc34.out;omega);intro v161 cA ho hb hg hat;rw[<-Ny160.out] at ho;have aW:=zA (Kd.R_after (ok:=(fun k_=>some k_≠(.slice (some ad154) aG.length co35:Value).ownBlock)) (zWm HQ38) hg hat);have aV:=zA (Kd.R_after (ok:=(fun k_=>some k_≠(.slice (some ⟨go12,0,none⟩) aM.length bH:Value).ownBlock)) (by(with_reducible repeat (first|apply Kd.R_alloc|apply Kd.R_drewN|apply Kd.R_drew));exact Kd.R_mono (Kd.R_far (p:=⟨go12,((rd aG aC):Int).toNat,none⟩) (Kd.R_mono aX.out (fun k_ hk=>(⟨hk,fun e_=>hk.1 (by rw[e_];rfl)⟩:_/\k_≠go12))) (fun _ hk=>hk.2) (.int .i64 (wrap64 ((rd aM (rd aI aE))+1)))) (fun _ hk=>⟨hk.1.1,hk.1.2⟩)) hg hat);have aU:=zA (blk_grown (g:=aQ) (o:=.cells #[aK,aJ,.slice aZ aH.length aY] 37 (0,0)) (by(with_reducible repeat (first|refine blk_drewN ?_ _|refine blk_drew ?_|refine blk_alloc ?_ _));refine blk_far ?_ (by have h_:=Kd.R_ne aD.out aA.out (by decide);intro e_;exact h_ (by rw[e_];rfl)) _;(with_reducible repeat (first|refine blk_drewN ?_ _|refine blk_drew ?_|refine blk_alloc ?_ _));exact aA.out) hg (Kd.R_ne aN.out aA.out (by decide)));have bB:=zA hb;have bI:=zA ho;clear aD;clear aX;clear aA;clear HB;clear aN;have aD:=aW;have aX:=aV;have aA:=aU;have HB:=bB;have bV:=bI;clear aW aV aU bB bI;clear ho hb hg hat))
                      (try simp only[<-hl5_3])
                      go_roundg k3
                      case measure=>have:=HK1.out;have:=HK2.out;have:=HK3.out;omega
                      case rel=>exact⟨(y159),(y160),(wrap64 (aC+1)),(by first|rfl|(simp;done)|(simp[*];done)),H',⟨by have:=HK1.out;have:=HK2.out;have:=HK3.out;omega⟩,⟨by(try simp only[hl5_2]);(try simp only[hl5_3]);(with_reducible repeat (first|apply Kd.R_alloc|apply Kd.R_drewN|apply Kd.R_drew));exact Kd.R_mono aD.out (fun _ hk=>⟨hk.2,hk.1⟩)⟩,⟨by(try simp only[hl5_2]);(try simp only[hl5_3]);(with_reducible repeat (first|apply Kd.R_alloc|apply Kd.R_drewN|apply Kd.R_drew));exact bV.out⟩,⟨by(try simp only[hl5_2]);(try simp only[hl5_3]);(with_reducible repeat (first|apply Kd.R_alloc|apply Kd.R_drewN|apply Kd.R_drew));exact aX.out⟩,⟨by(try simp only[hl5_2]);(try simp only[hl5_3]);(with_reducible repeat (first|refine blk_drewN ?_ _|refine blk_drew ?_|refine blk_alloc ?_ _));exact aA.out⟩,⟨zb⟩⟩
                     ·rw[if_neg c34] at H
                      exact absurd H (by simp)
                    ·rw[if_neg c32] at H
                     exact absurd H (by simp)
                   ·rw[if_neg c31] at H
                    exact absurd H (by simp)
                  ·rw[if_neg c30] at H
                   exact absurd H (by simp)
                 ·rw[if_neg c29] at H
                  exact absurd H (by simp)
                ·rw[if_neg c28] at H
                 have bT:decide ((rd aM (rd aG aC))<0)=false:=decide_eq_false c28
                 clear c28
                 have H':=zA H
                 clear H
                 obtain⟨Ao40,co40,eo40⟩:=Kd.R_slice aX.out
                 subst eo40
                 have p154:0<=(aC:Int):=of_decide_eq_true (by first|(with_reducible assumption)|assumption)
                 have q154:aC<(aG.length:Int):=of_decide_eq_true (by first|(with_reducible assumption)|assumption)
                 obtain⟨ad154,e154,hx154_0⟩:=Kd.at_int (Kd.R_reads' aX.out).2.2 aC p154 q154
                 cases e154
                 replace p154:=eq_true p154
                 replace q154:=eq_true q154
                 have p155:0<=((rd aG aC):Int):=of_decide_eq_true (by first|(with_reducible assumption)|assumption)
                 have q155:(rd aG aC)<(aM.length:Int):=of_decide_eq_true (by first|(with_reducible assumption)|assumption)
                 obtain⟨ad155,e155,hx155_0⟩:=Kd.at_int (Kd.R_reads' aD.out).2.2 (rd aG aC) p155 q155
                 obtain rfl:(⟨go12,0,none⟩:Addr)=ad155:=(by injection e155)
                 (first|simp only[add_plain] at hx155_0|simp only[add_at] at hx155_0|simp only[Addr.add,Nat.zero_add] at hx155_0|skip)
                 replace p155:=eq_true p155
                 replace q155:=eq_true q155
                 go_wp2
                 (try simp only[<-hl5_3])
                 go_roundg k3
                 case measure=>have:=HK1.out;have:=HK2.out;have:=HK3.out;omega
                 case rel=>exact⟨(aM),(aI),(wrap64 (aC+1)),(by first|rfl|(simp;done)|(simp[*];done)),H',⟨by have:=HK1.out;have:=HK2.out;have:=HK3.out;omega⟩,⟨by(try simp only[hl5_2]);(try simp only[hl5_3]);(with_reducible repeat (first|apply Kd.R_alloc|apply Kd.R_drewN|apply Kd.R_drew));exact aD.out⟩,⟨by(try simp only[hl5_2]);(try simp only[hl5_3]);(with_reducible repeat (first|apply Kd.R_alloc|apply Kd.R_drewN|apply Kd.R_drew));exact aN.out⟩,⟨by(try simp only[hl5_2]);(try simp only[hl5_3]);(with_reducible repeat (first|apply Kd.R_alloc|apply Kd.R_drewN|apply Kd.R_drew));exact aX.out⟩,⟨by(try simp only[hl5_2]);(try simp only[hl5_3]);(with_reducible repeat (first|refine blk_drewN ?_ _|refine blk_drew ?_|refine blk_alloc ?_ _));exact aA.out⟩,⟨zb⟩⟩
               ·rw[if_neg c27] at H
                exact absurd H (by simp)
              ·rw[if_neg c26] at H
               exact absurd H (by simp)
             ·rw[if_neg c25] at H
              exact absurd H (by simp)
            ·rw[if_neg c24] at H
             have bU:decide (aC<(aG.length:Int))=false:=decide_eq_false c24
             clear c24
             have H':=zA H
             clear H
             obtain⟨Ao41,co41,eo41⟩:=Kd.R_slice aX.out
             subst eo41
             go_wp2
             (try simp only[<-hl5_2,<-hl5_3])
             go_roundg k3
             case measure=>have:=HK1.out;have:=HK2.out;have:=HK3.out;omega
             case rel=>exact⟨(aM),(aI),(wrap64 (aE+1)),(by first|rfl|(simp;done)|(simp[*];done)),H',⟨by have:=HK1.out;have:=HK2.out;have:=HK3.out;omega⟩,⟨by(try simp only[hl5_2]);(try simp only[hl5_3]);(with_reducible repeat (first|apply Kd.R_alloc|apply Kd.R_drewN|apply Kd.R_drew));exact Kd.R_mono aD.out (fun _ hk=>hk.1)⟩,⟨by(try simp only[hl5_2]);(try simp only[hl5_3]);(with_reducible repeat (first|apply Kd.R_alloc|apply Kd.R_drewN|apply Kd.R_drew));exact Kd.R_mono aN.out (fun _ hk=>hk.1)⟩,⟨by(try simp only[hl5_2]);(try simp only[hl5_3]);(with_reducible repeat (first|refine blk_drewN ?_ _|refine blk_drew ?_|refine blk_alloc ?_ _));exact aA.out⟩,⟨zb⟩⟩
         ·rw[if_neg c19] at H
          exact absurd H (by simp)
        ·rw[if_neg c18] at H
         have bQ:decide (aE<(bC.length:Int))=false:=decide_eq_false c18
         clear c18
         obtain rfl:=zI H
         obtain⟨Ao42,co42,eo42⟩:=Kd.R_slice aN.out
         subst eo42
         go_wp2
         go_ret
         exact⟨_,zE,zWm aD,zb⟩
     ·rw[if_neg c11] at H
      exact absurd H (by simp)
    ·rw[if_neg c10] at H
     exact absurd H (by simp)

mutual
def Xa.j0:Nat->Bool->Int->Int->List Int->Option (Bool)
  |0,_,_,_,_=>none
  |k+1,x24,x169000,x169001,x169002=>if x24=true then(some false) else(Xa.l0 k 0 x169000 x169001 x169002)
def Xa.l0:Nat->Int->Int->Int->List Int->Option (Bool)
  |0,_,_,_,_=>none
  |k+1,x3,x169000,x169001,x169002=>if x3<(x169002.length:Int) then(if 0<=x3 then((X6.f (rd x169002 x3) 0 2).bind fun t172=>(if t172=true then(Xa.l0 k (wrap64 (x3+1)) x169000 x169001 x169002) else(some false))) else(none)) else(some true)
end
def Xa.f (k:Nat) (a0_0:Int) (a0_1:Int) (l0_2:List Int):Option (Bool):=(X6.f a0_0 1 8).bind fun t169=>(if t169=true then((X6.f a0_1 1 8).bind fun t170=>(if t170=true then(Xa.j0 k ((l0_2.length:Int) != (wrap64 (a0_0 * a0_1))) a0_0 a0_1 l0_2) else(Xa.j0 k true a0_0 a0_1 l0_2))) else(Xa.j0 k true a0_0 a0_1 l0_2))
theorem Xa.calls (k:Nat) (aE:Int) (aG:Int) (aK:Option Addr) (aJ:Nat) (aA:List Int) (r:Bool) (w:World) (bK:Kd.C (Kd.int .i64) w aK aA.length aA) (bL:aA.length<=aJ) (h:Xa.f k aE aG aA=some r) :
  Calls Try.prog 140 #[.agg #[aE,aG,.slice aK aA.length aJ]] w fun e w'=>e=.returned (.bool r)/\Below w.heap.size w w':=by
 have hu37:=Try.underlying37;have bO:=zA bK;have cV:=zA bL;clear bK bL;have HB:=zA (Below.refl w.heap.size w);have H:=h;clear h;unfold Xa.f at H;have bR:=zA H;clear H;go_enter Try.func140,Try.ntmps140
 go_upto_region 1 with (first|((with_reducible refine zgd 1 rfl ?_);(try (refine gate_guard (by rfl) ?_;dsimp only));refine zbx 1 #[aE,aG,.slice aK aA.length aJ] 37 ?_;intro bM hg w3 b' hb;have aC:=zA b';have cW:=zga (w:=w) hg;replace HB:=zbs hb;clear hb b' hg))
 (try simp only[Act.put,z1,z2,z3])
 go_cut [24] (fun v24 wc=>∃ (kq:Nat) (aI:Bool),v24=.bool aI/\Aside0 (Xa.j0 kq aI aE aG aA=some r)/\Aside0 (kq<=k)/\Aside0 (wc.heap[bM]?=some (.cells #[aE,aG,(.slice aK aA.length aJ)] 37 (0,0)))/\Aside0 (Below w.heap.size w wc))
 case first =>
  have H:=bR.out;clear bR;obtain⟨bX,A4,H⟩:=zB H
  by_cases c5:bX=true
  ·subst c5;rw[if_pos rfl] at H;obtain⟨bW,A6,H⟩:=zB H
   by_cases c7:bW=true
   ·subst c7;rw[if_pos rfl] at H;have H':=zA H;clear H;obtain⟨bH,bG,bF,bB,bA,aZ⟩:=ze3 aC
    go_wp2_with (first|((with_reducible refine zgf 93 rfl ?_);refine zgl 6 Try.func93 #[aE,.int .i64 1,.int .i64 8] ?_;(refine(X6.calls aE 1 8 true _ A4.out).mono ?_);rintro e w' ⟨rfl,⟨nd,rfl⟩⟩;refine⟨_,rfl,?_⟩)|(go_at_call 93;(refine(X6.calls aG 1 8 true _ A6.out).mono ?_);rintro e w' ⟨rfl,⟨nd,rfl⟩⟩))
    go_meet
    case rel=>exact⟨_,(((aA.length:Int) != (wrap64 (aE * aG)))),zr,H',⟨by first|omega|exact Nat.le_refl _⟩,⟨zk aC⟩,⟨zb⟩⟩
   ·replace c7:=zbq c7;subst c7;rw[if_neg zNo] at H;have H':=zA H;clear H;obtain⟨bE,bD,bC,aY,aX,aW⟩:=ze3 aC
    go_wp2_with (first|((with_reducible refine zgf 93 rfl ?_);refine zgl 6 Try.func93 #[aE,.int .i64 1,.int .i64 8] ?_;(refine(X6.calls aE 1 8 true _ A4.out).mono ?_);rintro e w' ⟨rfl,⟨nd,rfl⟩⟩;refine⟨_,rfl,?_⟩)|(go_at_call 93;(refine(X6.calls aG 1 8 false _ A6.out).mono ?_);rintro e w' ⟨rfl,⟨nd,rfl⟩⟩))
    go_meet
    case rel=>exact⟨_,(true),zr,H',⟨by first|omega|exact Nat.le_refl _⟩,⟨zk aC⟩,⟨zb⟩⟩
  ·replace c5:=zbq c5;subst c5;rw[if_neg zNo] at H;have H':=zA H;clear H;obtain⟨aV,aU,aT,aQ,aN,aM⟩:=ze3 aC
   go_wp2_with (first|((with_reducible refine zgf 93 rfl ?_);refine zgl 6 Try.func93 #[aE,.int .i64 1,.int .i64 8] ?_;(refine(X6.calls aE 1 8 false _ A4.out).mono ?_);rintro e w' ⟨rfl,⟨nd,rfl⟩⟩;refine⟨_,rfl,?_⟩))
   go_meet
   case rel=>exact⟨_,(true),zr,H',⟨by first|omega|exact Nat.le_refl _⟩,⟨zk aC⟩,⟨zb⟩⟩
 case rest =>
  clear bR;(try clear c5);(try clear c7);(try clear aV);(try clear aU);(try clear aT);(try clear bH);(try clear bG);(try clear bF);(try clear bE);(try clear bD);(try clear bC);(try clear aQ);(try clear aN);(try clear aM);(try clear bB);(try clear bA);(try clear aZ);(try clear aY);(try clear aX);(try clear aW);obtain⟨kq,aI,rfl,HA,HJ1,aC,HB⟩:=hcut;cases kq with
  |zero=>exact absurd HA.out (by simp[Xa.j0])
  |succ kj1 =>
   have H:=HA.out;clear HA;simp only[Xa.j0] at H
   by_cases bI:aI=true
   ·subst bI;rw[if_pos rfl] at H;obtain rfl:=zI H;go_wp2;go_ret;exact⟨zE,zb⟩
   ·replace bI:=zbq bI;subst bI;rw[if_neg zNo] at H;have H':=zA H;clear H;go_wp2
    go_loopg [3] kj1 (fun kq v3 w'=>∃ (aD:Int),v3=.int .i64 aD/\Aside0 (Xa.l0 kq aD aE aG aA=some r)/\Aside0 (kq<=kj1)/\Aside0 (w'.heap[bM]?=some (.cells #[aE,aG,(.slice aK aA.length aJ)] 37 (0,0)))/\Aside0 (Below w.heap.size w w'))
    case atStart=>exact⟨(0),zr,H',⟨Nat.le_refl _⟩,⟨zk aC⟩,⟨zb⟩⟩
    case round =>
     clear H';(try clear c5);(try clear c7);(try clear bI);(try clear aV);(try clear aU);(try clear aT);(try clear bH);(try clear bG);(try clear bF);(try clear bE);(try clear bD);(try clear bC);(try clear aQ);(try clear aN);(try clear aM);(try clear bB);(try clear bA);(try clear aZ);(try clear aY);(try clear aX);(try clear aW);obtain⟨aD,rfl,HA,HK2,aC,HB⟩:=hrel
     cases gk with
     |zero=>exact absurd HA.out (by simp[Xa.l0])
     |succ k2 =>
      have H:=HA.out;clear HA;simp only[Xa.l0] at H
      by_cases c12:aD<(aA.length:Int)
      ·rw[if_pos c12] at H;have bS:=decide_eq_true c12;clear c12;obtain⟨cU,H⟩:=zifD H;obtain⟨bV,bU,H⟩:=zB H
       by_cases bN:bV=true
       ·subst bN;rw[if_pos rfl] at H;have H':=zA H;clear H;obtain⟨cS,cR,cQ,cJ,cI,cH⟩:=ze3 aC;have bZ:=zT (0<=(aD:Int));have bY:=zT (aD<(aA.length:Int));obtain⟨bT,bJ,aH⟩:=Kd.at_int bO.out aD zd zd;cases bJ;replace aH:=zC HB aH
        go_wp2_with (first|((with_reducible refine zgf 93 rfl ?_);refine zgl 37 Try.func93 #[.int .i64 (rd aA aD),.int .i64 0,.int .i64 2] ?_;(refine(X6.calls (rd aA aD) 0 2 true _ bU.out).mono ?_);rintro e w' ⟨rfl,⟨nd,rfl⟩⟩;refine⟨_,rfl,?_⟩))
        go_roundg k2
        case measure=>have:=HJ1.out;have:=HK2.out;omega
        case rel=>exact⟨(wrap64 (aD+1)),zr,H',⟨by have:=HJ1.out;have:=HK2.out;omega⟩,⟨zk aC⟩,⟨zb⟩⟩
       ·replace bN:=zbq bN;subst bN;rw[if_neg zNo] at H;obtain rfl:=zI H;obtain⟨cP,cO,cN,cG,cF,cE⟩:=ze3 aC;have bZ:=zT (0<=(aD:Int));have bY:=zT (aD<(aA.length:Int));obtain⟨bT,bJ,aH⟩:=Kd.at_int bO.out aD zd zd;cases bJ;replace aH:=zC HB aH
        go_wp2_with (first|((with_reducible refine zgf 93 rfl ?_);refine zgl 37 Try.func93 #[.int .i64 (rd aA aD),.int .i64 0,.int .i64 2] ?_;(refine(X6.calls (rd aA aD) 0 2 false _ bU.out).mono ?_);rintro e w' ⟨rfl,⟨nd,rfl⟩⟩;refine⟨_,rfl,?_⟩))
        go_ret;exact⟨zE,zb⟩
      ·rw[if_neg c12] at H;have bS:=decide_eq_false c12;clear c12;obtain rfl:=zI H;obtain⟨cM,cL,cK,cD,cC,cB⟩:=ze3 aC;go_wp2;go_ret;exact⟨zE,zb⟩

def X13.f (k:Nat) (a0_0:Int) (a0_1:Int) (l0_2:List Int) (a1:Int):Option (Bool):=(Xa.f k a0_0 a0_1 l0_2).bind fun t174=>(if t174=true then((X6.f a1 0 (wrap64 ((l0_2.length:Int)-1))).bind fun t175=>(some t175)) else(some false))
theorem X13.calls (k:Nat) (aE:Int) (aD:Int) (aH:Option Addr) (aG:Nat) (aA:List Int) (a1:Int) (r:Bool) (w:World) (aI:Kd.C (Kd.int .i64) w aH aA.length aA) (aJ:aA.length<=aG) (h:X13.f k aE aD aA a1=some r) :
  Calls Try.prog 104 #[.agg #[aE,aD,.slice aH aA.length aG],a1] w fun e w'=>e=.returned (.bool r)/\Below w.heap.size w w':=by
 have hu37:=Try.underlying37;have aK:=zA aI;have aM:=zA aJ;clear aI aJ;have HB:=zA (Below.refl w.heap.size w);have H:=h;clear h;unfold X13.f at H;obtain⟨aV,A3,H⟩:=zB H
 by_cases c4:aV=true
 ·subst c4;rw[if_pos rfl] at H;obtain⟨aU,A5,H⟩:=zB H;obtain rfl:=zI H;go_enter Try.func104,Try.ntmps104
  go_wp2_with (first|((with_reducible refine zgd 2 rfl ?_);(try (refine gate_guard (by rfl) ?_;dsimp only));refine zbx 2 #[aE,aD,.slice aH aA.length aG] 37 ?_;intro aN hg w6 b' hb;have aC:=zA b';have aT:=zga (w:=w) hg;replace HB:=zbs hb;clear hb b' hg;obtain⟨bO,bN,bM,bI,bH,bG⟩:=ze3 aC)|((with_reducible refine zgf 140 rfl ?_);refine zgl 6 Try.func140 #[.agg #[aE,aD,.slice aH aA.length aG]] ?_;(refine(Xa.calls k aE aD _ _ aA true _ (zCb aK) aM.out A3.out).mono ?_);rintro e w8 ⟨rfl,hb⟩;refine⟨_,rfl,?_⟩;replace aC:=zkb aC hb;replace HB:=zbs hb;(try clear hb);obtain⟨bL,bK,bJ,bF,bE,bD⟩:=ze3 aC)|(go_at_call 93;(refine(X6.calls a1 0 (wrap64 ((aA.length:Int)-1)) aU _ A5.out).mono ?_);rintro e w' ⟨rfl,⟨nd,rfl⟩⟩))
  go_ret;exact⟨zE,zb⟩
 ·replace c4:=zbq c4;subst c4;rw[if_neg zNo] at H;obtain rfl:=zI H;go_enter Try.func104,Try.ntmps104
  go_wp2_with (first|((with_reducible refine zgd 2 rfl ?_);(try (refine gate_guard (by rfl) ?_;dsimp only));refine zbx 2 #[aE,aD,.slice aH aA.length aG] 37 ?_;intro aN hg bS b' hb;have aC:=zA b';have aT:=zga (w:=w) hg;replace HB:=zbs hb;clear hb b' hg;obtain⟨bC,bB,bA,aZ,aY,aX⟩:=ze3 aC)|((with_reducible refine zgf 140 rfl ?_);refine zgl 6 Try.func140 #[.agg #[aE,aD,.slice aH aA.length aG]] ?_;(refine(Xa.calls k aE aD _ _ aA false _ (zCb aK) aM.out A3.out).mono ?_);rintro e bR ⟨rfl,hb⟩;refine⟨_,rfl,?_⟩;replace aC:=zkb aC hb;replace HB:=zbs hb;(try clear hb)))
  go_ret;exact⟨zE,zb⟩

def Xm.f (k:Nat) (a0_0:Int) (a0_1:Int) (l0_2:List Int) (a1:Int):Option (Bool):=(X13.f k a0_0 a0_1 l0_2 a1).bind fun t177=>(if t177=true then(if 0<=a1 then(if a1<(l0_2.length:Int) then(some ((rd l0_2 a1) != 2)) else(none)) else(none)) else(some false))
theorem Xm.calls (k:Nat) (aE:Int) (aD:Int) (aH:Option Addr) (aG:Nat) (aA:List Int) (a1:Int) (r:Bool) (w:World) (aM:Kd.C (Kd.int .i64) w aH aA.length aA) (aN:aA.length<=aG) (h:Xm.f k aE aD aA a1=some r) :
  Calls Try.prog 129 #[.agg #[aE,aD,.slice aH aA.length aG],a1] w fun e w'=>e=.returned (.bool r)/\Below w.heap.size w w':=by
 have hu37:=Try.underlying37;have aK:=zA aM;have aQ:=zA aN;clear aM aN;have HB:=zA (Below.refl w.heap.size w);have H:=h;clear h;unfold Xm.f at H;obtain⟨aW,A3,H⟩:=zB H
 by_cases c4:aW=true
 ·subst c4;rw[if_pos rfl] at H;obtain⟨bV,H⟩:=zifD H;obtain⟨bU,H⟩:=zifD H;obtain rfl:=zI H;go_enter Try.func129,Try.ntmps129
  go_wp2_with (first|((with_reducible refine zgd 2 rfl ?_);refine zbx 2 #[aE,aD,.slice aH aA.length aG] 37 ?_;intro aT hg w7 b' hb;have aC:=zA b';have aV:=zga (w:=w) hg;replace HB:=zbs hb;clear hb b' hg;obtain⟨bP,bO,bN,bM,bL,bK⟩:=ze3 aC)|((with_reducible refine zgf 104 rfl ?_);refine zgl 7 Try.func104 #[.agg #[aE,aD,.slice aH aA.length aG],a1] ?_;(refine(X13.calls k aE aD _ _ aA a1 true _ (zCb aK) aQ.out A3.out).mono ?_);rintro e w9 ⟨rfl,hb⟩;refine⟨_,rfl,?_⟩;replace aC:=zkb aC hb;replace HB:=zbs hb;(try clear hb);obtain⟨bJ,bI,bH,bD,bC,bB⟩:=ze3 aC;have bT:=zT (0<=(a1:Int));have bS:=zT (a1<(aA.length:Int));obtain⟨bR,aX,aI⟩:=Kd.at_int aK.out a1 zd zd;cases aX;replace aI:=zC HB aI))
  go_ret;exact⟨zE,zb⟩
 ·replace c4:=zbq c4;subst c4;rw[if_neg zNo] at H;obtain rfl:=zI H;go_enter Try.func129,Try.ntmps129
  go_wp2_with (first|((with_reducible refine zgd 2 rfl ?_);refine zbx 2 #[aE,aD,.slice aH aA.length aG] 37 ?_;intro aT hg bX b' hb;have aC:=zA b';have aV:=zga (w:=w) hg;replace HB:=zbs hb;clear hb b' hg;obtain⟨bG,bF,bE,bA,aZ,aY⟩:=ze3 aC)|((with_reducible refine zgf 104 rfl ?_);refine zgl 7 Try.func104 #[.agg #[aE,aD,.slice aH aA.length aG],a1] ?_;(refine(X13.calls k aE aD _ _ aA a1 false _ (zCb aK) aQ.out A3.out).mono ?_);rintro e bW ⟨rfl,hb⟩;refine⟨_,rfl,?_⟩;replace aC:=zkb aC hb;replace HB:=zbs hb;(try clear hb)))
  go_ret;exact⟨zE,zb⟩

def XX.f (k:Nat) (a0_0:Int) (a0_1:Int) (l0_2:List Int) (a1:Int) (a2:Int):Option (Int):=(Xm.f k a0_0 a0_1 l0_2 a1).bind fun t180=>(if t180=true then((Xm.f k a0_0 a0_1 l0_2 a2).bind fun t181=>(if t181=true then((X4.f k a0_0 a0_1 l0_2 a1).bind fun t182=>(if 0<=a2 then(if a2<(t182.length:Int) then(some (rd t182 a2)) else(none)) else(none))) else(some (-1)))) else(some (-1)))
theorem XX.calls (k:Nat) (aE:Int) (aD:Int) (aH:Option Addr) (aG:Nat) (aC:List Int) (a1:Int) (a2:Int) (r:Int) (w:World) (aN:Kd.C (Kd.int .i64) w aH aC.length aC) (aQ:aC.length<=aG) (h:XX.f k aE aD aC a1 a2=some r) :
  Calls Try.prog 91 #[.agg #[aE,aD,.slice aH aC.length aG],a1,a2] w fun e w'=>e=.returned (.int .i64 r)/\Below w.heap.size w w':=by
 have hu37:=Try.underlying37;have aI:=zA aN;have aJ:=zA aQ;clear aN aQ;have HB:=zA (Below.refl w.heap.size w);have H:=h;clear h;unfold XX.f at H;obtain⟨bA,A4,H⟩:=zB H
 by_cases c5:bA=true
 ·subst c5;rw[if_pos rfl] at H;obtain⟨aZ,A6,H⟩:=zB H
  by_cases c7:aZ=true
  ·subst c7;rw[if_pos rfl] at H;obtain⟨aW,A8,H⟩:=zB H;obtain⟨cV,H⟩:=zifD H;obtain⟨cQ,H⟩:=zifD H;obtain rfl:=zI H;go_enter Try.func91,Try.ntmps91
   go_wp2_with (first|((with_reducible refine zgd 3 rfl ?_);refine zbx 3 #[aE,aD,.slice aH aC.length aG] 37 ?_;intro aT hg dG b' hb;have aA:=zA b';have aV:=zga (w:=w) hg;replace HB:=zbs hb;clear hb b' hg;obtain⟨cO,cN,cM,bW,bV,bU⟩:=ze3 aA)|((with_reducible refine zgf 129 rfl ?_);refine zgl 9 Try.func129 #[.agg #[aE,aD,.slice aH aC.length aG],a1] ?_;(refine(Xm.calls k aE aD _ _ aC a1 true _ (zCb aI) aJ.out A4.out).mono ?_);rintro e dF ⟨rfl,hb⟩;refine⟨_,rfl,?_⟩;replace aA:=zkb aA hb;replace HB:=zbs hb;(try clear hb);obtain⟨cL,cK,cJ,bT,bS,bR⟩:=ze3 aA)|(go_at_call 129;(refine(Xm.calls k aE aD _ _ aC a2 true _ (zCb aI) aJ.out A6.out).mono ?_);rintro e dE ⟨rfl,hb⟩;replace aA:=zkb aA hb;replace HB:=zbs hb;(try clear hb);obtain⟨cI,cH,cG,bQ,bP,bO⟩:=ze3 aA)|((with_reducible refine zgf 126 rfl ?_);refine zgl 19 Try.func126 #[.agg #[aE,aD,.slice aH aC.length aG],a1] ?_;(refine(X4.calls k aE aD _ _ aC a1 aW _ (zCb aI) aJ.out A8.out).mono ?_);rintro e dD ⟨v183,rfl,ho0,hb⟩;refine⟨_,rfl,?_⟩;have aU:=zA (Kd.R_lower ho0 (below_size zb));replace aA:=zkb aA hb;replace HB:=zbs hb;(try clear hb);(try clear ho0);obtain⟨cW,cU,bB⟩:=Kd.R_slice aU.out;subst bB;have cT:=zT (0<=(a2:Int));have cS:=zT (a2<(aW.length:Int));obtain⟨cR,bC,bE⟩:=Kd.at_int (Kd.R_reads' aU.out).2.2 a2 zd zd;cases bC))
   go_ret;exact⟨zE,zb⟩
  ·replace c7:=zbq c7;subst c7;rw[if_neg zNo] at H;obtain rfl:=zI H;go_enter Try.func91,Try.ntmps91
   go_wp2_with (first|((with_reducible refine zgd 3 rfl ?_);refine zbx 3 #[aE,aD,.slice aH aC.length aG] 37 ?_;intro aT hg dC b' hb;have aA:=zA b';have aV:=zga (w:=w) hg;replace HB:=zbs hb;clear hb b' hg;obtain⟨cF,cE,cD,bN,bM,bL⟩:=ze3 aA)|((with_reducible refine zgf 129 rfl ?_);refine zgl 9 Try.func129 #[.agg #[aE,aD,.slice aH aC.length aG],a1] ?_;(refine(Xm.calls k aE aD _ _ aC a1 true _ (zCb aI) aJ.out A4.out).mono ?_);rintro e dB ⟨rfl,hb⟩;refine⟨_,rfl,?_⟩;replace aA:=zkb aA hb;replace HB:=zbs hb;(try clear hb);obtain⟨cC,cB,cA,bK,bJ,bI⟩:=ze3 aA)|(go_at_call 129;(refine(Xm.calls k aE aD _ _ aC a2 false _ (zCb aI) aJ.out A6.out).mono ?_);rintro e dA ⟨rfl,hb⟩;replace aA:=zkb aA hb;replace HB:=zbs hb;(try clear hb)))
   go_ret;exact⟨zE,zb⟩
 ·replace c5:=zbq c5;subst c5;rw[if_neg zNo] at H;obtain rfl:=zI H;go_enter Try.func91,Try.ntmps91
  go_wp2_with (first|((with_reducible refine zgd 3 rfl ?_);refine zbx 3 #[aE,aD,.slice aH aC.length aG] 37 ?_;intro aT hg cZ b' hb;have aA:=zA b';have aV:=zga (w:=w) hg;replace HB:=zbs hb;clear hb b' hg;obtain⟨bZ,bY,bX,bH,bG,bF⟩:=ze3 aA)|((with_reducible refine zgf 129 rfl ?_);refine zgl 9 Try.func129 #[.agg #[aE,aD,.slice aH aC.length aG],a1] ?_;(refine(Xm.calls k aE aD _ _ aC a1 false _ (zCb aI) aJ.out A4.out).mono ?_);rintro e cY ⟨rfl,hb⟩;refine⟨_,rfl,?_⟩;replace aA:=zkb aA hb;replace HB:=zbs hb;(try clear hb)))
  go_ret;exact⟨zE,zb⟩

mutual
def Xf.l0:Nat->Int->Int->List Int->List Int->Int->Int->List Int->Option (List Int)
  |0,_,_,_,_,_,_,_=>none
  |k+1,x1,x2,x7,x8,x187000,x187001,x187002=>if x1=x2 then(some x7) else((X3.f k x187000 x187001 x187002 x1).bind fun t197=>(Xf.l1 k x1 x2 x7 x8 t197 (wrap64 ((t197.length:Int)-1)) x187000 x187001 x187002))
def Xf.l1:Nat->Int->Int->List Int->List Int->List Int->Int->Int->Int->List Int->Option (List Int)
  |0,_,_,_,_,_,_,_,_,_=>none
  |k+1,x1,x2,x7,x8,x9,x10,x187000,x187001,x187002=>if x10>=0 then(if 0<=x10 then(if x10<(x9.length:Int) then(if 0<=(rd x9 x10) then(if (rd x9 x10)<(x8.length:Int) then(if 0<=(wrap64 ((x7.length:Int)-1)) then(if (wrap64 ((x7.length:Int)-1))<(x7.length:Int) then(if 0<=(rd x7 (wrap64 ((x7.length:Int)-1))) then(if (rd x7 (wrap64 ((x7.length:Int)-1)))<(x8.length:Int) then(if (rd x8 (rd x9 x10))=(wrap64 ((rd x8 (rd x7 (wrap64 ((x7.length:Int)-1))))-1)) then(Xf.l1 k (rd x9 x10) x2 x7 x8 x9 (wrap64 (x10-1)) x187000 x187001 x187002) else(Xf.l1 k x1 x2 x7 x8 x9 (wrap64 (x10-1)) x187000 x187001 x187002)) else(none)) else(none)) else(none)) else(none)) else(none)) else(none)) else(none)) else(none)) else(if x7.length<17592186044416 then(Xf.l0 k x1 x2 (x7++[x1]) x8 x187000 x187001 x187002) else(none))
end
def Xf.f (k:Nat) (a0_0:Int) (a0_1:Int) (l0_2:List Int) (a1:Int) (a2:Int):Option (List Int):=(some (([]:List Int):List Int)).bind fun y187=>((XX.f k a0_0 a0_1 l0_2 a1 a2).bind fun t190=>(if t190<0 then(some y187) else((X4.f k a0_0 a0_1 l0_2 a2).bind fun t191=>(if y187.length<17592186044416 then(Xf.l0 k a1 a2 (y187++[a1]) t191 a0_0 a0_1 l0_2) else(none)))))
theorem Xf.calls (k:Nat) (aI:Int) (aH:Int) (bB:Option Addr) (bA:Nat) (aE:List Int) (a1:Int) (a2:Int) (r:List Int) (w:World) (cQ:Kd.C (Kd.int .i64) w bB aE.length aE) (cR:aE.length<=bA) (h:Xf.f k aI aH aE a1 a2=some r) :
  Calls Try.prog 85 #[.agg #[aI,aH,.slice bB aE.length bA],a1,a2] w fun e w'=>∃ v0_:Value,e=.returned (v0_)/\Kd.R (Kd.int .i64) 3 w' w.heap.size (fun _=>True) v0_ r/\Below w.heap.size w w':=by
 have hu37:=Try.underlying37;have aT:=zA cQ;have aV:=zA cR;clear cQ cR;have HB:=zA (Below.refl w.heap.size w);have H:=h;clear h;unfold Xf.f at H;obtain⟨bU,cF⟩:∃ y_:List Int,y_=(([]:List Int)):=⟨_,rfl⟩
 replace H:((XX.f k aI aH aE a1 a2).bind fun bD=>(if bD<0 then(some bU) else((X4.f k aI aH aE a2).bind fun aJ=>(if bU.length<17592186044416 then(Xf.l0 k a1 a2 (bU++[a1]) aJ aI aH aE) else(none)))))=some r:=zY cF H
 have Ny187:=zA cF;clear cF;obtain⟨bD,A4,H⟩:=zB H
 by_cases c5:bD<0
 ·rw[if_pos c5] at H;have cP:=decide_eq_true c5;clear c5;obtain rfl:=zI H;go_enter Try.func85,Try.ntmps85
  go_wp2_with (first|((with_reducible refine zgd 3 rfl ?_);refine zbx 3 #[aI,aH,.slice bB aE.length bA] 37 ?_;intro bE hg w6 b' hb;have aA:=zA b';have cB:=zga (w:=w) hg;replace HB:=zbs hb;clear hb b' hg)|((with_reducible refine zgd 11 rfl ?_);refine Kd.R_lit (Kd.int .i64) _ 3 ?hg (N:=11) ?hd (xs:=([]:List Int)) (inner:=[]) (ok:=fun _=>True) (okp:=fun _=>True) ?hr ?hp (fun _ hk=>hk) trivial (Below.refl _ _) (Nat.le_refl _) (by simp) ?_;(case hd=>rfl);(case hg=>rfl);(case hr=>first|(go_simp;done)|(go_simp;rfl));(case hp=>exact(Reps.none _ _));intro v188 w7 ho8 hb hg_ hnew_;clear hg_ hnew_;(first|rw[<-Ny187.out] at ho8|(simp only[Int.reduceToNat] at ho8;rw[<-Ny187.out] at ho8));have aC:=zA (Kd.R_lower ho8 (below_size zb));replace aA:=zkb aA hb;replace HB:=zbs hb;clear hb ho8;obtain⟨cA,bZ,bY,bX,bW,bV⟩:=ze3 aA)|(go_at_call 91;(refine(XX.calls k aI aH _ _ aE a1 a2 bD _ (zCb aT) aV.out A4.out).mono ?_);rintro e dX ⟨rfl,hb⟩;replace aC:=zRb aC hb;replace aA:=zkb aA hb;replace HB:=zbs hb;(try clear hb)))
  repeat (go_quiet (first|((with_reducible refine zgd 3 rfl ?_);refine zbx 3 #[aI,aH,.slice bB aE.length bA] 37 ?_;intro bE hg w6 b' hb;have aA:=zA b';have cB:=zga (w:=w) hg;replace HB:=zbs hb;clear hb b' hg)|((with_reducible refine zgd 11 rfl ?_);refine Kd.R_lit (Kd.int .i64) _ 3 ?hg (N:=11) ?hd (xs:=([]:List Int)) (inner:=[]) (ok:=fun _=>True) (okp:=fun _=>True) ?hr ?hp (fun _ hk=>hk) trivial (Below.refl _ _) (Nat.le_refl _) (by simp) ?_;(case hd=>rfl);(case hg=>rfl);(case hr=>first|(go_simp;done)|(go_simp;rfl));(case hp=>exact(Reps.none _ _));intro v188 w7 ho8 hb hg_ hnew_;clear hg_ hnew_;(first|rw[<-Ny187.out] at ho8|(simp only[Int.reduceToNat] at ho8;rw[<-Ny187.out] at ho8));have aC:=zA (Kd.R_lower ho8 (below_size zb));replace aA:=zkb aA hb;replace HB:=zbs hb;clear hb ho8;obtain⟨cA,bZ,bY,bX,bW,bV⟩:=ze3 aA)|(go_at_call 91;(refine(XX.calls k aI aH _ _ aE a1 a2 bD _ (zCb aT) aV.out A4.out).mono ?_);rintro e dX ⟨rfl,hb⟩;replace aC:=zRb aC hb;replace aA:=zkb aA hb;replace HB:=zbs hb;(try clear hb)));try go_wp2_with (first|((with_reducible refine zgd 3 rfl ?_);refine zbx 3 #[aI,aH,.slice bB aE.length bA] 37 ?_;intro bE hg w6 b' hb;have aA:=zA b';have cB:=zga (w:=w) hg;replace HB:=zbs hb;clear hb b' hg)|((with_reducible refine zgd 11 rfl ?_);refine Kd.R_lit (Kd.int .i64) _ 3 ?hg (N:=11) ?hd (xs:=([]:List Int)) (inner:=[]) (ok:=fun _=>True) (okp:=fun _=>True) ?hr ?hp (fun _ hk=>hk) trivial (Below.refl _ _) (Nat.le_refl _) (by simp) ?_;(case hd=>rfl);(case hg=>rfl);(case hr=>first|(go_simp;done)|(go_simp;rfl));(case hp=>exact(Reps.none _ _));intro v188 w7 ho8 hb hg_ hnew_;clear hg_ hnew_;(first|rw[<-Ny187.out] at ho8|(simp only[Int.reduceToNat] at ho8;rw[<-Ny187.out] at ho8));have aC:=zA (Kd.R_lower ho8 (below_size zb));replace aA:=zkb aA hb;replace HB:=zbs hb;clear hb ho8;obtain⟨cA,bZ,bY,bX,bW,bV⟩:=ze3 aA)|(go_at_call 91;(refine(XX.calls k aI aH _ _ aE a1 a2 bD _ (zCb aT) aV.out A4.out).mono ?_);rintro e dX ⟨rfl,hb⟩;replace aC:=zRb aC hb;replace aA:=zkb aA hb;replace HB:=zbs hb;(try clear hb))))
  go_ret;exact⟨_,zE,zR aC,zb⟩
 ·rw[if_neg c5] at H;have cP:=decide_eq_false c5;clear c5;obtain⟨aJ,dL,H⟩:=zB H;obtain⟨cJ,H⟩:=zifA H;obtain⟨dJ,cE⟩:∃ y_:List Int,y_=(bU++[a1]):=⟨_,rfl⟩
  replace H:(Xf.l0 k a1 a2 dJ aJ aI aH aE)=some r:=zY cE H
  have Ny194:=zA cE;clear cE;have H':=zA H;clear H;go_enter Try.func85,Try.ntmps85
  go_wp2_with (first|((with_reducible refine zgd 3 rfl ?_);refine zbx 3 #[aI,aH,.slice bB aE.length bA] 37 ?_;intro bE hg dW b' hb;have aA:=zA b';have cB:=zga (w:=w) hg;replace HB:=zbs hb;clear hb b' hg)|((with_reducible refine zgd 11 rfl ?_);refine Kd.R_lit (Kd.int .i64) _ 3 ?hg (N:=11) ?hd (xs:=([]:List Int)) (inner:=[]) (ok:=fun _=>True) (okp:=fun _=>True) ?hr ?hp (fun _ hk=>hk) trivial (Below.refl _ _) (Nat.le_refl _) (by simp) ?_;(case hd=>rfl);(case hg=>rfl);(case hr=>first|(go_simp;done)|(go_simp;rfl));(case hp=>exact(Reps.none _ _));intro v188 dV ho15 hb hg_ hnew_;clear hg_ hnew_;(first|rw[<-Ny187.out] at ho15|(simp only[Int.reduceToNat] at ho15;rw[<-Ny187.out] at ho15));have aC:=zA (Kd.R_lower ho15 (below_size zb));replace aA:=zkb aA hb;replace HB:=zbs hb;clear hb ho15;obtain⟨bS,bR,bQ,bM,bL,bK⟩:=ze3 aA)|(go_at_call 91;(refine(XX.calls k aI aH _ _ aE a1 a2 bD _ (zCb aT) aV.out A4.out).mono ?_);rintro e dU ⟨rfl,hb⟩;replace aC:=zRb aC hb;replace aA:=zkb aA hb;replace HB:=zbs hb;(try clear hb);obtain⟨bP,bO,bN,bJ,bI,bH⟩:=ze3 aA)|(go_at_call 126;(refine(X4.calls k aI aH _ _ aE a2 aJ _ (zCb aT) aV.out dL.out).mono ?_);rintro e dT ⟨v192,rfl,ho0,hb⟩;have aU:=zA (Kd.R_lower (Kd.R_new' ho0 (Kd.R_lt (zR aC))) (below_size zb));replace aC:=zA (Kd.R_elder' (zR aC) (Kd.R_base ho0) hb);replace aA:=zkb aA hb;replace HB:=zbs hb;(try clear hb);(try clear ho0))|((with_reducible refine gate_builtin (b:=.append) (xs:=#[.tmp 21,.tmp 23]) rfl ?_);at_builtin;refine Kd.R_append (Kd.int .i64) (w0:=w) w.heap.size rfl (.tmp 21) (.tmp 23) 22 3 (.int .i64 0) 8 rfl Try.underlying22 info3 rfl (by decide) (by omega) v188 bU a1 [a1] (fun k_=>some k_≠(v192:Value).ownBlock) (fun _=>False) rfl rfl ?aP (fun _ hk=>hk.elim) ?aF ?aO ?aB ?aS ?aL ?_;(case aP=>exact rfl);(case aB=>exact zb);(case aF=>exact(fun k_ hk=>Kd.fresh' (Kd.R_lt (zR aU)) k_ hk));(case aO=>exact(zWm aC));(case aS=>exact(below_size zb));(case aL=>have:=cJ.out;omega);intro v195 dS ho hb hg hat;rw[<-Ny194.out] at ho;replace aA:=zgr aA hg (Kd.R_ne aC.out aA.out (by decide));replace aU:=zA (Kd.R_after (ok:=(fun _=>True)) (zR aU) hg hat);replace HB:=zA hb;have cK:=zA ho;clear aC;clear ho hb hg hat))
  repeat (go_quiet (first|((with_reducible refine zgd 3 rfl ?_);refine zbx 3 #[aI,aH,.slice bB aE.length bA] 37 ?_;intro bE hg dW b' hb;have aA:=zA b';have cB:=zga (w:=w) hg;replace HB:=zbs hb;clear hb b' hg)|((with_reducible refine zgd 11 rfl ?_);refine Kd.R_lit (Kd.int .i64) _ 3 ?hg (N:=11) ?hd (xs:=([]:List Int)) (inner:=[]) (ok:=fun _=>True) (okp:=fun _=>True) ?hr ?hp (fun _ hk=>hk) trivial (Below.refl _ _) (Nat.le_refl _) (by simp) ?_;(case hd=>rfl);(case hg=>rfl);(case hr=>first|(go_simp;done)|(go_simp;rfl));(case hp=>exact(Reps.none _ _));intro v188 dV ho15 hb hg_ hnew_;clear hg_ hnew_;(first|rw[<-Ny187.out] at ho15|(simp only[Int.reduceToNat] at ho15;rw[<-Ny187.out] at ho15));have aC:=zA (Kd.R_lower ho15 (below_size zb));replace aA:=zkb aA hb;replace HB:=zbs hb;clear hb ho15;obtain⟨bS,bR,bQ,bM,bL,bK⟩:=ze3 aA)|(go_at_call 91;(refine(XX.calls k aI aH _ _ aE a1 a2 bD _ (zCb aT) aV.out A4.out).mono ?_);rintro e dU ⟨rfl,hb⟩;replace aC:=zRb aC hb;replace aA:=zkb aA hb;replace HB:=zbs hb;(try clear hb);obtain⟨bP,bO,bN,bJ,bI,bH⟩:=ze3 aA)|(go_at_call 126;(refine(X4.calls k aI aH _ _ aE a2 aJ _ (zCb aT) aV.out dL.out).mono ?_);rintro e dT ⟨v192,rfl,ho0,hb⟩;have aU:=zA (Kd.R_lower (Kd.R_new' ho0 (Kd.R_lt (zR aC))) (below_size zb));replace aC:=zA (Kd.R_elder' (zR aC) (Kd.R_base ho0) hb);replace aA:=zkb aA hb;replace HB:=zbs hb;(try clear hb);(try clear ho0))|((with_reducible refine gate_builtin (b:=.append) (xs:=#[.tmp 21,.tmp 23]) rfl ?_);at_builtin;refine Kd.R_append (Kd.int .i64) (w0:=w) w.heap.size rfl (.tmp 21) (.tmp 23) 22 3 (.int .i64 0) 8 rfl Try.underlying22 info3 rfl (by decide) (by omega) v188 bU a1 [a1] (fun k_=>some k_≠(v192:Value).ownBlock) (fun _=>False) rfl rfl ?aP (fun _ hk=>hk.elim) ?aF ?aO ?aB ?aS ?aL ?_;(case aP=>exact rfl);(case aB=>exact zb);(case aF=>exact(fun k_ hk=>Kd.fresh' (Kd.R_lt (zR aU)) k_ hk));(case aO=>exact(zWm aC));(case aS=>exact(below_size zb));(case aL=>have:=cJ.out;omega);intro v195 dS ho hb hg hat;rw[<-Ny194.out] at ho;replace aA:=zgr aA hg (Kd.R_ne aC.out aA.out (by decide));replace aU:=zA (Kd.R_after (ok:=(fun _=>True)) (zR aU) hg hat);replace HB:=zA hb;have cK:=zA ho;clear aC;clear ho hb hg hat));try go_wp2_with (first|((with_reducible refine zgd 3 rfl ?_);refine zbx 3 #[aI,aH,.slice bB aE.length bA] 37 ?_;intro bE hg dW b' hb;have aA:=zA b';have cB:=zga (w:=w) hg;replace HB:=zbs hb;clear hb b' hg)|((with_reducible refine zgd 11 rfl ?_);refine Kd.R_lit (Kd.int .i64) _ 3 ?hg (N:=11) ?hd (xs:=([]:List Int)) (inner:=[]) (ok:=fun _=>True) (okp:=fun _=>True) ?hr ?hp (fun _ hk=>hk) trivial (Below.refl _ _) (Nat.le_refl _) (by simp) ?_;(case hd=>rfl);(case hg=>rfl);(case hr=>first|(go_simp;done)|(go_simp;rfl));(case hp=>exact(Reps.none _ _));intro v188 dV ho15 hb hg_ hnew_;clear hg_ hnew_;(first|rw[<-Ny187.out] at ho15|(simp only[Int.reduceToNat] at ho15;rw[<-Ny187.out] at ho15));have aC:=zA (Kd.R_lower ho15 (below_size zb));replace aA:=zkb aA hb;replace HB:=zbs hb;clear hb ho15;obtain⟨bS,bR,bQ,bM,bL,bK⟩:=ze3 aA)|(go_at_call 91;(refine(XX.calls k aI aH _ _ aE a1 a2 bD _ (zCb aT) aV.out A4.out).mono ?_);rintro e dU ⟨rfl,hb⟩;replace aC:=zRb aC hb;replace aA:=zkb aA hb;replace HB:=zbs hb;(try clear hb);obtain⟨bP,bO,bN,bJ,bI,bH⟩:=ze3 aA)|(go_at_call 126;(refine(X4.calls k aI aH _ _ aE a2 aJ _ (zCb aT) aV.out dL.out).mono ?_);rintro e dT ⟨v192,rfl,ho0,hb⟩;have aU:=zA (Kd.R_lower (Kd.R_new' ho0 (Kd.R_lt (zR aC))) (below_size zb));replace aC:=zA (Kd.R_elder' (zR aC) (Kd.R_base ho0) hb);replace aA:=zkb aA hb;replace HB:=zbs hb;(try clear hb);(try clear ho0))|((with_reducible refine gate_builtin (b:=.append) (xs:=#[.tmp 21,.tmp 23]) rfl ?_);at_builtin;refine Kd.R_append (Kd.int .i64) (w0:=w) w.heap.size rfl (.tmp 21) (.tmp 23) 22 3 (.int .i64 0) 8 rfl Try.underlying22 info3 rfl (by decide) (by omega) v188 bU a1 [a1] (fun k_=>some k_≠(v192:Value).ownBlock) (fun _=>False) rfl rfl ?aP (fun _ hk=>hk.elim) ?aF ?aO ?aB ?aS ?aL ?_;(case aP=>exact rfl);(case aB=>exact zb);(case aF=>exact(fun k_ hk=>Kd.fresh' (Kd.R_lt (zR aU)) k_ hk));(case aO=>exact(zWm aC));(case aS=>exact(below_size zb));(case aL=>have:=cJ.out;omega);intro v195 dS ho hb hg hat;rw[<-Ny194.out] at ho;replace aA:=zgr aA hg (Kd.R_ne aC.out aA.out (by decide));replace aU:=zA (Kd.R_after (ok:=(fun _=>True)) (zR aU) hg hat);replace HB:=zA hb;have cK:=zA ho;clear aC;clear ho hb hg hat)))
  go_loopg [1,7] k (fun kq v1 v7 w'=>∃ (aX:Int) (aK:List Int),v1=.int .i64 aX/\Aside0 (Xf.l0 kq aX a2 aK aJ aI aH aE=some r)/\Aside0 (kq<=k)/\Aside0 (Kd.R (Kd.int .i64) 3 w' w.heap.size (fun k_=>some k_≠(v192:Value).ownBlock) v7 aK)/\Aside0 (Kd.R (Kd.int .i64) 3 w' w.heap.size (fun k_=>some k_≠(v7:Value).ownBlock) v192 aJ)/\Aside0 (w'.heap[bE]?=some (.cells #[aI,aH,(.slice bB aE.length bA)] 37 (0,0)))/\Aside0 (Below w.heap.size w w'))
  case atStart=>exact⟨(a1),(dJ),zr,H',⟨Nat.le_refl _⟩,⟨zR cK⟩,⟨zWm aU⟩,⟨zk aA⟩,⟨zb⟩⟩
  case round =>
   clear H';(try clear c5);(try clear cP);(try clear c12);(try clear bS);(try clear bR);(try clear bQ);(try clear bP);(try clear bO);(try clear bN);(try clear cA);(try clear bZ);(try clear bY);(try clear bM);(try clear bL);(try clear bK);(try clear bJ);(try clear bI);(try clear bH);(try clear bX);(try clear bW);(try clear bV);obtain⟨aX,aK,rfl,HA,HK1,aN,aM,aA,HB⟩:=hrel
   cases gk with
   |zero=>exact absurd HA.out (by simp[Xf.l0])
   |succ k1 =>
    have H:=HA.out;clear HA;simp only[Xf.l0] at H
    by_cases c21:aX=a2
    ·rw[if_pos c21] at H;have cT:(aX==a2)=true:=beq_iff_eq.mpr c21;have cS:(aX != a2)=false:=bne_eq_false_iff_eq.mpr c21;clear c21;obtain rfl:=zI H;go_wp2
     repeat (go_quiet (fail);try go_wp2)
     go_ret;exact⟨_,zE,zWm aN,zb⟩
    ·rw[if_neg c21] at H;have cT:(aX==a2)=false:=beq_eq_false_iff_ne.mpr c21;have cS:(aX != a2)=true:=bne_iff_ne.mpr c21;obtain⟨aG,dK,H⟩:=zB H;have H':=zA H;clear H;obtain⟨dG,dF,dE,dD,dC,dB⟩:=ze3 aA
     go_wp2_with (first|(go_at_call 105;(refine(X3.calls k1 aI aH _ _ aE aX aG _ (zCb aT) aV.out dK.out).mono ?_);rintro e dR ⟨v198,rfl,ho0,hb⟩;have bT:=zA (Kd.R_lower (Kd.R_new' (Kd.R_new' ho0 (Kd.R_lt (zR aN))) (Kd.R_lt (zR aM))) (below_size zb));replace aN:=zA (Kd.R_elder' (zR aN) (Kd.R_base ho0) hb);replace aM:=zA (Kd.R_elder' (zR aM) (Kd.R_base ho0) hb);replace aA:=zkb aA hb;replace HB:=zbs hb;(try clear hb);(try clear ho0);obtain⟨bG,bF,cC⟩:=Kd.R_slice bT.out;subst cC))
     repeat (go_quiet (first|(go_at_call 105;(refine(X3.calls k1 aI aH _ _ aE aX aG _ (zCb aT) aV.out dK.out).mono ?_);rintro e dR ⟨v198,rfl,ho0,hb⟩;have bT:=zA (Kd.R_lower (Kd.R_new' (Kd.R_new' ho0 (Kd.R_lt (zR aN))) (Kd.R_lt (zR aM))) (below_size zb));replace aN:=zA (Kd.R_elder' (zR aN) (Kd.R_base ho0) hb);replace aM:=zA (Kd.R_elder' (zR aM) (Kd.R_base ho0) hb);replace aA:=zkb aA hb;replace HB:=zbs hb;(try clear hb);(try clear ho0);obtain⟨bG,bF,cC⟩:=Kd.R_slice bT.out;subst cC));try go_wp2_with (first|(go_at_call 105;(refine(X3.calls k1 aI aH _ _ aE aX aG _ (zCb aT) aV.out dK.out).mono ?_);rintro e dR ⟨v198,rfl,ho0,hb⟩;have bT:=zA (Kd.R_lower (Kd.R_new' (Kd.R_new' ho0 (Kd.R_lt (zR aN))) (Kd.R_lt (zR aM))) (below_size zb));replace aN:=zA (Kd.R_elder' (zR aN) (Kd.R_base ho0) hb);replace aM:=zA (Kd.R_elder' (zR aM) (Kd.R_base ho0) hb);replace aA:=zkb aA hb;replace HB:=zbs hb;(try clear hb);(try clear ho0);obtain⟨bG,bF,cC⟩:=Kd.R_slice bT.out;subst cC)))
     go_loopg [1,10] k1 (fun kq v1 v10 w'=>∃ (aW:Int) (aD:Int),v1=.int .i64 aW/\v10=.int .i64 aD/\Aside0 (Xf.l1 kq aW a2 aK aJ aG aD aI aH aE=some r)/\Aside0 (kq<=k1)/\Aside0 (Kd.R (Kd.int .i64) 3 w' w.heap.size (fun k_=>some k_≠(v192:Value).ownBlock/\some k_≠((.slice bG aG.length bF):Value).ownBlock) u7 aK)/\Aside0 (Kd.R (Kd.int .i64) 3 w' w.heap.size (fun k_=>some k_≠(u7:Value).ownBlock/\some k_≠((.slice bG aG.length bF):Value).ownBlock) v192 aJ)/\Aside0 (Kd.R (Kd.int .i64) 3 w' w.heap.size (fun k_=>some k_≠(u7:Value).ownBlock/\some k_≠(v192:Value).ownBlock) (.slice bG aG.length bF) aG)/\Aside0 (w'.heap[bE]?=some (.cells #[aI,aH,(.slice bB aE.length bA)] 37 (0,0)))/\Aside0 (Below w.heap.size w w'))
     case atStart=>exact⟨(aX),(wrap64 ((aG.length:Int)-1)),zr,zr,H',⟨Nat.le_refl _⟩,⟨zR aN⟩,⟨zR aM⟩,⟨zWm bT⟩,⟨zk aA⟩,⟨zb⟩⟩
     case round =>
      clear H';(try clear c5);(try clear cP);(try clear c12);(try clear c21);(try clear cT);(try clear cS);(try clear bS);(try clear bR);(try clear bQ);(try clear bP);(try clear bO);(try clear bN);(try clear dG);(try clear dF);(try clear dE);(try clear cA);(try clear bZ);(try clear bY);(try clear bM);(try clear bL);(try clear bK);(try clear bJ);(try clear bI);(try clear bH);(try clear dD);(try clear dC);(try clear dB);(try clear bX);(try clear bW);(try clear bV);obtain⟨aW,aD,rfl,rfl,HA,HK2,aN,aM,aZ,aA,HB⟩:=hrel
      cases gk with
      |zero=>exact absurd HA.out (by simp[Xf.l1])
      |succ k2 =>
       have H:=HA.out;clear HA;simp only[Xf.l1] at H
       by_cases c26:aD>=0
       ·rw[if_pos c26] at H;have dO:decide (0<=aD)=true:=decide_eq_true c26;clear c26;obtain⟨eX,H⟩:=zifD H;obtain⟨eW,H⟩:=zifD H;obtain⟨eV,H⟩:=zifD H;obtain⟨eU,H⟩:=zifD H;obtain⟨aQ,cG⟩:∃ j_:Int,(wrap64 ((aK.length:Int)-1))=j_:=⟨_,rfl⟩
        replace H:(if 0<=(aQ) then(if (aQ)<(aK.length:Int) then(if 0<=(rd aK (aQ)) then(if (rd aK (aQ))<(aJ.length:Int) then(if (rd aJ (rd aG aD))=(wrap64 ((rd aJ (rd aK (aQ)))-1)) then(Xf.l1 k2 (rd aG aD) a2 aK aJ aG (wrap64 (aD-1)) aI aH aE) else(Xf.l1 k2 aW a2 aK aJ aG (wrap64 (aD-1)) aI aH aE)) else(none)) else(none)) else(none)) else(none))=some r:=by first|(rw[cG] at H;exact H)|(simp only[cG] at H ⊢;exact H)
        have eP:(IntKind.i64.wrap ((aK.length:Int)-1))=aQ:=(i64_w _).trans cG;obtain⟨eT,H⟩:=zifD H;obtain⟨eS,H⟩:=zifD H;obtain⟨eR,H⟩:=zifD H;obtain⟨eQ,H⟩:=zifD H
        by_cases c36:(rd aJ (rd aG aD))=(wrap64 ((rd aJ (rd aK (aQ)))-1))
        ·rw[if_pos c36] at H;have dN:((rd aJ (rd aG aD))==(wrap64 ((rd aJ (rd aK (aQ)))-1)))=true:=beq_iff_eq.mpr c36;have dM:((rd aJ (rd aG aD)) != (wrap64 ((rd aJ (rd aK (aQ)))-1)))=false:=bne_eq_false_iff_eq.mpr c36;clear c36;have H':=zA H;clear H;have eF:=zT (0<=(aD:Int));have eB:=zT (aD<(aG.length:Int));obtain⟨cU,cO,dA⟩:=Kd.at_int (Kd.R_reads' aZ.out).2.2 aD zd zd;cases cO;obtain⟨fH,fD,eJ⟩:=Kd.R_slice aM.out;subst eJ;have eE:=zT (0<=((rd aG aD):Int));have eA:=zT ((rd aG aD)<(aJ.length:Int));obtain⟨cI,cN,cZ⟩:=Kd.at_int (Kd.R_reads' aM.out).2.2 (rd aG aD) zd zd;cases cN;obtain⟨fG,fC,eI⟩:=Kd.R_slice aN.out;subst eI;have eD:=zT (0<=((aQ):Int));have dZ:=zT ((aQ)<(aK.length:Int));obtain⟨dQ,cM,cY⟩:=Kd.at_int (Kd.R_reads' aN.out).2.2 (aQ) zd zd;cases cM;have eC:=zT (0<=((rd aK (aQ)):Int));have dY:=zT ((rd aK (aQ))<(aJ.length:Int));obtain⟨cH,cL,cX⟩:=Kd.at_int (Kd.R_reads' aM.out).2.2 (rd aK (aQ)) zd zd;obtain rfl:cI=cH:=(by injection cL);have eZ:=zT (0<=(aD:Int));have eY:=zT (aD<(aG.length:Int));obtain⟨dP,eK,eL⟩:=Kd.at_int (Kd.R_reads' aZ.out).2.2 aD zd zd;obtain rfl:cU=dP:=(by injection eK);go_wp2
         repeat (go_quiet (fail);try go_wp2)
         go_roundg k2
         case measure=>have:=HK1.out;have:=HK2.out;omega
         case rel=>exact⟨(rd aG aD),(wrap64 (aD-1)),zr,zr,H',⟨by have:=HK1.out;have:=HK2.out;omega⟩,⟨zR aN⟩,⟨zR aM⟩,⟨zR aZ⟩,⟨zk aA⟩,⟨zb⟩⟩
        ·rw[if_neg c36] at H;have dN:((rd aJ (rd aG aD))==(wrap64 ((rd aJ (rd aK (aQ)))-1)))=false:=beq_eq_false_iff_ne.mpr c36;have dM:((rd aJ (rd aG aD)) != (wrap64 ((rd aJ (rd aK (aQ)))-1)))=true:=bne_iff_ne.mpr c36;have H':=zA H;clear H;have eF:=zT (0<=(aD:Int));have eB:=zT (aD<(aG.length:Int));obtain⟨cU,cO,dA⟩:=Kd.at_int (Kd.R_reads' aZ.out).2.2 aD zd zd;cases cO;obtain⟨fF,fB,eH⟩:=Kd.R_slice aM.out;subst eH;have eE:=zT (0<=((rd aG aD):Int));have eA:=zT ((rd aG aD)<(aJ.length:Int));obtain⟨cI,cN,cZ⟩:=Kd.at_int (Kd.R_reads' aM.out).2.2 (rd aG aD) zd zd;cases cN;obtain⟨fE,fA,eG⟩:=Kd.R_slice aN.out;subst eG;have eD:=zT (0<=((aQ):Int));have dZ:=zT ((aQ)<(aK.length:Int));obtain⟨dQ,cM,cY⟩:=Kd.at_int (Kd.R_reads' aN.out).2.2 (aQ) zd zd;cases cM;have eC:=zT (0<=((rd aK (aQ)):Int));have dY:=zT ((rd aK (aQ))<(aJ.length:Int));obtain⟨cH,cL,cX⟩:=Kd.at_int (Kd.R_reads' aM.out).2.2 (rd aK (aQ)) zd zd;obtain rfl:cI=cH:=(by injection cL);go_wp2
         repeat (go_quiet (fail);try go_wp2)
         go_roundg k2
         case measure=>have:=HK1.out;have:=HK2.out;omega
         case rel=>exact⟨(aW),(wrap64 (aD-1)),zr,zr,H',⟨by have:=HK1.out;have:=HK2.out;omega⟩,⟨zR aN⟩,⟨zR aM⟩,⟨zR aZ⟩,⟨zk aA⟩,⟨zb⟩⟩
       ·rw[if_neg c26] at H;have dO:decide (0<=aD)=false:=decide_eq_false c26;clear c26;obtain⟨cV,H⟩:=zifA H;obtain⟨dI,cD⟩:∃ y_:List Int,y_=(aK++[aW]):=⟨_,rfl⟩
        replace H:(Xf.l0 k2 aW a2 dI aJ aI aH aE)=some r:=zY cD H
        have Ny205:=zA cD;clear cD;have H':=zA H;clear H
        go_wp2_with (first|((with_reducible refine gate_builtin (b:=.append) (xs:=#[.tmp 60,.tmp 62]) rfl ?_);at_builtin;refine Kd.R_append (Kd.int .i64) (w0:=w) w.heap.size rfl (.tmp 60) (.tmp 62) 22 3 (.int .i64 0) 8 rfl Try.underlying22 info3 rfl (by decide) (by omega) u7 aK aW [aW] (fun k_=>some k_≠(v192:Value).ownBlock/\some k_≠(.slice bG aG.length bF:Value).ownBlock) (fun _=>False) rfl rfl ?aP (fun _ hk=>hk.elim) ?aF ?aO ?aB ?aS ?aL ?_;(case aP=>exact rfl);(case aB=>exact zb);(case aF=>exact(fun k_ hk=>⟨Kd.fresh' (Kd.R_lt (zR aM)) k_ hk,Kd.fresh' (Kd.R_lt (zR aZ)) k_ hk⟩));(case aO=>exact(zR aN));(case aS=>exact(below_size zb));(case aL=>have:=cV.out;omega);intro v206 eO ho hb hg hat;rw[<-Ny205.out] at ho;replace aM:=zA (Kd.R_after (ok:=(fun k_=>some k_≠(.slice bG aG.length bF:Value).ownBlock)) (zWm aM) hg hat);replace aZ:=zA (Kd.R_after (ok:=(fun k_=>some k_≠(v192:Value).ownBlock)) (zWm aZ) hg hat);replace aA:=zgr aA hg (Kd.R_ne aN.out aA.out (by decide));replace HB:=zA hb;have cW:=zA ho;clear aN;clear ho hb hg hat))
        repeat (go_quiet (fail);try go_wp2_with (first|((with_reducible refine gate_builtin (b:=.append) (xs:=#[.tmp 60,.tmp 62]) rfl ?_);at_builtin;refine Kd.R_append (Kd.int .i64) (w0:=w) w.heap.size rfl (.tmp 60) (.tmp 62) 22 3 (.int .i64 0) 8 rfl Try.underlying22 info3 rfl (by decide) (by omega) u7 aK aW [aW] (fun k_=>some k_≠(v192:Value).ownBlock/\some k_≠(.slice bG aG.length bF:Value).ownBlock) (fun _=>False) rfl rfl ?aP (fun _ hk=>hk.elim) ?aF ?aO ?aB ?aS ?aL ?_;(case aP=>exact rfl);(case aB=>exact zb);(case aF=>exact(fun k_ hk=>⟨Kd.fresh' (Kd.R_lt (zR aM)) k_ hk,Kd.fresh' (Kd.R_lt (zR aZ)) k_ hk⟩));(case aO=>exact(zR aN));(case aS=>exact(below_size zb));(case aL=>have:=cV.out;omega);intro v206 eO ho hb hg hat;rw[<-Ny205.out] at ho;replace aM:=zA (Kd.R_after (ok:=(fun k_=>some k_≠(.slice bG aG.length bF:Value).ownBlock)) (zWm aM) hg hat);replace aZ:=zA (Kd.R_after (ok:=(fun k_=>some k_≠(v192:Value).ownBlock)) (zWm aZ) hg hat);replace aA:=zgr aA hg (Kd.R_ne aN.out aA.out (by decide));replace HB:=zA hb;have cW:=zA ho;clear aN;clear ho hb hg hat)))
        go_roundg k2
        case measure=>have:=HK1.out;have:=HK2.out;omega
        case rel=>exact⟨(aW),(dI),zr,H',⟨by have:=HK1.out;have:=HK2.out;omega⟩,⟨zWm cW⟩,⟨zWm aM⟩,⟨zk aA⟩,⟨zb⟩⟩

def Xw.f (a0_0:Int) (a0_1:Int) (l0_2:List (S117)) (l0_3:List Bool):Option (Int × Int × (List (S117)) × List Bool):=(some (([]:List (S117)):List (S117))).bind fun y210=>(if y210.length+l0_2.length<4398046511104 then((some (([]:List Bool):List Bool)).bind fun y216=>(if y216.length+l0_3.length<140737488355328 then(some (a0_0,a0_1,(y210++l0_2),(y216++l0_3))) else(none))) else(none))
def Xw.T1:Bool × List (List Nat × List Nat):=(true,[([],[]),([0],[0]),([],[]),([2],[2]),([],[]),([],[]),([5],[5]),([4,6],[4,6]),([],[]),([],[]),([9],[9]),([8,10,7],[8,10]),([1,3,7,11],[1,3,7,11]),([12,11,0,1,2,3,4,5,6,7,8,9,10,11,12],[12])])
def Xw.B1:List Nat:=[0,1,0,4,0,0,32,112,0,0,512,2032,4095,8191]
theorem Xw.tab1:rtab .any (opsOf Try.f77 1)=Xw.T1:=by kernel_rfl
theorem Xw.bits1:waitsOk Xw.T1.2 Xw.B1=true:=by kernel_rfl
theorem Xw.calls (aQ:Int) (aN:Int) (aY:Option Addr) (aW:Nat) (aK:List (S117)) (aX:Option Addr) (aV:Nat) (aI:List Bool) (r1:Int) (r2:Int) (r3:List (S117)) (r4:List Bool) (w:World) (bK:Kd.C k117 w aY aK.length aK) (bM:aK.length<=aW) (bJ:Kd.C Kd.bool w aX aI.length aI) (bL:aI.length<=aV) (h:Xw.f aQ aN aK aI=some (r1,r2,r3,r4)) :
  Calls Try.prog 77 #[.agg #[aQ,aN,.slice aY aK.length aW,.slice aX aI.length aV]] w fun e w'=>∃ v2_ v3_:Value,e=.returned (.agg #[r1,r2,v2_,v3_])/\Kd.R k117 117 w' w.heap.size (fun _=>True) v2_ r3/\Kd.R Kd.bool 4 w' w.heap.size (fun _=>True) v3_ r4/\Below w.heap.size w w':=by
 have hu42:=Try.underlying42;have bG:=zA bK;have cR:=zA bM;clear bK bM;have bR:=zA bJ;have cQ:=zA bL;clear bJ bL;have HB:=zA (Below.refl w.heap.size w);have H:=h;clear h;unfold Xw.f at H;obtain⟨bB,bF⟩:∃ y_:List (S117),y_=(([]:List (S117))):=⟨_,rfl⟩
 replace H:(if bB.length+aK.length<4398046511104 then((some (([]:List Bool):List Bool)).bind fun aT=>(if aT.length+aI.length<140737488355328 then(some (aQ,aN,(bB++aK),(aT++aI))) else(none))) else(none))=some (r1,r2,r3,r4):=zY bF H
 have Ny210:=zA bF;clear bF;obtain⟨bH,H⟩:=zifA H;obtain⟨bA,bE⟩:∃ y_:List (S117),y_=(bB++aK):=⟨_,rfl⟩
 replace H:((some (([]:List Bool):List Bool)).bind fun aT=>(if aT.length+aI.length<140737488355328 then(some (aQ,aN,bA,(aT++aI))) else(none)))=some (r1,r2,r3,r4):=zY bE H
 have Ny213:=zA bE;clear bE;obtain⟨aT,bD⟩:∃ y_:List Bool,y_=(([]:List Bool)):=⟨_,rfl⟩
 replace H:(if aT.length+aI.length<140737488355328 then(some (aQ,aN,bA,(aT++aI))) else(none))=some (r1,r2,r3,r4):=zY bD H
 have Ny216:=zA bD;clear bD;obtain⟨bZ,H⟩:=zifA H;obtain⟨bO,bC⟩:∃ y_:List Bool,y_=(aT++aI):=⟨_,rfl⟩
 replace H:(some (aQ,aN,bA,bO))=some (r1,r2,r3,r4):=zY bC H
 have Ny219:=zA bC;clear bC;simp only[Option.some.injEq,Prod.mk.injEq] at H;obtain⟨rfl,rfl,rfl,rfl⟩:=H;go_enter Try.func77,Try.ntmps77
 try go_wp2_with (first|((with_reducible refine zgd 1 rfl ?_);refine zbx 1 #[aQ,aN,.slice aY aK.length aW,.slice aX aI.length aV] 42 ?_;intro aJ hg w4 b' hb;have aA:=zA b';have cT:=zga (w:=w) hg;replace HB:=zbs hb;clear hb b' hg)|((with_reducible refine zgd 2 rfl ?_);refine zbx 2 #[.int .i64 0,.int .i64 0,.slice none 0 0,.slice none 0 0] 42 ?_;intro aE hg w5 b' hb;have aC:=zA b';have cS:=zga (w:=w) hg;replace HB:=zbs hb;replace aA:=zlh aA hg hb;obtain⟨aD,aU,aA⟩:=aA;clear hb b' hg))
 replace aA:=zA (blk_drew aA.out);replace aC:=zA (blk_drew aC.out);replace HB:=zA (below_drew1 HB.out);refine start_ (n:=14) (S:=fun w'=>w'.cell? ⟨aJ,0,none⟩=some (.int .i64 aQ)/\w'.cell? ⟨aJ,1,none⟩=some (.int .i64 aN)/\w'.cell? ⟨aJ,2,none⟩=some (.slice aY aK.length aW)/\w'.cell? ⟨aJ,3,none⟩=some (.slice aX aI.length aV)) (ds:=[]) _ (by kernel_rfl) rfl rfl ⟨zq aA 0,zq aA 1,zq aA 2,zq aA 3⟩ (fun h'=>?_);refine with_tabW Xw.tab1 Xw.bits1 (fun T_ W_=>?_);generalize w5.drew=w6 at aA aC HB h' ⊢;refine zp 0 3 T_ ?_;refine zp 2 5 T_ ?_;refine zp 5 8 T_ ?_;refine zp 9 12 T_ ?_;refine zt 1 4 T_ W_ h' ?_;refine zt 3 6 T_ W_ h' ?_;refine zt 6 9 T_ W_ h' ?_;refine zt 10 13 T_ W_ h' ?_;refine join_ (σ:=Value × Value × Value) 3 #[true,true,true,true,true,true,true,true,true,true,true,false,false,false] (fun s_=>[(7,s_.1),(10,s_.2.1),(11,s_.2.2)]) (fun s_ w'=>(w'.cell? ⟨aJ,0,none⟩=some (.int .i64 aQ)/\w'.cell? ⟨aJ,1,none⟩=some (.int .i64 aN)/\w'.cell? ⟨aJ,2,none⟩=some (.slice aY aK.length aW)/\w'.cell? ⟨aJ,3,none⟩=some (.slice aX aI.length aV))/\(Kd.R k117 117 w' w.heap.size (fun _=>True) s_.2.1 bA)/\(Kd.R Kd.bool 4 w' w.heap.size (fun _=>True) s_.2.2 aT)/\(w'.heap[aJ]?=some (.cells #[aQ,aN,.slice aY aK.length aW,.slice aX aI.length aV] 42 (0,0)))/\(w'.heap[aE]?=some (.cells #[.int .i64 0,.int .i64 0,.slice none 0 0,.slice none 0 0] 42 (0,0)))/\(Below w.heap.size w w')) ?_ ?_;rotate_left
 ·intro hCont;refine two_ (i:=4) (j:=8) (Ni:=some 7) (Nj:=some 11) #[true,true,true,true,true,true,true,false,false,true,true,false,false,false] #[true,true,true,true,false,true,true,false,true,true,true,false,false,false] rfl rfl rfl rfl (two_of T_.out (by kernel_rfl)) (by decide) (by decide) (fun K hK=>?_) (fun K hK=>?_)
  ·skip
   refine Kd.R_lit_step k117 _ 117 ?hg (N:=7) ?hd (xs:=([]:List (S117))) (inner:=[]) (ok:=fun _=>True) (okp:=fun _=>True) ?hr ?hp (fun _ hk=>hk) trivial (Below.refl _ _) (Nat.le_refl _) (by simp) ?_;(case hd=>rfl);(case hg=>rfl);(case hr=>first|(go_simp;done)|(go_simp;rfl));(case hp=>exact(Reps.none _ _));intro v211 w7 ho8 hb hg_ hnew_;clear hg_ hnew_;(first|rw[<-Ny210.out] at ho8|(simp only[Int.reduceToNat] at ho8;rw[<-Ny210.out] at ho8));have aH:=zA (Kd.R_lower ho8 (below_size zb));replace aA:=zkb aA hb;replace aC:=zkb aC hb;replace HB:=zbs hb;clear hb ho8;refine hK.out _ _ ⟨zq aA 0,zq aA 1,zq aA 2,zq aA 3⟩ (fun h'=>?_);clear hK K;refine norm_ zV ?_;refine two_ (i:=7) (j:=8) (Ni:=some 10) (Nj:=some 11) #[true,true,true,true,true,true,true,true,false,true,true,false,false,false] #[true,true,true,true,true,true,true,false,true,true,true,false,false,false] rfl rfl rfl rfl (two_of T_.out (by kernel_rfl)) (by decide) (by decide) (fun K hK=>?_) (fun K hK=>?_)
   ·skip
    refine Kd.R_append_rows_step k117 (w0:=w) w.heap.size (by rfl) (.tmp 7) (.tmp 9) 40 117 (.agg #[(.int .i64 0),(.int .i64 0),(.int .i64 0),(.bool false)]) 32 rfl Try.underlying40 info117 rfl (by decide) (by omega) v211 bB aK _ _ _ (fun _=>True) (fun _=>False) rfl rfl ?aO ?aR (fun _ _ h=>h) (fun _ h=>h.elim) ?aF ?aB ?aS ?aL ?_;(case aR=>repeat (first|exact(Kd.C_below bG.out HB.out)|(with_reducible refine Kd.C_alloc ?_ _)|(with_reducible refine Kd.C_drewN ?_ _)|(with_reducible refine Kd.C_drew ?_)));(case aB=>exact zb);(case aF=>exact(fun _ _=>trivial));(case aO=>exact(zR aH));(case aS=>exact(below_size zb));(case aL=>have:=bH.out;omega);intro v214 w9 ho hb hg hat;rw[<-Ny213.out] at ho;replace aA:=zgr aA hg (Kd.R_ne aH.out aA.out (by decide));replace aC:=zgr aC hg (Kd.R_ne aH.out aC.out (by decide));replace HB:=zA hb;have aM:=zA ho;clear aH;clear ho hb hg hat;refine hK.out _ _ ⟨zq aA 0,zq aA 1,zq aA 2,zq aA 3⟩ (fun h'=>?_);clear hK K;refine norm_ zV ?_;refine zo 8 11 T_ (fun K hK=>?_);refine Kd.R_lit_step Kd.bool _ 4 ?hg (N:=11) ?hd (xs:=([]:List Bool)) (inner:=[]) (ok:=fun _=>True) (okp:=fun _=>True) ?hr ?hp (fun _ hk=>hk) trivial (Below.refl _ _) (Nat.le_refl _) (by simp) ?_;(case hd=>rfl);(case hg=>rfl);(case hr=>first|(go_simp;done)|(go_simp;rfl));(case hp=>exact(Reps.none _ _));intro v217 dA ho11 hb hg_ hnew_;clear hg_ hnew_;(first|rw[<-Ny216.out] at ho11|(simp only[Int.reduceToNat] at ho11;rw[<-Ny216.out] at ho11));replace aM:=zRb aM hb;have aG:=zA (Kd.R_lower ho11 (below_size zb));replace aA:=zkb aA hb;replace aC:=zkb aC hb;replace HB:=zbs hb;clear hb ho11;refine hK.out _ _ ⟨zq aA 0,zq aA 1,zq aA 2,zq aA 3⟩ (fun h'=>?_);clear hK K;refine norm_ (a':=?_) ?_ ?_;rotate_left
    ·show Act.put _ (some 11) _=_
     simp only[Act.put,z1,z2,z3,i64_w,i32_w];rfl
    exact norm_ (by simp only[putAll,Act.put,z1,z2,z3]) (hCont (v211,v214,v217) _ ⟨h',(zR aM),(zR aG),(zk aA),(zk aC),zb⟩)
   ·skip
    refine Kd.R_lit_step Kd.bool _ 4 ?hg (N:=11) ?hd (xs:=([]:List Bool)) (inner:=[]) (ok:=fun _=>True) (okp:=fun _=>True) ?hr ?hp (fun _ hk=>hk) trivial (Below.refl _ _) (Nat.le_refl _) (by simp) ?_;(case hd=>rfl);(case hg=>rfl);(case hr=>first|(go_simp;done)|(go_simp;rfl));(case hp=>exact(Reps.none _ _));intro v217 w9 ho10 hb hg_ hnew_;clear hg_ hnew_;(first|rw[<-Ny216.out] at ho10|(simp only[Int.reduceToNat] at ho10;rw[<-Ny216.out] at ho10));replace aH:=zRb aH hb;have aG:=zA (Kd.R_lower ho10 (below_size zb));replace aA:=zkb aA hb;replace aC:=zkb aC hb;replace HB:=zbs hb;clear hb ho10;refine hK.out _ _ ⟨zq aA 0,zq aA 1,zq aA 2,zq aA 3⟩ (fun h'=>?_);clear hK K;refine norm_ zV ?_;refine zo 7 10 T_ (fun K hK=>?_);refine Kd.R_append_rows_step k117 (w0:=w) w.heap.size (by rfl) (.tmp 7) (.tmp 9) 40 117 (.agg #[(.int .i64 0),(.int .i64 0),(.int .i64 0),(.bool false)]) 32 rfl Try.underlying40 info117 rfl (by decide) (by omega) v211 bB aK _ _ _ (fun _=>True) (fun _=>False) rfl rfl ?aO ?aR (fun _ _ h=>h) (fun _ h=>h.elim) ?aF ?aB ?aS ?aL ?_;(case aR=>repeat (first|exact(Kd.C_below bG.out HB.out)|(with_reducible refine Kd.C_alloc ?_ _)|(with_reducible refine Kd.C_drewN ?_ _)|(with_reducible refine Kd.C_drew ?_)));(case aB=>exact zb);(case aF=>exact(fun _ _=>trivial));(case aO=>exact(zR aH));(case aS=>exact(below_size zb));(case aL=>have:=bH.out;omega);intro v214 cL ho hb hg hat;rw[<-Ny213.out] at ho;replace aA:=zgr aA hg (Kd.R_ne aH.out aA.out (by decide));replace aC:=zgr aC hg (Kd.R_ne aH.out aC.out (by decide));replace aG:=zA (Kd.R_over' (zR aG) (Kd.R_typed (zR aH)) (by decide) hg);replace HB:=zA hb;have aM:=zA ho;clear aH;clear ho hb hg hat;refine hK.out _ _ ⟨zq aA 0,zq aA 1,zq aA 2,zq aA 3⟩ (fun h'=>?_);clear hK K;refine norm_ (a':=?_) ?_ ?_;rotate_left
    ·show Act.put _ (some 10) _=_
     simp only[Act.put,z1,z2,z3,i64_w,i32_w];rfl
    exact norm_ (by simp only[putAll,Act.put,z1,z2,z3]) (hCont (v211,v214,v217) _ ⟨h',(zR aM),(zR aG),(zk aA),(zk aC),zb⟩)
  ·skip
   refine Kd.R_lit_step Kd.bool _ 4 ?hg (N:=11) ?hd (xs:=([]:List Bool)) (inner:=[]) (ok:=fun _=>True) (okp:=fun _=>True) ?hr ?hp (fun _ hk=>hk) trivial (Below.refl _ _) (Nat.le_refl _) (by simp) ?_;(case hd=>rfl);(case hg=>rfl);(case hr=>first|(go_simp;done)|(go_simp;rfl));(case hp=>exact(Reps.none _ _));intro v217 w7 ho8 hb hg_ hnew_;clear hg_ hnew_;(first|rw[<-Ny216.out] at ho8|(simp only[Int.reduceToNat] at ho8;rw[<-Ny216.out] at ho8));have aG:=zA (Kd.R_lower ho8 (below_size zb));replace aA:=zkb aA hb;replace aC:=zkb aC hb;replace HB:=zbs hb;clear hb ho8;refine hK.out _ _ ⟨zq aA 0,zq aA 1,zq aA 2,zq aA 3⟩ (fun h'=>?_);clear hK K;refine norm_ zV ?_;refine zo 4 7 T_ (fun K hK=>?_);refine Kd.R_lit_step k117 _ 117 ?hg (N:=7) ?hd (xs:=([]:List (S117))) (inner:=[]) (ok:=fun _=>True) (okp:=fun _=>True) ?hr ?hp (fun _ hk=>hk) trivial (Below.refl _ _) (Nat.le_refl _) (by simp) ?_;(case hd=>rfl);(case hg=>rfl);(case hr=>first|(go_simp;done)|(go_simp;rfl));(case hp=>exact(Reps.none _ _));intro v211 w9 ho10 hb hg_ hnew_;clear hg_ hnew_;(first|rw[<-Ny210.out] at ho10|(simp only[Int.reduceToNat] at ho10;rw[<-Ny210.out] at ho10));replace aG:=zRb aG hb;have aH:=zA (Kd.R_lower ho10 (below_size zb));replace aA:=zkb aA hb;replace aC:=zkb aC hb;replace HB:=zbs hb;clear hb ho10;refine hK.out _ _ ⟨zq aA 0,zq aA 1,zq aA 2,zq aA 3⟩ (fun h'=>?_);clear hK K;refine norm_ zV ?_;refine zo 7 10 T_ (fun K hK=>?_);refine Kd.R_append_rows_step k117 (w0:=w) w.heap.size (by rfl) (.tmp 7) (.tmp 9) 40 117 (.agg #[(.int .i64 0),(.int .i64 0),(.int .i64 0),(.bool false)]) 32 rfl Try.underlying40 info117 rfl (by decide) (by omega) v211 bB aK _ _ _ (fun _=>True) (fun _=>False) rfl rfl ?aO ?aR (fun _ _ h=>h) (fun _ h=>h.elim) ?aF ?aB ?aS ?aL ?_;(case aR=>repeat (first|exact(Kd.C_below bG.out HB.out)|(with_reducible refine Kd.C_alloc ?_ _)|(with_reducible refine Kd.C_drewN ?_ _)|(with_reducible refine Kd.C_drew ?_)));(case aB=>exact zb);(case aF=>exact(fun _ _=>trivial));(case aO=>exact(zR aH));(case aS=>exact(below_size zb));(case aL=>have:=bH.out;omega);intro v214 cL ho hb hg hat;rw[<-Ny213.out] at ho;replace aA:=zgr aA hg (Kd.R_ne aH.out aA.out (by decide));replace aC:=zgr aC hg (Kd.R_ne aH.out aC.out (by decide));replace aG:=zA (Kd.R_over' (zR aG) (Kd.R_typed (zR aH)) (by decide) hg);replace HB:=zA hb;have aM:=zA ho;clear aH;clear ho hb hg hat;refine hK.out _ _ ⟨zq aA 0,zq aA 1,zq aA 2,zq aA 3⟩ (fun h'=>?_);clear hK K;refine norm_ (a':=?_) ?_ ?_;rotate_left
   ·show Act.put _ (some 10) _=_
    simp only[Act.put,z1,z2,z3,i64_w,i32_w];rfl
   exact norm_ (by simp only[putAll,Act.put,z1,z2,z3]) (hCont (v211,v214,v217) _ ⟨h',(zR aM),(zR aG),(zk aA),(zk aC),zb⟩)
 rintro⟨v211,v214,v217⟩ aZ ⟨hS_,h0_,h1_,h2_,h3_,h4_⟩;have bW:Aside0 (Kd.R k117 117 aZ w.heap.size (fun _=>True) v214 bA):=⟨h0_⟩;have bV:Aside0 (Kd.R Kd.bool 4 aZ w.heap.size (fun _=>True) v217 aT):=⟨h1_⟩;have bU:Aside0 (aZ.heap[aJ]?=some (.cells #[aQ,aN,.slice aY aK.length aW,.slice aX aI.length aV] 42 (0,0))):=⟨h2_⟩;have bT:Aside0 (aZ.heap[aE]?=some (.cells #[.int .i64 0,.int .i64 0,.slice none 0 0,.slice none 0 0] 42 (0,0))):=⟨h3_⟩;have bS:Aside0 (Below w.heap.size w aZ):=⟨h4_⟩;clear aA;clear aC;clear HB;clear h0_ h1_ h2_ h3_ h4_;have aM:=bW;have aG:=bV;have aA:=bU;have aC:=bT;have HB:=bS;clear bW bV bU bT bS;have h':aZ.cell? ⟨aJ,0,none⟩=some (.int .i64 aQ)/\aZ.cell? ⟨aJ,1,none⟩=some (.int .i64 aN)/\aZ.cell? ⟨aJ,2,none⟩=some (.slice aY aK.length aW)/\aZ.cell? ⟨aJ,3,none⟩=some (.slice aX aI.length aV):=hS_;refine norm_ (a':=?_) ?_ ?_;rotate_left
 ·simp only[putAll,Act.put,z1,z2,z3];rfl
 refine zo 11 14 T_ (fun K hK=>?_);refine Kd.R_append_rows_step Kd.bool (w0:=w) w.heap.size (by rfl) (.tmp 11) (.tmp 13) 29 4 (.bool false) 1 rfl Try.underlying29 info4 rfl (by decide) (by omega) v217 aT aI _ _ _ (fun _=>True) (fun _=>False) rfl rfl ?aO ?aR (fun _ _ h=>h) (fun _ h=>h.elim) ?aF ?aB ?aS ?aL ?_;(case aR=>repeat (first|exact(Kd.C_below bR.out HB.out)|(with_reducible refine Kd.C_alloc ?_ _)|(with_reducible refine Kd.C_drewN ?_ _)|(with_reducible refine Kd.C_drew ?_)));(case aB=>exact zb);(case aF=>exact(fun _ _=>trivial));(case aO=>exact(zR aG));(case aS=>exact(below_size zb));(case aL=>have:=bZ.out;omega);intro v220 bI ho hb hg hat;rw[<-Ny219.out] at ho;replace aA:=zgr aA hg (Kd.R_ne aG.out aA.out (by decide));replace aC:=zgr aC hg (Kd.R_ne aG.out aC.out (by decide));replace aM:=zA (Kd.R_over' (zR aM) (Kd.R_typed (zR aG)) (by decide) hg);replace HB:=zA hb;have bN:=zA ho;clear aG;clear ho hb hg hat;obtain⟨cB,bY,bQ⟩:=Kd.R_slice bN.out;(first|subst bQ|(injection bQ with f1_ f2_ f3_;have f4_:=f1_.symm;have f5_:=f3_.symm;clear f1_ f2_ f3_;subst f4_;subst f5_));obtain⟨cA,bX,bP⟩:=Kd.R_slice aM.out;(first|subst bP|(injection bP with f1_ f2_ f3_;have f4_:=f1_.symm;have f5_:=f3_.symm;clear f1_ f2_ f3_;subst f4_;subst f5_));refine hK.out _ _ ⟨zq aA 0,zq aA 1,zq aA 2,zq aA 3⟩ (fun h'=>?_);clear hK K;refine norm_ zV ?_;refine zp 12 15 T_ ?_;refine zon 13 T_ (fun K hK=>?_);have cZ:bI.cell? ⟨aE,0,none⟩=some (.int .i64 0):=zq aC 0;have cP:=blk_frozen aC.out 0;have cF:=aD.out;have cJ:=aU.out;have cY:bI.cell? ⟨aE,1,none⟩=some (.int .i64 0):=zq aC 1;have cO:=blk_frozen aC.out 1;have cE:=aD.out;have cI:=aU.out;have cX:bI.cell? ⟨aE,2,none⟩=some (.slice none 0 0):=zq aC 2;have cN:=blk_frozen aC.out 2;have cD:=aD.out;have cH:=aU.out;have cW:bI.cell? ⟨aE,3,none⟩=some (.slice none 0 0):=zq aC 3;have cM:=blk_frozen aC.out 3;have cC:=aD.out;have cG:=aU.out;refine skip_ (w1:=?_) (by rfl) rfl ?_ ?_;rotate_left
 ·go_simp
  rfl
 refine hK.out _ _ ⟨((cell_far (p:=⟨aE,_,none⟩) aD.out _).trans (((cell_far (p:=⟨aE,_,none⟩) aD.out _).trans (((cell_far (p:=⟨aE,_,none⟩) aD.out _).trans (((cell_far (p:=⟨aE,_,none⟩) aD.out _).trans (h'.1)))))))),((cell_far (p:=⟨aE,_,none⟩) aD.out _).trans (((cell_far (p:=⟨aE,_,none⟩) aD.out _).trans (((cell_far (p:=⟨aE,_,none⟩) aD.out _).trans (((cell_far (p:=⟨aE,_,none⟩) aD.out _).trans (h'.2.1)))))))),((cell_far (p:=⟨aE,_,none⟩) aD.out _).trans (((cell_far (p:=⟨aE,_,none⟩) aD.out _).trans (((cell_far (p:=⟨aE,_,none⟩) aD.out _).trans (((cell_far (p:=⟨aE,_,none⟩) aD.out _).trans (h'.2.2.1)))))))),((cell_far (p:=⟨aE,_,none⟩) aD.out _).trans (((cell_far (p:=⟨aE,_,none⟩) aD.out _).trans (((cell_far (p:=⟨aE,_,none⟩) aD.out _).trans (((cell_far (p:=⟨aE,_,none⟩) aD.out _).trans (h'.2.2.2))))))))⟩ (fun h'=>?_);clear hK K;refine done_ (done_of T_.out (by kernel_rfl)) ?_
 try go_wp2
 refine bodyPost_ret (results_cell_row rfl _ _ aE 42 #[aQ,aN,.slice cA bA.length bX,.slice cB bO.length bY] (0,0) _ rfl (zkp aC) Try.underlying42 rfl (by kernel_rfl)) rfl ?_;exact⟨_,_,zE,zF1 aM aC,zF1 bN aC,zb⟩
end Go.Proofs.Yteiepphhkikmoaa.Q
