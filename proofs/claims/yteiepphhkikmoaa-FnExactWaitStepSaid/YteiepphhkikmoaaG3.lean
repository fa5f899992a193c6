/- Walks of 16 functions of the program: each comes to what a plain function tells. -/
import Derived.Test.YteiepphhkikmoaaG0
import Derived.Test.YteiepphhkikmoaaG2
namespace Go.Proofs.Yteiepphhkikmoaa.Q
open Go.RowKit Go.Proofs.YteiepphhkikmoaaW.PrintWords Go.Proofs.YteiepphhkikmoaaW.PrintLast Go.Proofs.YteiepphhkikmoaaW.PrintMore Go.Proofs.YteiepphhkikmoaaW.Zip
attribute [local go_sem] max2_int min2_int max_two min_two max_three min_three max_four min_four   -- for this text's walks alone
set_option linter.unusedVariables false
set_option maxHeartbeats 8000000
set_option maxRecDepth 100000
set_option linter.unusedSimpArgs false

def XK.l0:Nat->List Bool->List Bool->Int->Option (List Bool)
  |0,_,_,_=>none
  |k+1,x0,x3,x4=>if x4<(x0.length:Int) then(if 0<=x4 then(if x4<(x3.length:Int) then(XK.l0 k x0 (x3.set (x4:Int).toNat (rdOf false x0 x4)) (wrap64 (x4+1))) else(none)) else(none)) else(some x3)
def XK.f (k:Nat) (l0:List Bool):Option (List Bool):=if 0<=(l0.length:Int) then(if ((l0.length:Int):Int).toNat<=281474976710656 then(XK.l0 k l0 (List.replicate ((l0.length:Int):Int).toNat false) 0) else(none)) else(none)
theorem XK.calls (k:Nat) (A0:Option Addr) (c0:Nat) (l0:List Bool) (r:List Bool) (w:World) (aV:Kd.C Kd.bool w A0 l0.length l0) (aW:l0.length<=c0) (h:XK.f k l0=some r) :
  Calls Try.prog 67 #[.slice A0 l0.length c0] w fun e w'=>∃ v0_:Value,e=.returned (v0_)/\Kd.R Kd.bool 4 w' w.heap.size (fun _=>True) v0_ r/\Below w.heap.size w w':=by
 have bJ:=zA aV;have bP:=zA aW;clear aV aW;have HB:=zA (Below.refl w.heap.size w);have H:=h;clear h;unfold XK.f at H;obtain⟨c2,H⟩:=zif H;have bG:=eq_true c2;have bF:=decide_eq_true c2;clear c2;obtain⟨c3,H⟩:=zif H;have bE:=eq_true c3;have bD:=decide_eq_true c3;clear c3;obtain⟨aN,aI⟩:∃ y_:List Bool,y_=(List.replicate ((l0.length:Int):Int).toNat false):=⟨_,rfl⟩
 replace H:(XK.l0 k l0 aN 0)=some r:=zY aI H
 have Ny378:=zA aI;clear aI;have H':=zA H;clear H;go_enter Try.func67,Try.ntmps67
 go_wp2_with (first|((with_reducible refine zgd 7 rfl ?_);refine Kd.R_make Kd.bool _ 4 rfl (N:=7) rfl 29 _ _ rfl (l0.length:Int) rfl rfl Try.underlying29 (.bool false) 1 info4 rfl (by decide) (by omega) false (ok:=fun _=>True) (okp:=fun _=>True) rfl (fun _ hk=>hk) trivial zd (Nat.le_trans (Nat.mul_le_mul_right _ (zd:(l0.length:Int).toNat<=281474976710656)) (by omega)) (Below.refl _ _) (Nat.le_refl _) ?_;intro v379 w4 ho5 hb hg_ hnew_;clear hg_ hnew_;(first|rw[<-Ny378.out] at ho5|(simp only[Int.reduceToNat] at ho5;rw[<-Ny378.out] at ho5));have aU:=zA (Kd.R_lower ho5 (below_size zb));replace HB:=zbs hb;clear hb ho5))
 go_loopg [4] k (fun kq v4 w'=>∃ (aD:List Bool) (aA:Int),v4=.int .i64 aA/\Aside0 (XK.l0 kq l0 aD aA=some r)/\Aside0 (kq<=k)/\Aside0 (Kd.R Kd.bool 4 w' w.heap.size (fun _=>True) v379 aD)/\Aside0 (Below w.heap.size w w'))
 case atStart=>exact⟨(aN),(0),zr,H',⟨Nat.le_refl _⟩,⟨zR aU⟩,⟨zb⟩⟩
 case round =>
  clear H';(try clear c2);(try clear bG);(try clear bF);(try clear c3);(try clear bE);(try clear bD);obtain⟨aD,aA,rfl,HA,HK1,aE,HB⟩:=hrel
  cases gk with
  |zero=>exact absurd HA.out (by simp[XK.l0])
  |succ k1 =>
   have H:=HA.out;clear HA;simp only[XK.l0] at H
   by_cases c6:aA<(l0.length:Int)
   ·rw[if_pos c6] at H;have bC:=decide_eq_true c6;clear c6;obtain⟨bO,H⟩:=zifD H;obtain⟨bN,H⟩:=zifD H;obtain⟨aJ,aH⟩:∃ y_:List Bool,y_=(aD.set (aA:Int).toNat (rdOf false l0 aA)):=⟨_,rfl⟩
    replace H:(XK.l0 k1 l0 aJ (wrap64 (aA+1)))=some r:=zY aH H
    have Ny382:=zA aH;clear aH;have H':=zA H;clear H;have aM:0<=(aA:Int):=zd;have aK:aA<(l0.length:Int):=zd;obtain⟨bM,bB,aG⟩:=Kd.at_bool bJ.out aA aM aK;cases bB;replace aG:=zC HB aG;replace aM:=eq_true aM;replace aK:=eq_true aK;have p9:0<=(aA:Int):=zd;have q9:(aA:Int)<((aD.length:Int):Int):=zd;obtain⟨go9,bH,aY,aX,gl9,cl9,HG9⟩:=Kd.R_form aE.out (by omega);(first|cases aY|(injection aY with ea_ en_ ec_;(first|subst ea_|(injection ea_ with ea_;subst ea_));subst ec_;clear en_));have GB9:=zA aX;have GG9:=zA HG9;clear aX gl9 HG9;obtain⟨bL,hf9_0⟩:=Kd.R_celln false aE.out (aA:Int) p9 q9;replace p9:=eq_true p9;replace q9:=eq_true q9;have HP10:=Kd.R_putg aE.out (aA:Int) (rdOf false l0 aA)
    go_wp2_with (first|((with_reducible refine gate_store (t:=4) (p:=20) rfl ?_);refine store_event (t:=4) (p:=20) (v:=?vo_w11) (w1:=(wr.setCell ⟨go9,(aA:Int).toNat,none⟩ (.bool (rdOf false l0 aA)))) ?hg ?ho ?hn ?hr ?_;(case ho=>rfl);(case hg=>rfl);(case hn=>rfl);(case hr=>first|(go_simp;done)|(go_simp;rfl));intro aQ hw;have hg:wr.grownBy aQ (some go9):=(by rw[hw];exact HP10.2);have hp_:Kd.R Kd.bool 4 aQ w.heap.size (fun _=>True) (.slice (some ⟨go9,0,none⟩) aD.length bH) aJ:=(by rw[hw,Ny382.out];exact HP10.1);clear HP10;replace aE:=zA hp_;replace HB:=zA ((by rw[hw];exact below_set (HB.out) GB9.out:Below w.heap.size w aQ));clear hg hw hp_))
    go_roundg k1
    case measure=>have:=HK1.out;omega
    case rel=>exact⟨(aJ),(wrap64 (aA+1)),zr,H',⟨by have:=HK1.out;omega⟩,⟨zR aE⟩,⟨zb⟩⟩
   ·rw[if_neg c6] at H;have bC:=decide_eq_false c6;clear c6;obtain rfl:=zI H;go_wp2;go_ret;exact⟨_,zE,zR aE,zb⟩

def XW.f (k:Nat) (a0_0:Int) (a0_1:Int) (l0_2:List (S119)) (l0_3:List Bool):Option (Int × Int × (List (S117)) × List Bool):=(XJ.f k l0_2).bind fun t386=>((XK.f k l0_3).bind fun t389=>(some (a0_0,a0_1,t386,t389)))
theorem XW.calls (k:Nat) (aI:Int) (aH:Int) (aQ:Option Addr) (aM:Nat) (aG:List (S119)) (aN:Option Addr) (aK:Nat) (aE:List Bool) (r1:Int) (r2:Int) (r3:List (S117)) (r4:List Bool) (w:World) (bA:Kd.C k119 w aQ aG.length aG) (bC:aG.length<=aM) (aZ:Kd.C Kd.bool w aN aE.length aE) (bB:aE.length<=aK) (h:XW.f k aI aH aG aE=some (r1,r2,r3,r4)) :
  Calls Try.prog 25 #[.agg #[aI,aH,.slice aQ aG.length aM,.slice aN aE.length aK]] w fun e w'=>∃ v2_ v3_:Value,e=.returned (.agg #[r1,r2,v2_,v3_])/\Kd.R k117 117 w' w.heap.size (fun _=>True) v2_ r3/\Kd.R Kd.bool 4 w' w.heap.size (fun _=>True) v3_ r4/\Below w.heap.size w w':=by
 have hu31:=Try.underlying31;have hu42:=Try.underlying42;have bK:=zA bA;have bM:=zA bC;clear bA bC;have bJ:=zA aZ;have bL:=zA bB;clear aZ bB;have HB:=zA (Below.refl w.heap.size w);have H:=h;clear h;unfold XW.f at H;obtain⟨aY,A2,H⟩:=zB H;obtain⟨bF,A3,H⟩:=zB H;simp only[Option.some.injEq,Prod.mk.injEq] at H;obtain⟨rfl,rfl,rfl,rfl⟩:=H;go_enter Try.func25,Try.ntmps25
 go_wp2_with (first|((with_reducible refine zgd 1 rfl ?_);refine zbx 1 #[aI,aH,.slice aQ aG.length aM,.slice aN aE.length aK] 31 ?_;intro dP hg w4 b' hb;have aA:=zA b';have dS:=zga (w:=w) hg;replace HB:=zbs hb;clear hb b' hg)|((with_reducible refine zgd 2 rfl ?_);refine zbx 2 #[.int .i64 0,.int .i64 0,.slice none 0 0,.slice none 0 0] 42 ?_;intro bI hg w5 b' hb;have aC:=zA b';have dR:=zga (w:=w) hg;replace HB:=zbs hb;replace aA:=zlh aA hg hb;obtain⟨aX,aV,aA⟩:=aA;clear hb b' hg)|((with_reducible refine zgd 3 rfl ?_);refine zbx 3 #[.int .i64 0,.int .i64 0,.slice none 0 0,.slice none 0 0] 42 ?_;intro bD hg w6 b' hb;have aD:=zA b';have dQ:=zga (w:=w) hg;replace HB:=zbs hb;replace aA:=zlh aA hg hb;obtain⟨aW,aT,aA⟩:=aA;replace aC:=zlh aC hg hb;obtain⟨aU,aR,aC⟩:=aC;clear hb b' hg;have dW:=aX.out;have dU:=aV.out;have dV:=aW.out;have dT:=aT.out;obtain⟨dM,dL,dK,dJ,dI,dH,dG,dF⟩:=ze4 aA;have dO:=aR.out;have dN:=aU.out;obtain⟨dE,dD,dC,dB,cK,cJ,cI,cH⟩:=ze4 aD)|((with_reducible refine zgf 66 rfl ?_);refine zgl 12 Try.func66 #[.slice aQ aG.length aM] ?_;(refine(XJ.calls k _ _ aG aY _ (Kd.C_below bK.out zb) bM.out A2.out).mono ?_);rintro e eA ⟨v387,rfl,ho0,hb⟩;refine⟨_,rfl,?_⟩;have aJ:=zA (Kd.R_lower ho0 (below_size zb));replace aA:=zbf aA hb;replace aC:=zbf aC hb;replace aD:=zA (blk_below (g:=bD) (o:=.cells #[aI,aH,.slice none 0 0,.slice none 0 0] 42 (0,0)) (zkp aD) hb);replace HB:=zbs hb;(try clear hb);(try clear ho0);obtain⟨bH,bG,bO⟩:=Kd.R_slice aJ.out;subst bO;obtain⟨dA,cZ,cY,cX,cG,cF,cE,cD⟩:=ze4 aD;obtain⟨cW,cV,cU,cT,cC,cB,cA,bZ⟩:=ze4 aA)|((with_reducible refine zgf 67 rfl ?_);refine zgl 16 Try.func67 #[.slice aN aE.length aK] ?_;(refine(XK.calls k _ _ aE bF _ (Kd.C_below bJ.out zb) bL.out A3.out).mono ?_);rintro e dZ ⟨v390,rfl,ho0,hb⟩;refine⟨_,rfl,?_⟩;replace aJ:=zA (Kd.R_below (zF1 aJ aD) hb);have bE:=zA (Kd.R_lower ho0 (below_size zb));replace aA:=zbf aA hb;replace aC:=zbf aC hb;replace aD:=zA (blk_below (g:=bD) (o:=.cells #[aI,aH,.slice bH aY.length bG,.slice none 0 0] 42 (0,0)) (zkp aD) hb);replace HB:=zbs hb;(try clear hb);(try clear ho0);obtain⟨bQ,bP,bN⟩:=Kd.R_slice bE.out;subst bN;obtain⟨cS,cR,cQ,cP,bY,bX,bW,bV⟩:=ze4 aD;obtain⟨cO,cN,cM,cL,bU,bT,bS,bR⟩:=ze4 aC))
 refine bodyPost_ret (results_cell_row rfl _ _ bI 42 #[aI,aH,.slice bH aY.length bG,.slice bQ bF.length bP] (0,0) _ rfl (zkp aC) Try.underlying42 rfl (by kernel_rfl)) rfl ?_;exact⟨_,_,zE,zF2 aJ aD aC,zF2 bE aD aC,zb⟩

def X0.f (a0:Int) (a1:Int) (a2:Int):Option (Bool):=if a1<=a0 then(some (decide (a0<=a2))) else(some false)
theorem X0.calls (a0:Int) (a1:Int) (a2:Int) (r:Bool) (w:World) (h:X0.f a0 a1 a2=some r) :
  Calls Try.prog 95 #[a0,a1,a2] w fun e w'=>e=.returned (.bool r)/\Drawn0 w w':=by
 have H:=h;clear h;unfold X0.f at H
 by_cases c4:a1<=a0
 ·rw[if_pos c4] at H;have aA:=decide_eq_true c4;clear c4;obtain rfl:=zI H;go_enter Try.func95,Try.ntmps95;go_wp2;go_ret;exact⟨by first|rfl|(simp;done)|(simp[*];done),zDr⟩
 ·rw[if_neg c4] at H;have aA:=decide_eq_false c4;clear c4;obtain rfl:=zI H;go_enter Try.func95,Try.ntmps95;go_wp2;go_ret;exact⟨by first|rfl|(simp;done)|(simp[*];done),zDr⟩

def XR.l0:Nat->Int->Int->List Int->Int->Int->Option (Bool)
  |0,_,_,_,_,_=>none
  |k+1,x1,x2,x9,x10,x11=>if x11<x10 then(if 0<=x11 then(if x11<(x9.length:Int) then((X0.f (rd x9 x11) x1 x2).bind fun t429=>(if t429=true then(XR.l0 k x1 x2 x9 x10 (wrap64 (x11+1))) else(some false))) else(none)) else(none)) else(some true)
def XR.f (k:Nat) (l0:List Int) (a1:Int) (a2:Int):Option (Bool):=XR.l0 k a1 a2 l0 (l0.length:Int) 0
theorem XR.calls (k:Nat) (A0:Option Addr) (c0:Nat) (l0:List Int) (a1:Int) (a2:Int) (r:Bool) (w:World) (aK:Kd.C (Kd.int .i64) w A0 l0.length l0) (aM:l0.length<=c0) (h:XR.f k l0 a1 a2=some r) :
  Calls Try.prog 151 #[.slice A0 l0.length c0,a1,a2] w fun e w'=>e=.returned (.bool r)/\Drawn0 w w':=by
 have aN:=zA aK;have bA:=zA aM;clear aK aM;have H:=h;clear h;unfold XR.f at H;have H':=zA H;clear H;go_enter Try.func151,Try.ntmps151;go_wp2
 go_loopg [11] k (fun kq v11 w'=>∃ (aA:Int),v11=.int .i64 aA/\Aside0 (XR.l0 kq a1 a2 l0 (l0.length:Int) aA=some r)/\Aside0 (kq<=k)/\Drawn0 w w')
 case atStart=>exact⟨(0),zr,H',⟨Nat.le_refl _⟩,zDr⟩
 case round =>
  clear H';obtain⟨aA,rfl,HA,HK1,⟨m1,rfl⟩⟩:=hrel
  cases gk with
  |zero=>exact absurd HA.out (by simp[XR.l0])
  |succ k1 =>
   have H:=HA.out;clear HA;simp only[XR.l0] at H
   by_cases c4:aA<(l0.length:Int)
   ·rw[if_pos c4] at H;have aU:=decide_eq_true c4;clear c4;obtain⟨aZ,H⟩:=zifD H;obtain⟨aY,H⟩:=zifD H;obtain⟨aQ,A7,H⟩:=zB H
    by_cases c8:aQ=true
    ·subst c8;rw[if_pos rfl] at H;have H':=zA H;clear H;have aT:=zT (0<=(aA:Int));have aR:=zT (aA<(l0.length:Int));obtain⟨aJ,aD,aH⟩:=Kd.at_int aN.out aA zd zd;cases aD
     go_wp2_with (first|((with_reducible refine zgf 95 rfl ?_);refine zgl 18 Try.func95 #[.int .i64 (rd l0 aA),a1,a2] ?_;(refine(X0.calls (rd l0 aA) a1 a2 true _ A7.out).mono ?_);rintro e w' ⟨rfl,⟨nd,rfl⟩⟩;refine⟨_,rfl,?_⟩))
     go_roundg k1
     case measure=>have:=HK1.out;omega
     case rel=>exact⟨(wrap64 (aA+1)),zr,H',⟨by have:=HK1.out;omega⟩,zDr⟩
    ·replace c8:=zbq c8;subst c8;rw[if_neg zNo] at H;obtain rfl:=zI H;have aT:=zT (0<=(aA:Int));have aR:=zT (aA<(l0.length:Int));obtain⟨aJ,aD,aH⟩:=Kd.at_int aN.out aA zd zd;cases aD
     go_wp2_with (first|((with_reducible refine zgf 95 rfl ?_);refine zgl 18 Try.func95 #[.int .i64 (rd l0 aA),a1,a2] ?_;(refine(X0.calls (rd l0 aA) a1 a2 false _ A7.out).mono ?_);rintro e w' ⟨rfl,⟨nd,rfl⟩⟩;refine⟨_,rfl,?_⟩))
     go_ret;exact⟨by first|rfl|(simp;done)|(simp[*];done),zDr⟩
   ·rw[if_neg c4] at H;have aU:=decide_eq_false c4;clear c4;obtain rfl:=zI H;go_wp2;go_ret;exact⟨by first|rfl|(simp;done)|(simp[*];done),zDr⟩

def Xz.f (k:Nat) (a0_0:Int) (a0_1:Int) (l0_2:List Int):Option (Bool):=(X0.f a0_0 1 8).bind fun t431=>(if t431=true then((X0.f a0_1 1 8).bind fun t432=>(if t432=true then(if (l0_2.length:Int)=(wrap64 (a0_0 * a0_1)) then((XR.f k l0_2 0 2).bind fun t433=>(some t433)) else(some false)) else(some false))) else(some false))
theorem Xz.calls (k:Nat) (aA:Int) (aD:Int) (aH:Option Addr) (aG:Nat) (aC:List Int) (r:Bool) (w:World) (aK:Kd.C (Kd.int .i64) w aH aC.length aC) (aM:aC.length<=aG) (h:Xz.f k aA aD aC=some r) :
  Calls Try.prog 141 #[.agg #[aA,aD,.slice aH aC.length aG]] w fun e w'=>e=.returned (.bool r)/\Below w.heap.size w w':=by
 have hu37:=Try.underlying37;have aR:=zA aK;have aT:=zA aM;clear aK aM;have HB:=zA (Below.refl w.heap.size w);have H:=h;clear h;unfold Xz.f at H;obtain⟨aX,A2,H⟩:=zB H
 by_cases c3:aX=true
 ·subst c3;rw[if_pos rfl] at H;obtain⟨aW,A4,H⟩:=zB H
  by_cases c5:aW=true
  ·subst c5;rw[if_pos rfl] at H
   by_cases c6:(aC.length:Int)=(wrap64 (aA * aD))
   ·rw[if_pos c6] at H;have aZ:((aC.length:Int)==(wrap64 (aA * aD)))=true:=beq_iff_eq.mpr c6;have aY:((aC.length:Int) != (wrap64 (aA * aD)))=false:=bne_eq_false_iff_eq.mpr c6;clear c6;obtain⟨aV,A7,H⟩:=zB H;obtain rfl:=zI H;go_enter Try.func141,Try.ntmps141
    go_wp2_with (first|((with_reducible refine zgd 1 rfl ?_);(try (refine gate_guard (by rfl) ?_;dsimp only));refine zbx 1 #[aA,aD,.slice aH aC.length aG] 37 ?_;intro aI hg w8 b' hb;have aE:=zA b';have aJ:=zga (w:=w) hg;replace HB:=zbs hb;clear hb b' hg;obtain⟨bY,bX,bW,bV,bU,bT⟩:=ze3 aE)|((with_reducible refine zgf 95 rfl ?_);refine zgl 5 Try.func95 #[aA,.int .i64 1,.int .i64 8] ?_;(refine(X0.calls aA 1 8 true _ A2.out).mono ?_);rintro e w' ⟨rfl,⟨nd,rfl⟩⟩;refine⟨_,rfl,?_⟩)|(go_at_call 95;(refine(X0.calls aD 1 8 true _ A4.out).mono ?_);rintro e w' ⟨rfl,⟨nd,rfl⟩⟩)|(go_at_call 151;(refine(XR.calls k _ _ aC 0 2 aV _ (zCb aR) aT.out A7.out).mono ?_);rintro e w' ⟨rfl,⟨nd,rfl⟩⟩))
    go_ret;exact⟨zE,zb⟩
   ·rw[if_neg c6] at H;have aZ:((aC.length:Int)==(wrap64 (aA * aD)))=false:=beq_eq_false_iff_ne.mpr c6;have aY:((aC.length:Int) != (wrap64 (aA * aD)))=true:=bne_iff_ne.mpr c6;obtain rfl:=zI H;go_enter Try.func141,Try.ntmps141
    go_wp2_with (first|((with_reducible refine zgd 1 rfl ?_);(try (refine gate_guard (by rfl) ?_;dsimp only));refine zbx 1 #[aA,aD,.slice aH aC.length aG] 37 ?_;intro aI hg cC b' hb;have aE:=zA b';have aJ:=zga (w:=w) hg;replace HB:=zbs hb;clear hb b' hg;obtain⟨bS,bR,bQ,bJ,bI,bH⟩:=ze3 aE)|((with_reducible refine zgf 95 rfl ?_);refine zgl 5 Try.func95 #[aA,.int .i64 1,.int .i64 8] ?_;(refine(X0.calls aA 1 8 true _ A2.out).mono ?_);rintro e w' ⟨rfl,⟨nd,rfl⟩⟩;refine⟨_,rfl,?_⟩)|(go_at_call 95;(refine(X0.calls aD 1 8 true _ A4.out).mono ?_);rintro e w' ⟨rfl,⟨nd,rfl⟩⟩))
    go_ret;exact⟨zE,zb⟩
  ·replace c5:=zbq c5;subst c5;rw[if_neg zNo] at H;obtain rfl:=zI H;go_enter Try.func141,Try.ntmps141
   go_wp2_with (first|((with_reducible refine zgd 1 rfl ?_);(try (refine gate_guard (by rfl) ?_;dsimp only));refine zbx 1 #[aA,aD,.slice aH aC.length aG] 37 ?_;intro aI hg cB b' hb;have aE:=zA b';have aJ:=zga (w:=w) hg;replace HB:=zbs hb;clear hb b' hg;obtain⟨bP,bO,bN,bG,bF,bE⟩:=ze3 aE)|((with_reducible refine zgf 95 rfl ?_);refine zgl 5 Try.func95 #[aA,.int .i64 1,.int .i64 8] ?_;(refine(X0.calls aA 1 8 true _ A2.out).mono ?_);rintro e w' ⟨rfl,⟨nd,rfl⟩⟩;refine⟨_,rfl,?_⟩)|(go_at_call 95;(refine(X0.calls aD 1 8 false _ A4.out).mono ?_);rintro e w' ⟨rfl,⟨nd,rfl⟩⟩))
   go_ret;exact⟨zE,zb⟩
 ·replace c3:=zbq c3;subst c3;rw[if_neg zNo] at H;obtain rfl:=zI H;go_enter Try.func141,Try.ntmps141
  go_wp2_with (first|((with_reducible refine zgd 1 rfl ?_);(try (refine gate_guard (by rfl) ?_;dsimp only));refine zbx 1 #[aA,aD,.slice aH aC.length aG] 37 ?_;intro aI hg cA b' hb;have aE:=zA b';have aJ:=zga (w:=w) hg;replace HB:=zbs hb;clear hb b' hg;obtain⟨bM,bL,bK,bD,bC,bB⟩:=ze3 aE)|((with_reducible refine zgf 95 rfl ?_);refine zgl 5 Try.func95 #[aA,.int .i64 1,.int .i64 8] ?_;(refine(X0.calls aA 1 8 false _ A2.out).mono ?_);rintro e w' ⟨rfl,⟨nd,rfl⟩⟩;refine⟨_,rfl,?_⟩))
  go_ret;exact⟨zE,zb⟩

def XF.f (k:Nat) (a0_0:Int) (a0_1:Int) (l0_2:List Int) (a1:Int):Option (Bool):=(Xz.f k a0_0 a0_1 l0_2).bind fun t435=>(if t435=true then((X0.f a1 0 (wrap64 ((l0_2.length:Int)-1))).bind fun t436=>(some t436)) else(some false))
theorem XF.calls (k:Nat) (aE:Int) (aD:Int) (aH:Option Addr) (aG:Nat) (aA:List Int) (a1:Int) (r:Bool) (w:World) (aI:Kd.C (Kd.int .i64) w aH aA.length aA) (aJ:aA.length<=aG) (h:XF.f k aE aD aA a1=some r) :
  Calls Try.prog 108 #[.agg #[aE,aD,.slice aH aA.length aG],a1] w fun e w'=>e=.returned (.bool r)/\Below w.heap.size w w':=by
 have hu37:=Try.underlying37;have aK:=zA aI;have aM:=zA aJ;clear aI aJ;have HB:=zA (Below.refl w.heap.size w);have H:=h;clear h;unfold XF.f at H;obtain⟨aU,A3,H⟩:=zB H
 by_cases c4:aU=true
 ·subst c4;rw[if_pos rfl] at H;obtain⟨aT,A5,H⟩:=zB H;obtain rfl:=zI H;go_enter Try.func108,Try.ntmps108
  go_wp2_with (first|((with_reducible refine zgd 2 rfl ?_);(try (refine gate_guard (by rfl) ?_;dsimp only));refine zbx 2 #[aE,aD,.slice aH aA.length aG] 37 ?_;intro aN hg w6 b' hb;have aC:=zA b';have aR:=zga (w:=w) hg;replace HB:=zbs hb;clear hb b' hg;obtain⟨bN,bM,bL,bH,bG,bF⟩:=ze3 aC)|((with_reducible refine zgf 141 rfl ?_);refine zgl 6 Try.func141 #[.agg #[aE,aD,.slice aH aA.length aG]] ?_;(refine(Xz.calls k aE aD _ _ aA true _ (zCb aK) aM.out A3.out).mono ?_);rintro e w8 ⟨rfl,hb⟩;refine⟨_,rfl,?_⟩;replace aC:=zkb aC hb;replace HB:=zbs hb;(try clear hb);obtain⟨bK,bJ,bI,bE,bD,bC⟩:=ze3 aC)|(go_at_call 95;(refine(X0.calls a1 0 (wrap64 ((aA.length:Int)-1)) aT _ A5.out).mono ?_);rintro e w' ⟨rfl,⟨nd,rfl⟩⟩))
  go_ret;exact⟨zE,zb⟩
 ·replace c4:=zbq c4;subst c4;rw[if_neg zNo] at H;obtain rfl:=zI H;go_enter Try.func108,Try.ntmps108
  go_wp2_with (first|((with_reducible refine zgd 2 rfl ?_);(try (refine gate_guard (by rfl) ?_;dsimp only));refine zbx 2 #[aE,aD,.slice aH aA.length aG] 37 ?_;intro aN hg bR b' hb;have aC:=zA b';have aR:=zga (w:=w) hg;replace HB:=zbs hb;clear hb b' hg;obtain⟨bB,bA,aZ,aY,aX,aW⟩:=ze3 aC)|((with_reducible refine zgf 141 rfl ?_);refine zgl 6 Try.func141 #[.agg #[aE,aD,.slice aH aA.length aG]] ?_;(refine(Xz.calls k aE aD _ _ aA false _ (zCb aK) aM.out A3.out).mono ?_);rintro e bQ ⟨rfl,hb⟩;refine⟨_,rfl,?_⟩;replace aC:=zkb aC hb;replace HB:=zbs hb;(try clear hb)))
  go_ret;exact⟨zE,zb⟩

def Xg.f (k:Nat) (a0_0:Int) (a0_1:Int) (l0_2:List Int) (a1:Int):Option (Bool):=(XF.f k a0_0 a0_1 l0_2 a1).bind fun t438=>(if t438=true then(if 0<=a1 then(if a1<(l0_2.length:Int) then(some ((rd l0_2 a1) != 2)) else(none)) else(none)) else(some false))
theorem Xg.calls (k:Nat) (aE:Int) (aD:Int) (aH:Option Addr) (aG:Nat) (aA:List Int) (a1:Int) (r:Bool) (w:World) (aM:Kd.C (Kd.int .i64) w aH aA.length aA) (aN:aA.length<=aG) (h:Xg.f k aE aD aA a1=some r) :
  Calls Try.prog 109 #[.agg #[aE,aD,.slice aH aA.length aG],a1] w fun e w'=>e=.returned (.bool r)/\Below w.heap.size w w':=by
 have hu37:=Try.underlying37;have aK:=zA aM;have aQ:=zA aN;clear aM aN;have HB:=zA (Below.refl w.heap.size w);have H:=h;clear h;unfold Xg.f at H;obtain⟨aV,A3,H⟩:=zB H
 by_cases c4:aV=true
 ·subst c4;rw[if_pos rfl] at H;obtain⟨bU,H⟩:=zifD H;obtain⟨bT,H⟩:=zifD H;obtain rfl:=zI H;go_enter Try.func109,Try.ntmps109
  go_wp2_with (first|((with_reducible refine zgd 2 rfl ?_);refine zbx 2 #[aE,aD,.slice aH aA.length aG] 37 ?_;intro aR hg w7 b' hb;have aC:=zA b';have aU:=zga (w:=w) hg;replace HB:=zbs hb;clear hb b' hg;obtain⟨bO,bN,bM,bL,bK,bJ⟩:=ze3 aC)|((with_reducible refine zgf 108 rfl ?_);refine zgl 7 Try.func108 #[.agg #[aE,aD,.slice aH aA.length aG],a1] ?_;(refine(XF.calls k aE aD _ _ aA a1 true _ (zCb aK) aQ.out A3.out).mono ?_);rintro e w9 ⟨rfl,hb⟩;refine⟨_,rfl,?_⟩;replace aC:=zkb aC hb;replace HB:=zbs hb;(try clear hb);obtain⟨bI,bH,bG,bC,bB,bA⟩:=ze3 aC;have bS:=zT (0<=(a1:Int));have bR:=zT (a1<(aA.length:Int));obtain⟨bQ,aW,aI⟩:=Kd.at_int aK.out a1 zd zd;cases aW;replace aI:=zC HB aI))
  go_ret;exact⟨zE,zb⟩
 ·replace c4:=zbq c4;subst c4;rw[if_neg zNo] at H;obtain rfl:=zI H;go_enter Try.func109,Try.ntmps109
  go_wp2_with (first|((with_reducible refine zgd 2 rfl ?_);refine zbx 2 #[aE,aD,.slice aH aA.length aG] 37 ?_;intro aR hg bW b' hb;have aC:=zA b';have aU:=zga (w:=w) hg;replace HB:=zbs hb;clear hb b' hg;obtain⟨bF,bE,bD,aZ,aY,aX⟩:=ze3 aC)|((with_reducible refine zgf 108 rfl ?_);refine zgl 7 Try.func108 #[.agg #[aE,aD,.slice aH aA.length aG],a1] ?_;(refine(XF.calls k aE aD _ _ aA a1 false _ (zCb aK) aQ.out A3.out).mono ?_);rintro e bV ⟨rfl,hb⟩;refine⟨_,rfl,?_⟩;replace aC:=zkb aC hb;replace HB:=zbs hb;(try clear hb)))
  go_ret;exact⟨zE,zb⟩

def X1j.f (a0:Int):Option (Int):=some (mx a0 (wrap64 (-a0)))
theorem X1j.calls (a0:Int) (r:Int) (w:World) (h:X1j.f a0=some r) :
  Calls Try.prog 142 #[a0] w fun e w'=>e=.returned (.int .i64 r)/\Below w.heap.size w w':=by
 have HB:=zA (Below.refl w.heap.size w);have H:=h;clear h;unfold X1j.f at H;obtain⟨aD,aA⟩:∃ j_:Int,(mx a0 (wrap64 (-a0)))=j_:=⟨_,rfl⟩
 replace H:(some aD)=some r:=by first|(rw[aA] at H;exact H)|(simp only[aA] at H ⊢;exact H)
 have aE:(if a0<(wrap64 (-a0)) then(wrap64 (-a0)) else a0)=aD:=aA;obtain rfl:=zI H;go_enter Try.func142,Try.ntmps142;go_wp2;go_ret;exact⟨by first|rfl|(simp[errW_none,errW_some] <;> rfl)|(simp only[<-aA];first|rfl|(simp[errW_none,errW_some] <;> rfl))|(simp[*,errW_none,errW_some] <;> rfl),zb⟩

def Xp.j0:Nat->Int->Int->Bool->Int->Int->List Int->Option (Int)
  |0,_,_,_,_,_,_=>none
  |k+1,x1,x2,x16,x441000,x441001,x441002=>if x16=true then(some (-1)) else(if x441000=0 then(none) else((X1j.f (wrap64 ((Int.tmod x1 x441000)-(Int.tmod x2 x441000)))).bind fun t443=>((X1j.f (wrap64 ((wrap64 (Int.tdiv x1 x441000))-(wrap64 (Int.tdiv x2 x441000))))).bind fun t444=>(some (wrap64 (t443+t444))))))
def Xp.f (k:Nat) (a0_0:Int) (a0_1:Int) (l0_2:List Int) (a1:Int) (a2:Int):Option (Int):=(XF.f k a0_0 a0_1 l0_2 a1).bind fun t441=>(if t441=true then((XF.f k a0_0 a0_1 l0_2 a2).bind fun t442=>(Xp.j0 k a1 a2 (!t442) a0_0 a0_1 l0_2)) else(Xp.j0 k a1 a2 true a0_0 a0_1 l0_2))
def Xp.T3:Bool × List (List Nat × List Nat):=(true,[([],[]),([],[]),([1],[1]),([0,2],[0,2]),([],[]),([],[]),([5],[5]),([4,6],[4,6]),([3,7],[3,7]),([8],[8]),([],[]),([],[]),([11],[11]),([10,12],[10,12]),([],[]),([],[]),([15],[15]),([14,16],[14,16]),([13,17],[13,17]),([18,9],[18]),([9,19],[9,19]),([20,19,0,1,2,3,4,5,6,7,8,9,10,11,12,13,14,15,16,17,18,19,20],[20])])
def Xp.B3:List Nat:=[0,0,2,7,0,0,32,112,255,511,0,0,2048,7168,0,0,32768,114688,261120,524287,1048575,2097151]
theorem Xp.tab3:rtab .any (opsOf Try.f110 3)=Xp.T3:=by kernel_rfl
theorem Xp.bits3:waitsOk Xp.T3.2 Xp.B3=true:=by kernel_rfl
theorem Xp.calls (k:Nat) (aC:Int) (aE:Int) (aH:Option Addr) (aG:Nat) (aD:List Int) (a1:Int) (a2:Int) (r:Int) (w:World) (aR:Kd.C (Kd.int .i64) w aH aD.length aD) (aT:aD.length<=aG) (h:Xp.f k aC aE aD a1 a2=some r) :
  Calls Try.prog 110 #[.agg #[aC,aE,.slice aH aD.length aG],a1,a2] w fun e w'=>e=.returned (.int .i64 r)/\Below w.heap.size w w':=by
 have hu37:=Try.underlying37;have aM:=zA aR;have aN:=zA aT;clear aR aT;have HB:=zA (Below.refl w.heap.size w);have H:=h;clear h;unfold Xp.f at H;have bP:=zA H;clear H;go_enter Try.func110,Try.ntmps110
 go_upto_region 1 with (first|((with_reducible refine zgd 3 rfl ?_);refine zbx 3 #[aC,aE,.slice aH aD.length aG] 37 ?_;intro aJ hg w5 b' hb;have aA:=zA b';have bY:=zga (w:=w) hg;replace HB:=zbs hb;clear hb b' hg))
 (try simp only[Act.put,z1,z2,z3])
 go_cut [16] (fun v16 wc=>∃ (kq:Nat) (aI:Bool),v16=.bool aI/\Aside0 (Xp.j0 kq a1 a2 aI aC aE aD=some r)/\Aside0 (kq<=k)/\Aside0 (wc.heap[aJ]?=some (.cells #[aC,aE,(.slice aH aD.length aG)] 37 (0,0)))/\Aside0 (Below w.heap.size w wc))
 case first =>
  have H:=bP.out;clear bP;obtain⟨bS,A6,H⟩:=zB H
  by_cases c7:bS=true
  ·subst c7;rw[if_pos rfl] at H;obtain⟨bH,A8,H⟩:=zB H;have H':=zA H;clear H;obtain⟨bN,bM,bL,bK,bJ,bI⟩:=ze3 aA
   go_wp2_with (first|((with_reducible refine zgf 108 rfl ?_);refine zgl 9 Try.func108 #[.agg #[aC,aE,.slice aH aD.length aG],a1] ?_;(refine(XF.calls k aC aE _ _ aD a1 true _ (zCb aM) aN.out A6.out).mono ?_);rintro e cF ⟨rfl,hb⟩;refine⟨_,rfl,?_⟩;replace aA:=zkb aA hb;replace HB:=zbs hb;(try clear hb);obtain⟨bG,bF,bE,bA,aZ,aY⟩:=ze3 aA)|(go_at_call 108;(refine(XF.calls k aC aE _ _ aD a2 bH _ (zCb aM) aN.out A8.out).mono ?_);rintro e cE ⟨rfl,hb⟩;replace aA:=zkb aA hb;replace HB:=zbs hb;(try clear hb)))
   go_meet
   case rel=>exact⟨_,(!bH),zr,H',⟨by first|omega|exact Nat.le_refl _⟩,⟨zk aA⟩,⟨zb⟩⟩
  ·replace c7:=zbq c7;subst c7;rw[if_neg zNo] at H;have H':=zA H;clear H;obtain⟨bD,bC,bB,aX,aW,aV⟩:=ze3 aA
   go_wp2_with (first|((with_reducible refine zgf 108 rfl ?_);refine zgl 9 Try.func108 #[.agg #[aC,aE,.slice aH aD.length aG],a1] ?_;(refine(XF.calls k aC aE _ _ aD a1 false _ (zCb aM) aN.out A6.out).mono ?_);rintro e cD ⟨rfl,hb⟩;refine⟨_,rfl,?_⟩;replace aA:=zkb aA hb;replace HB:=zbs hb;(try clear hb)))
   go_meet
   case rel=>exact⟨_,(true),zr,H',⟨by first|omega|exact Nat.le_refl _⟩,⟨zk aA⟩,⟨zb⟩⟩
 case rest =>
  clear bP;(try clear c7);(try clear bG);(try clear bF);(try clear bE);(try clear bD);(try clear bC);(try clear bB);(try clear bN);(try clear bM);(try clear bL);(try clear bA);(try clear aZ);(try clear aY);(try clear aX);(try clear aW);(try clear aV);(try clear bK);(try clear bJ);(try clear bI);obtain⟨kq,aI,rfl,HA,HJ3,aA,HB⟩:=hcut;cases kq with
  |zero=>exact absurd HA.out (by simp[Xp.j0])
  |succ kj3 =>
   have H:=HA.out;clear HA;simp only[Xp.j0] at H
   by_cases aU:aI=true
   ·subst aU;rw[if_pos rfl] at H;obtain rfl:=zI H;go_wp2;go_ret;exact⟨zE,zb⟩
   ·replace aU:=zbq aU;subst aU;rw[if_neg zNo] at H
    by_cases c16:aC=0
    ·rw[if_pos c16] at H;exact absurd H (by simp)
    ·rw[if_neg c16] at H;have bX:(aC==0)=false:=beq_eq_false_iff_ne.mpr c16;have bW:(aC != 0)=true:=bne_iff_ne.mpr c16;obtain⟨bR,bV,H⟩:=zB H;obtain⟨bQ,bU,H⟩:=zB H;obtain rfl:=zI H
     try go_wp2
     replace aA:=zA (blk_drew aA.out);replace HB:=zA (below_drew1 HB.out);refine start_ (n:=22) (S:=fun w'=>w'.cell? ⟨aJ,0,none⟩=some (.int .i64 aC)/\w'.cell? ⟨aJ,1,none⟩=some (.int .i64 aE)/\w'.cell? ⟨aJ,2,none⟩=some (.slice aH aD.length aG)) (ds:=[]) _ (by kernel_rfl) rfl rfl ⟨zq aA 0,zq aA 1,zq aA 2⟩ (fun h'=>?_);refine with_tabW Xp.tab3 Xp.bits3 (fun T_ W_=>?_);generalize wc.drew=cC at aA HB h' ⊢;refine zp 0 17 T_ ?_;refine zp 1 18 T_ ?_;refine zp 4 21 T_ ?_;refine zp 5 22 T_ ?_;refine zp 10 27 T_ ?_;refine zp 11 28 T_ ?_;refine zp 14 31 T_ ?_;refine zp 15 32 T_ ?_;refine zt 2 19 T_ W_ h' ?_;refine zp 3 20 T_ ?_;refine zt 6 23 T_ W_ h' ?_;refine zp 7 24 T_ ?_;refine zp 8 25 T_ ?_;refine zt 12 29 T_ W_ h' ?_;refine zp 13 30 T_ ?_;refine zt 16 33 T_ W_ h' ?_;refine zp 17 34 T_ ?_;refine zp 18 35 T_ ?_;refine zo 9 26 T_ (fun K hK=>?_);refine zgo Try.func142 #[.int .i64 (wrap64 ((Int.tmod a1 aC)-(Int.tmod a2 aC)))] ?_
     refine(X1j.calls (wrap64 ((Int.tmod a1 aC)-(Int.tmod a2 aC))) bR _ bV.out).mono ?_
     rintro e cB ⟨rfl,hb⟩;refine⟨_,rfl,?_⟩;replace aA:=zkb aA hb;replace HB:=zbs hb;(try clear hb);refine hK.out _ _ ⟨zq aA 0,zq aA 1,zq aA 2⟩ (fun h'=>?_);clear hK K;refine norm_ zV ?_;refine zo 19 36 T_ (fun K hK=>?_);refine zgo Try.func142 #[.int .i64 (wrap64 ((wrap64 (Int.tdiv a1 aC))-(wrap64 (Int.tdiv a2 aC))))] ?_
     refine(X1j.calls (wrap64 ((wrap64 (Int.tdiv a1 aC))-(wrap64 (Int.tdiv a2 aC)))) bQ _ bU.out).mono ?_
     rintro e cA ⟨rfl,hb⟩;refine⟨_,rfl,?_⟩;replace aA:=zkb aA hb;replace HB:=zbs hb;(try clear hb);refine hK.out _ _ ⟨zq aA 0,zq aA 1,zq aA 2⟩ (fun h'=>?_);clear hK K;refine norm_ zV ?_;refine zp 20 37 T_ ?_;refine zp 21 6 T_ ?_;refine done_ (done_of T_.out (by kernel_rfl)) ?_
     try go_wp2
     go_ret;exact⟨zE,zb⟩

/-! #### clear within a row of the call's own; a slice of a row, read in the row itself -/
def rs (x0 x4:List Int) (i:Int):Int:=rd x0 ((x0.length:Int)-(x4.length:Int)+i)
theorem rs_cell {w:World} {e base n c m L:Nat} {ok:Nat->Prop} {ad:Addr} {A:Option Addr} {x0 y:List Int} (HO:Kd.R (Kd.int .i64) e w base ok (.slice (some ad) n c) x0)
  (hA:A=if c=m then some ad else((some ad):Option Addr).map (·.add (m * 1))) (hy:y.length=L-m) (hL:L=x0.length) (hm:m<=L) (i:Int) (h0:0<=i) (hi:i<(y.length:Int)) :
  ∃ ad',A=some ad'/\w.cell? (ad'.add i.toNat)=some (.int .i64 (rs x0 y i)):=by
 obtain⟨hn,hc,hC⟩:=Kd.R_reads' HO
 obtain⟨ad2,e2,hx⟩:=Kd.at_int hC ((m:Int)+i) (by omega) (by omega)
 injection e2 with e2
 subst e2
 refine⟨ad.add m,?_,?_⟩
 ·rw[hA,if_neg (by omega)];simp
 ·rw[Addr.add_add,show m+i.toNat=((m:Int)+i).toNat by omega,hx]
  unfold rs
  rw[show (x0.length:Int)-(y.length:Int)+i=(m:Int)+i by omega]
def putAllC:Nat->List Int->List Int->List Int
  |_,[],y=>y
  |o,v :: r,y=>putAllC (o+1) r (y.set o v)
theorem putAllC_eq:∀ (vs:List Int) (o:Nat) (y:List Int),o+vs.length<=y.length->putAllC o vs y=y.take o++vs++y.drop (o+vs.length)
  |[],o,y,h=>by simp[putAllC]
  |v :: r,o,y,h=>by
    simp only[List.length_cons] at h
    rw[putAllC,putAllC_eq r (o+1) (y.set o v) (by simp;omega)]
    rw[List.take_set,List.drop_set]
    have h1:o<y.length:=by omega
    rw[if_pos (by omega),List.take_succ_eq_append_getElem h1,List.length_cons,show o+1+r.length=o+(r.length+1) by omega]
    congr 1
    rw[List.set_append_right _ _ (by simp;omega)]
    simp[Nat.min_eq_left (Nat.le_of_lt h1)]
theorem setCells_R {e base g n cap:Nat} {ok:Nat->Prop}:∀ (vs:List Int) (o:Nat) (W:World) (xs:List Int),(Kd.int .i64).R e W base ok (.slice (some ⟨g,0,none⟩) n cap) xs ->
    (Kd.int .i64).R e (W.setCells g o (vs.map (Value.int .i64))) base ok (.slice (some ⟨g,0,none⟩) n cap) (putAllC o vs xs)/\W.grownBy (W.setCells g o (vs.map (Value.int .i64))) (some g)
  |[],o,W,xs,h=>⟨h,World.grownBy.refl _ _⟩
  |v :: r,o,W,xs,h=>by
    obtain⟨h1,h2⟩:=Kd.R_putg h (o:Int) v
    rw[Int.toNat_natCast] at h1 h2
    obtain⟨h3,h4⟩:=setCells_R r (o+1) _ _ h1
    exact⟨h3,h2.trans h4⟩
theorem run_clearS {P:Program} {W:World} {t e ty:TypeId} {base n cap:Nat} {ok:Nat->Prop} {xs:List Int} {ad:Addr} (ht:P.underlying t=some (.slice e)) (hz:∀ w,(zeroValue e).run P w=.ok (.int .i64 0) w)
  (h:(Kd.int .i64).R e W base ok (.slice (some ad) n cap) xs) (k:Nat) (hk:k<=xs.length) (A:Option Addr) (hA:k<xs.length->A=some (ad.add k)) (c:Nat) :
  ∃ W1,(Builtin.clear_ #[t] ty #[.slice A (xs.length-k) c]).run P W=.ok (.tuple #[]) W1/\(Kd.int .i64).R e W1 base ok (.slice (some ad) n cap) (xs.take k++List.replicate (xs.length-k) 0)/\W.grownBy W1 (Value.slice (some ad) n cap).ownBlock:=by
 by_cases hlt:k<xs.length
 ·obtain⟨g,cap',hv,_,_,_⟩:=Kd.R_form h (by omega)
  injection hv with h1 h2 h3
  injection h1 with h1
  subst h1
  obtain rfl:=hA hlt
  obtain⟨hn,hc,_⟩:=Kd.R_reads' h
  have hr:=Lib.run_clear_slice (P:=P) W t e ty (.int .i64 0) ht hz rfl rfl g k (xs.length-k) c (by omega)
   (fun j hj=>by
    have h2:=(Kd.R_celln 0 h ((k+j:Nat):Int) (by omega) (by omega)).1
    rw[Int.toNat_natCast] at h2
    rw[h2];rfl)
   (fun j hj=>by
    have h2:=(Kd.R_celln 0 h ((k+j:Nat):Int) (by omega) (by omega)).2
    rwa [Int.toNat_natCast] at h2)
  obtain⟨h3,h4⟩:=setCells_R (List.replicate (xs.length-k) 0) k W xs h
  rw[List.map_replicate] at h3 h4
  rw[add_plain]
  refine⟨_,hr,?_,h4⟩
  have e0:xs.drop (k+(xs.length-k))=[]:=List.drop_eq_nil_of_le (by omega)
  rw[putAllC_eq _ _ _ (by rw[List.length_replicate];omega),List.length_replicate,e0,List.append_nil] at h3
  exact h3
 ·have e1:xs.length-k=0:=by omega
  refine⟨W,?_,?_,World.grownBy.refl _ _⟩
  ·rw[e1]
   cases A <;> simp[Builtin.clear_,run_underlying ht]
  ·rw[e1,List.replicate_zero,List.append_nil,List.take_of_length_le (by omega)]
   exact h
theorem drop_at {P:Program} (t e:TypeId) {i:TypeInfo} (ht:P.underlying t=some (.slice e)) (hi:P.info? e=some i) (hsz:i.size=1) (ad:Addr) (n c:Nat) (j:Int) (h0:0<=j) (hm:j<=n) (hc:n<=c) :
  ∃ A':Option Addr,(∀ W:World,(Instr.slice t (.slice (some ad) n c) (some (.int .i64 j)) none none).run P W=.ok (.slice A' (n-j.toNat) (c-j.toNat)) W)/\(j<n->A'=some (ad.add j.toNat)):=by
 have hel:P.elem t=e:=by simp[Program.elem,ht]
 have hu:P.underlying t=some (.slice (P.elem t)):=by rw[hel];exact ht
 refine⟨if c=j.toNat then some ad else some (ad.add j.toNat),fun W=>?_,fun h=>?_⟩
 ·rw[run_slice_l W t _ n c hu .i64 j h0 (by omega),hel]
  simp[sizeOf,typeInfo,hi,hsz,sliced,Result.andThen]
 ·rw[if_neg (by omega)]
theorem clear_step {P:Program} {ops:Array Oper} {rest:List Oper} {o:Oper} {a:Act} {Q:Exit->Act->World->Prop} {W W1:World} {t ty:TypeId} {u:Value} (hr:(Builtin.clear_ #[t] ty #[u]).run P W=.ok (.tuple #[]) W1) (s:Operand)
  (hgd:o.guard=none) (hty:o.type=ty) (ho:o.op=.call { callee:=.builtin .clear,args:=#[s],argTypes:=#[t] }) (hd:o.dst=none) (hs:a.eval s=u)
  (h:wpList P ops Q rest a W1):wpList P ops Q (o :: rest) a W:=by
 refine wpList_plain hgd fun K hK=>?_
 subst hty
 unfold Oper.wp execOp
 simp only[ho,resolve,invoke,builtin,Sem.run_bind,Sem.run_pure,Result.andThen_ok,List.map_toArray,List.map_cons,List.map_nil,hs,hr]
 refine hK _ _ ?_
 rw[hd]
 exact h
theorem growB {w0 W W1:World} {row:Option Nat} (HB:Below w0.heap.size w0 W) (g:W.grownBy W1 row) (hr:∀ k,row=some k->w0.heap.size<=k):Below w0.heap.size w0 W1:=HB.grown g HB.size hr
theorem take_zero_ (xs:List Int) (k m:Nat) (h:k<=xs.length):(xs.take k++List.replicate m 0).take k=xs.take k:=by
 rw[List.take_append_of_le_length (by rw[List.length_take];omega),List.take_take,Nat.min_self]
theorem zero3 (w:World):(zeroValue 3).run Try.prog w=.ok (.int .i64 0) w:=by kernel_rfl
mutual
def Xe.l0:Nat->List Int->Int->Option (List Int)
  |0,_,_=>none
  |k+1,x0,x3=>if x3<(x0.length:Int) then(if 0<=x3 then(if 0<=(wrap64 (x3-1)) then(if (wrap64 (x3-1))<(x0.length:Int) then(if (rd x0 x3)=(rd x0 (wrap64 (x3-1))) then(if x3<=(x0.length:Int) then(Xe.l1 k x0 x3 (x0.drop (x3:Int).toNat) 1) else(none)) else(Xe.l0 k x0 (wrap64 (x3+1)))) else(none)) else(none)) else(none)) else(some x0)
def Xe.l1:Nat->List Int->Int->List Int->Int->Option (List Int)
  |0,_,_,_,_=>none
  |k+1,x0,x3,x4,x5=>if x5<(x4.length:Int) then(if 0<=x5 then(if 0<=(wrap64 (x5-1)) then(if (wrap64 (x5-1))<(x4.length:Int) then(if (rs x0 x4 x5)=(rs x0 x4 (wrap64 (x5-1))) then(Xe.l1 k x0 x3 x4 (wrap64 (x5+1))) else(if 0<=x3 then(if x3<(x0.length:Int) then(Xe.l1 k (x0.set (x3:Int).toNat (rs x0 x4 x5)) (wrap64 (x3+1)) x4 (wrap64 (x5+1))) else(none)) else(none))) else(none)) else(none)) else(none)) else(if 0<=x3 then(if x3<=(x0.length:Int) then(some (x0.take (x3:Int).toNat)) else(none)) else(none))
end
def Xe.f (k:Nat) (l0:List Int):Option (List Int):=if (l0.length:Int)<2 then(some l0) else(Xe.l0 k l0 1)
theorem Xe.calls (k:Nat) (P0_:Nat->Prop) (u9000_:Value) (l0:List Int) (r:List Int) (w0 w:World) (hB:Below w0.heap.size w0 w) (ho0:Kd.R (Kd.int .i64) 3 w w0.heap.size P0_ u9000_ l0) (h:Xe.f k l0=some r) :
  Calls Try.prog 111 #[u9000_] w fun e w'=>∃ v0_:Value,e=.returned (v0_)/\Kd.R (Kd.int .i64) 3 w' w0.heap.size (fun k_=>(P0_ k_\/w.heap.size<=k_)) v0_ r/\Below w0.heap.size w0 w'/\Kept w w' (fun k_=>P0_ k_):=by
 have aZ:=zA (show Kd.R (Kd.int .i64) 3 w w0.heap.size (fun k_=>(P0_ k_\/w.heap.size<=k_)) u9000_ l0 from Kd.R_mono ho0 (fun k_ hk=>(.inl hk)))
 have HK:=zA (Kept.refl w (fun k_=>P0_ k_))
 have HW0:=zA hB.size
 have HB:=zA hB
 clear hB
 have H:(if (l0.length:Int)<2 then(some l0) else(Xe.l0 k l0 1))=some r:=h
 clear h
 by_cases c2:(l0.length:Int)<2
 ·rw[if_pos c2] at H
  have aX:decide ((l0.length:Int)<2)=true:=decide_eq_true c2
  have c2b1:decide (l0.length<2)=true:=decide_eq_true (by omega)
  clear c2
  obtain rfl:=zI H
  obtain⟨Ao3,co3,eo3⟩:=Kd.R_slice aZ.out
  subst eo3
  go_enter Try.func111,Try.ntmps111
  go_wp2
  repeat (go_quiet (fail);try go_wp2)
  go_ret
  exact⟨_,zE,zR aZ,zb,zHK⟩
 ·rw[if_neg c2] at H
  have aX:decide ((l0.length:Int)<2)=false:=decide_eq_false c2
  have c2b1:decide (l0.length<2)=false:=decide_eq_false (by omega)
  clear c2
  have H':=zA H
  clear H
  obtain⟨Ao4,aQ,eo4⟩:=Kd.R_slice aZ.out
  subst eo4
  go_enter Try.func111,Try.ntmps111
  go_wp2
  repeat (go_quiet (fail);try go_wp2)
  go_loopg [3] k (fun kq v3 w'=>∃ (aC:List Int) (aD:Int),v3=.int .i64 aD/\Aside0 (Xe.l0 kq aC aD=some r)/\Aside0 (kq<=k)/\Aside0 (Kd.R (Kd.int .i64) 3 w' w0.heap.size (fun k_=>(P0_ k_\/w.heap.size<=k_)) (.slice Ao4 l0.length aQ) aC)/\Aside0 (Kept w w' (fun k_=>P0_ k_))/\Aside0 (Below w0.heap.size w0 w'))
  case atStart=>exact⟨(l0),(1),(by first|rfl|(simp;done)|(simp[*];done)),H',⟨Nat.le_refl _⟩,⟨zR aZ⟩,⟨zHK⟩,⟨zb⟩⟩
  case round =>
   clear H'
   try clear c2
   try clear aX
   try clear c2b1
   try clear p2
   obtain⟨aC,aD,rfl,HA,HK1,aA,HK,HB⟩:=hrel
   have hl0_1:=(Kd.R_reads' aA.out).1
   rw[hl0_1] at aA
   (try simp only[hl0_1])
   cases gk with
   |zero=>exact absurd HA.out (by simp[Xe.l0])
   |succ k1 =>
    have H:=HA.out
    clear HA
    simp only[Xe.l0] at H
    by_cases c5:aD<(aC.length:Int)
    ·rw[if_pos c5] at H
     have bD:decide (aD<(aC.length:Int))=true:=decide_eq_true c5
     clear c5
     by_cases c6:0<=aD
     ·rw[if_pos c6] at H
      have c6b0:decide (0<=aD)=true:=decide_eq_true c6
      clear c6
      obtain⟨aK,hji7⟩:∃ j_:Int,(wrap64 (aD-1))=j_:=⟨_,rfl⟩
      replace H:(if 0<=(aK) then(if (aK)<(aC.length:Int) then(if (rd aC aD)=(rd aC (aK)) then(if aD<=(aC.length:Int) then(Xe.l1 k1 aC aD (aC.drop (aD:Int).toNat) 1) else(none)) else(Xe.l0 k1 aC (wrap64 (aD+1)))) else(none)) else(none))=some r:=by first|(rw[hji7] at H;exact H)|(simp only[hji7] at H ⊢;exact H)
      have bJ:(IntKind.i64.wrap (aD-1))=aK:=(i64_w _).trans hji7
      by_cases c8:0<=(aK)
      ·rw[if_pos c8] at H
       have c8b0:decide (0<=(aK))=true:=decide_eq_true c8
       clear c8
       by_cases c9:(aK)<(aC.length:Int)
       ·rw[if_pos c9] at H
        have c9b0:decide ((aK)<(aC.length:Int))=true:=decide_eq_true c9
        clear c9
        by_cases c10:(rd aC aD)=(rd aC (aK))
        ·rw[if_pos c10] at H
         have aY:((rd aC aD)==(rd aC (aK)))=true:=beq_iff_eq.mpr c10
         have c10b1:((rd aC aD) != (rd aC (aK)))=false:=bne_eq_false_iff_eq.mpr c10
         clear c10
         have c11b0:=eq_true (of_decide_eq_true (by first|(with_reducible assumption)|assumption):0<=aD)
         by_cases c12:aD<=(aC.length:Int)
         ·rw[if_pos c12] at H
          have c12b0:=eq_true c12
          have c12b1:decide (aD<=(aC.length:Int))=true:=decide_eq_true c12
          clear c12
          obtain⟨aG,hy429⟩:∃ y_:List Int,y_=(aC.drop (aD:Int).toNat):=⟨_,rfl⟩
          replace H:(Xe.l1 k1 aC aD aG 1)=some r:=zY hy429 H
          have Ny429:=zA hy429
          clear hy429
          have H':=zA H
          clear H
          have p427:0<=(aD:Int):=of_decide_eq_true (by first|(with_reducible assumption)|assumption)
          have q427:aD<(aC.length:Int):=of_decide_eq_true (by first|(with_reducible assumption)|assumption)
          obtain⟨ad427,e427,hx427_0⟩:=Kd.at_int (Kd.R_reads' aA.out).2.2 aD p427 q427
          cases e427
          replace p427:=eq_true p427
          replace q427:=eq_true q427
          have p428:0<=((aK):Int):=of_decide_eq_true (by first|(with_reducible assumption)|assumption)
          have q428:(aK)<(aC.length:Int):=of_decide_eq_true (by first|(with_reducible assumption)|assumption)
          obtain⟨ad428,e428,hx428_0⟩:=Kd.at_int (Kd.R_reads' aA.out).2.2 (aK) p428 q428
          obtain rfl:ad427=ad428:=(by injection e428)
          replace p428:=eq_true p428
          replace q428:=eq_true q428
          have q13:(aD:Int)<=((aC.length:Int):Int):=of_decide_eq_true (by first|(with_reducible assumption)|assumption)
          obtain⟨i013,hi013,_,hsz13,_⟩:=info_parts info3
          obtain⟨goA,coA,eoA,gbA,glA,clA,HGA⟩:=Kd.R_form aA.out (by have h1_:=of_eq_true p427;have h2_:=of_eq_true q427;omega);injection eoA with ea_ en_ ec_;injection ea_ with ea_;subst ea_;subst ec_;clear en_ gbA glA clA HGA;simp only[add_plain] at hx427_0 hx428_0
          have hroom13:aC.length<=aQ:=(Kd.R_reads' aA.out).2.1
          have hC13:Kd.C (Kd.int .i64) _ (some ⟨goA,0,none⟩) aC.length aC:=(Kd.R_reads' aA.out).2.2
          have q013:(0:Int)<=(aD:Int):=of_decide_eq_true (by first|(with_reducible assumption)|assumption)
          have hcut13:=cut_from (P:=Try.prog) 22 3 .i64 Try.underlying22 hi013 1 hsz13 (some ⟨goA,0,none⟩) aC.length aQ aD q013 q13
          have hr13:=Kd.C_drop (m:=(aD:Int).toNat) (c:=aQ) hC13 (by omega) hroom13
          obtain⟨bI,hA13⟩:∃ A1,A1=(if aQ=(aD:Int).toNat then(some ⟨goA,0,none⟩) else((some ⟨goA,0,none⟩):Option Addr).map (·.add ((aD:Int).toNat * 1))):=⟨_,rfl⟩
          obtain⟨c13,hc13⟩:∃ c1,c1=aQ-(aD:Int).toNat:=⟨_,rfl⟩
          have hy13:aG.length=aC.length-(aD:Int).toNat:=(by rw[Ny429.out,List.length_drop] <;> omega)
          rw[show (aC).drop (aD:Int).toNat=aG from Ny429.out.symm] at hr13
          replace hr13:Kd.C (Kd.int .i64) _ bI aG.length aG:=(by rw[hA13];exact hr13)
          rw[<-hy13,<-hA13,<-hc13] at hcut13
          have bK:=zA hr13
          have HC432:=zA (show aG.length<=c13 from by rw[hy13,hc13];exact Nat.sub_le_sub_right hroom13 _)
          clear hr13 hC13 hroom13 hi013 hsz13 hc13
          have KY13:=zA hy13
          have KA13:=zA hA13
          clear hy13 hA13
          have KL13:=zA (show (aD:Int).toNat<=aC.length from by omega)
          replace q13:=eq_true q13
          go_wp2
          repeat (go_quiet (fail);try go_wp2)
          go_loopg [3,5] k1 (fun kq v3 v5 w'=>∃ (aE:List Int) (aH:Int) (aI:Int),v3=.int .i64 aH/\v5=.int .i64 aI/\Aside0 (Xe.l1 kq aE aH aG aI=some r)/\Aside0 (kq<=k1)/\Aside0 (Kd.R (Kd.int .i64) 3 w' w0.heap.size (fun k_=>(P0_ k_\/w.heap.size<=k_)) (.slice (some ⟨goA,0,none⟩) aC.length aQ) aE)/\Aside0 (Kept w w' (fun k_=>P0_ k_))/\Aside0 (Below w0.heap.size w0 w'))
          case atStart=>exact⟨(aC),(aD),(1),(by first|rfl|(simp;done)|(simp[*];done)),(by first|rfl|(simp;done)|(simp[*];done)),H',⟨Nat.le_refl _⟩,⟨by(try simp only[hl0_1]);(with_reducible repeat (first|apply Kd.R_alloc|apply Kd.R_drewN|apply Kd.R_drew));exact aA.out⟩,⟨zHK⟩,⟨zb⟩⟩
          case round =>
           clear H'
           try clear c1
           try clear q1
           try clear c2
           try clear aX
           try clear c2b1
           try clear p2
           try clear p4
           try clear q4
           try clear hx4
           try clear c5
           try clear bD
           try clear c6
           try clear c6b0
           try clear p6
           try clear c7
           try clear c8
           try clear c8b0
           try clear c9
           try clear c9b0
           try clear c10
           try clear aY
           try clear c10b1
           try clear c11
           try clear c11b0
           try clear c12
           try clear c12b0
           try clear c12b1
           try clear c13
           try clear q13
           try clear hx427_0
           try clear hx428_0
           try clear p2
           try clear p427
           try clear p428
           try clear q013
           try clear q13
           try clear q427
           try clear q428
           obtain⟨aE,aH,aI,rfl,rfl,HA,HK2,aA,HK,HB⟩:=hrel
           have hl0_2:=(Kd.R_reads' aA.out).1
           rw[hl0_2] at aA
           (try simp only[hl0_2])
           cases gk with
           |zero=>exact absurd HA.out (by simp[Xe.l1])
           |succ k2 =>
            have H:=HA.out
            clear HA
            simp only[Xe.l1] at H
            by_cases c14:aI<(aG.length:Int)
            ·rw[if_pos c14] at H
             have bF:decide (aI<(aG.length:Int))=true:=decide_eq_true c14
             clear c14
             by_cases c15:0<=aI
             ·rw[if_pos c15] at H
              have c15b0:decide (0<=aI)=true:=decide_eq_true c15
              clear c15
              obtain⟨aJ,hji16⟩:∃ j_:Int,(wrap64 (aI-1))=j_:=⟨_,rfl⟩
              replace H:(if 0<=(aJ) then(if (aJ)<(aG.length:Int) then(if (rs aE aG aI)=(rs aE aG (aJ)) then(Xe.l1 k2 aE aH aG (wrap64 (aI+1))) else(if 0<=aH then(if aH<(aE.length:Int) then(Xe.l1 k2 (aE.set (aH:Int).toNat (rs aE aG aI)) (wrap64 (aH+1)) aG (wrap64 (aI+1))) else(none)) else(none))) else(none)) else(none))=some r:=by first|(rw[hji16] at H;exact H)|(simp only[hji16] at H ⊢;exact H)
              have bH:(IntKind.i64.wrap (aI-1))=aJ:=(i64_w _).trans hji16
              by_cases c17:0<=(aJ)
              ·rw[if_pos c17] at H
               have c17b0:decide (0<=(aJ))=true:=decide_eq_true c17
               clear c17
               by_cases c18:(aJ)<(aG.length:Int)
               ·rw[if_pos c18] at H
                have c18b0:decide ((aJ)<(aG.length:Int))=true:=decide_eq_true c18
                clear c18
                by_cases c19:(rs aE aG aI)=(rs aE aG (aJ))
                ·rw[if_pos c19] at H
                 have bE:((rs aE aG aI)==(rs aE aG (aJ)))=true:=beq_iff_eq.mpr c19
                 have c19b1:((rs aE aG aI) != (rs aE aG (aJ)))=false:=bne_eq_false_iff_eq.mpr c19
                 clear c19
                 have H':=zA H
                 clear H
                 have p433:0<=(aI:Int):=of_decide_eq_true (by first|(with_reducible assumption)|assumption)
                 have q433:aI<(aG.length:Int):=of_decide_eq_true (by first|(with_reducible assumption)|assumption)
                 obtain⟨ad433,e433,hx433_0⟩:=rs_cell aA.out KA13.out KY13.out hl0_2 KL13.out aI p433 q433
                 cases e433
                 replace p433:=eq_true p433
                 replace q433:=eq_true q433
                 have p434:0<=((aJ):Int):=of_decide_eq_true (by first|(with_reducible assumption)|assumption)
                 have q434:(aJ)<(aG.length:Int):=of_decide_eq_true (by first|(with_reducible assumption)|assumption)
                 obtain⟨ad434,e434,hx434_0⟩:=rs_cell aA.out KA13.out KY13.out hl0_2 KL13.out (aJ) p434 q434
                 obtain rfl:ad433=ad434:=(by injection e434)
                 replace p434:=eq_true p434
                 replace q434:=eq_true q434
                 go_wp2
                 repeat (go_quiet (fail);try go_wp2)
                 (try simp only[<-hl0_2])
                 go_roundg k2
                 case measure=>have:=HK1.out;have:=HK2.out;omega
                 case rel=>exact⟨(aE),(aH),(wrap64 (aI+1)),(by first|rfl|(simp;done)|(simp[*];done)),(by first|rfl|(simp;done)|(simp[*];done)),H',⟨by have:=HK1.out;have:=HK2.out;omega⟩,⟨by(try simp only[hl0_1]);(try simp only[hl0_2]);(with_reducible repeat (first|apply Kd.R_alloc|apply Kd.R_drewN|apply Kd.R_drew));exact aA.out⟩,⟨zHK⟩,⟨zb⟩⟩
                ·rw[if_neg c19] at H
                 have bE:((rs aE aG aI)==(rs aE aG (aJ)))=false:=beq_eq_false_iff_ne.mpr c19
                 have c19b1:((rs aE aG aI) != (rs aE aG (aJ)))=true:=bne_iff_ne.mpr c19
                 by_cases c20:0<=aH
                 ·rw[if_pos c20] at H
                  have c20b0:decide (0<=aH)=true:=decide_eq_true c20
                  clear c20
                  by_cases c21:aH<(aE.length:Int)
                  ·rw[if_pos c21] at H
                   have c21b0:decide (aH<(aE.length:Int))=true:=decide_eq_true c21
                   clear c21
                   obtain⟨aV,hy436⟩:∃ y_:List Int,y_=(aE.set (aH:Int).toNat (rs aE aG aI)):=⟨_,rfl⟩
                   replace H:(Xe.l1 k2 aV (wrap64 (aH+1)) aG (wrap64 (aI+1)))=some r:=zY hy436 H
                   have Ny436:=zA hy436
                   clear hy436
                   have H':=zA H
                   clear H
                   have p433:0<=(aI:Int):=of_decide_eq_true (by first|(with_reducible assumption)|assumption)
                   have q433:aI<(aG.length:Int):=of_decide_eq_true (by first|(with_reducible assumption)|assumption)
                   obtain⟨ad433,e433,hx433_0⟩:=rs_cell aA.out KA13.out KY13.out hl0_2 KL13.out aI p433 q433
                   cases e433
                   replace p433:=eq_true p433
                   replace q433:=eq_true q433
                   have p434:0<=((aJ):Int):=of_decide_eq_true (by first|(with_reducible assumption)|assumption)
                   have q434:(aJ)<(aG.length:Int):=of_decide_eq_true (by first|(with_reducible assumption)|assumption)
                   obtain⟨ad434,e434,hx434_0⟩:=rs_cell aA.out KA13.out KY13.out hl0_2 KL13.out (aJ) p434 q434
                   obtain rfl:ad433=ad434:=(by injection e434)
                   replace p434:=eq_true p434
                   replace q434:=eq_true q434
                   have p435:0<=(aI:Int):=of_decide_eq_true (by first|(with_reducible assumption)|assumption)
                   have q435:aI<(aG.length:Int):=of_decide_eq_true (by first|(with_reducible assumption)|assumption)
                   obtain⟨ad435,e435,hx435_0⟩:=rs_cell aA.out KA13.out KY13.out hl0_2 KL13.out aI p435 q435
                   obtain rfl:ad433=ad435:=(by injection e435)
                   replace p435:=eq_true p435
                   replace q435:=eq_true q435
                   have p22:0<=(aH:Int):=of_decide_eq_true (by first|(with_reducible assumption)|assumption)
                   have q22:(aH:Int)<((aE.length:Int):Int):=of_decide_eq_true (by first|(with_reducible assumption)|assumption)
                   obtain⟨go22,co22,eo22,gb22,gl22,cl22,HG22⟩:=Kd.R_form aA.out (by omega)
                   injection eo22 with ea_ en_ ec_;injection ea_ with ea_;injection ea_ with eb_ _ _;subst eb_;subst ec_;clear en_
                   have GB22:=zA gb22
                   have GG22:=zA HG22
                   clear gb22 gl22 HG22
                   have HMgo22:=zA (show (P0_ goA\/w.heap.size<=goA) from (aA.out.1 _ rfl))
                   (first|simp only[add_plain] at hx427_0|skip)
                   (first|simp only[add_plain] at hx428_0|skip)
                   obtain⟨aW,hf22_0⟩:=Kd.R_celln 0 aA.out (aH:Int) p22 q22
                   replace p22:=eq_true p22
                   replace q22:=eq_true q22
                   have HP23:=Kd.R_putg aA.out (aH:Int) (rs aE aG aI)
                   go_wp2_with (first|((with_reducible refine gate_store (t:=3) (p:=51) rfl ?_);(try (rw[drewN_self wr];generalize hq_:World.drewN wr _=wr;have aR:=zA (Kd.R_at hq_ aA.out);have aN:=zA (kept_at hq_ HK.out);have aM:=zA (below_at hq_ HB.out);clear hq_ aA HK HB;have aA:=aR;have HK:=aN;have HB:=aM;clear aR aN aM;have HP23:=Kd.R_putg aA.out (aH:Int) (rs aE aG aI);obtain⟨aW,hf22_0⟩:=Kd.R_celln 0 aA.out (aH:Int) (of_eq_true p22) (of_eq_true q22)));refine store_event (t:=3) (p:=51) (v:=?vo_w24) (w1:=(wr.setCell ⟨goA,(aH:Int).toNat,none⟩ (.int .i64 (rs aE aG aI)))) ?hg ?ho ?hn ?hr ?_;(case ho=>rfl);(case hg=>rfl);(case hn=>rfl);(case hr=>first|(go_simp;done)|(go_simp;rfl));intro aU hw;have hg:wr.grownBy aU (some goA):=(by rw[hw];exact HP23.2);have hp_:Kd.R (Kd.int .i64) 3 aU w0.heap.size (fun k_=>(P0_ k_\/w.heap.size<=k_)) (.slice (some ⟨goA,0,none⟩) aE.length aQ) aV:=(by rw[hw,Ny436.out];exact HP23.1);clear HP23;have aR:=zA hp_;have aN:=zA ((by rw[hw];exact below_set (HB.out) GB22.out:Below w0.heap.size w0 aU));have aM:=zA (Kept.of_grown (S:=(fun k_=>P0_ k_)) hg zHK (fun k_ e_=>(aA.out.1 k_ e_)));clear aA;clear HB;clear HK;have aA:=aR;have HB:=aN;have HK:=aM;clear aR aN aM;clear hg hw hp_))
                   repeat (go_quiet (fail);try go_wp2_with (first|((with_reducible refine gate_store (t:=3) (p:=51) rfl ?_);(try (rw[drewN_self wr];generalize hq_:World.drewN wr _=wr;have aR:=zA (Kd.R_at hq_ aA.out);have aN:=zA (kept_at hq_ HK.out);have aM:=zA (below_at hq_ HB.out);clear hq_ aA HK HB;have aA:=aR;have HK:=aN;have HB:=aM;clear aR aN aM;have HP23:=Kd.R_putg aA.out (aH:Int) (rs aE aG aI);obtain⟨aW,hf22_0⟩:=Kd.R_celln 0 aA.out (aH:Int) (of_eq_true p22) (of_eq_true q22)));refine store_event (t:=3) (p:=51) (v:=?vo_w24) (w1:=(wr.setCell ⟨goA,(aH:Int).toNat,none⟩ (.int .i64 (rs aE aG aI)))) ?hg ?ho ?hn ?hr ?_;(case ho=>rfl);(case hg=>rfl);(case hn=>rfl);(case hr=>first|(go_simp;done)|(go_simp;rfl));intro aU hw;have hg:wr.grownBy aU (some goA):=(by rw[hw];exact HP23.2);have hp_:Kd.R (Kd.int .i64) 3 aU w0.heap.size (fun k_=>(P0_ k_\/w.heap.size<=k_)) (.slice (some ⟨goA,0,none⟩) aE.length aQ) aV:=(by rw[hw,Ny436.out];exact HP23.1);clear HP23;have aR:=zA hp_;have aN:=zA ((by rw[hw];exact below_set (HB.out) GB22.out:Below w0.heap.size w0 aU));have aM:=zA (Kept.of_grown (S:=(fun k_=>P0_ k_)) hg zHK (fun k_ e_=>(aA.out.1 k_ e_)));clear aA;clear HB;clear HK;have aA:=aR;have HB:=aN;have HK:=aM;clear aR aN aM;clear hg hw hp_)))
                   (try simp only[<-hl0_2])
                   go_roundg k2
                   case measure=>have:=HK1.out;have:=HK2.out;omega
                   case rel=>exact⟨(aV),(wrap64 (aH+1)),(wrap64 (aI+1)),(by first|rfl|(simp;done)|(simp[*];done)),(by first|rfl|(simp;done)|(simp[*];done)),H',⟨by have:=HK1.out;have:=HK2.out;omega⟩,⟨by(try simp only[hl0_1]);(try simp only[hl0_2]);(with_reducible repeat (first|apply Kd.R_alloc|apply Kd.R_drewN|apply Kd.R_drew));exact aA.out⟩,⟨zHK⟩,⟨zb⟩⟩
                  ·rw[if_neg c21] at H
                   exact absurd H (by simp)
                 ·rw[if_neg c20] at H
                  exact absurd H (by simp)
               ·rw[if_neg c18] at H
                exact absurd H (by simp)
              ·rw[if_neg c17] at H
               exact absurd H (by simp)
             ·rw[if_neg c15] at H
              exact absurd H (by simp)
            ·rw[if_neg c14] at H
             have bF:decide (aI<(aG.length:Int))=false:=decide_eq_false c14
             clear c14
             by_cases c25:0<=aH
             ·rw[if_pos c25] at H
              have c25b0:=eq_true c25
              have c25b1:decide (0<=aH)=true:=decide_eq_true c25
              clear c25
              by_cases c26:aH<=(aE.length:Int)
              ·rw[if_pos c26] at H
               have c26b0:=eq_true c26
               have c26b1:decide (aH<=(aE.length:Int))=true:=decide_eq_true c26
               clear c26
               have c26z_:=of_decide_eq_true c26b1;have c25z_:=of_decide_eq_true c25b1;have hcc_:=(Kd.R_reads' aA.out).2.1
               obtain⟨i0k,hi0k,_,hsz0k,_⟩:=info_parts info3
               obtain⟨Ac_,hcutc_,hac_⟩:=drop_at (P:=Try.prog) 22 3 Try.underlying22 hi0k hsz0k ⟨goA,0,none⟩ aE.length aQ aH c25z_ c26z_ hcc_
               have RUNC_:=zA (fun (w_:World) (h_:Kd.R (Kd.int .i64) 3 w_ w0.heap.size (fun k_=>(P0_ k_\/w.heap.size<=k_)) (.slice (some ⟨goA,0,none⟩) aE.length aQ) aE)=>run_clearS (P:=Try.prog) (t:=22) (e:=3) (ty:=0) Try.underlying22 zero3 h_ aH.toNat (by omega) Ac_ (fun hlt_=>hac_ (by omega)) (aQ-aH.toNat))
               clear hi0k hsz0k hac_ hcc_
               obtain⟨bA,hy437⟩:∃ y_:List Int,y_=(aE.take (aH:Int).toNat):=⟨_,rfl⟩
               replace H:(some bA)=some r:=zY hy437 H
               have Ny437:=zA hy437
               clear hy437
               obtain rfl:=zI H
               have bB:(aH:Int)<=((aE.length:Int):Int):=of_decide_eq_true (by first|(with_reducible assumption)|assumption)
               obtain⟨i027,hi027,_,hsz27,_⟩:=info_parts info3
               have hcut27:=cut_to (P:=Try.prog) 22 3 .i64 Try.underlying22 hi027 (some ⟨goA,0,none⟩) aE.length aQ aH (of_decide_eq_true (by first|(with_reducible assumption)|assumption)) bB (Kd.R_reads' aA.out).2.1
               have c26n_:aH.toNat<=aE.length:=by omega
               obtain⟨wc_,e_,r_,g_⟩:=RUNC_.out wr aA.out;have EE_:=zA e_;have aN:=zA (growB HB.out g_ (Kd.R_base aA.out));have aM:=zA (Kept.of_grown (S:=(fun k_=>P0_ k_)) g_ HK.out (fun k_ e_=>aA.out.1 k_ e_));clear aA HB HK RUNC_;have aA:=zA r_;have HB:=aN;have HK:=aM;clear e_ r_ g_ aN aM;have hr27:=Kd.R_take (m:=(aH:Int).toNat) aA.out (by rw[List.length_append,List.length_take];omega);have bC:bA.length=(aH:Int).toNat:=(by rw[Ny437.out,List.length_take];omega);rw[take_zero_ aE _ _ c26n_,<-Ny437.out] at hr27;rw[<-bC] at hr27 hcut27;clear bC hi027 hsz27 aA;have bG:=zA hr27;clear hr27;replace bB:=eq_true bB
               go_wp2_with (first|((with_reducible refine gate_builtin (b:=.clear) (xs:=#[.tmp 56]) rfl ?_);refine clear_step EE_.out (.tmp 56) (by rfl) (by rfl) (by rfl) (by rfl) (by rfl) ?_))
               repeat (go_quiet (fail);try go_wp2)
               go_ret
               exact⟨_,by first|rfl|(simp[errW_none,errW_some] <;> rfl)|(simp only[<-hji7];first|rfl|(simp[errW_none,errW_some] <;> rfl))|(simp[*,errW_none,errW_some] <;> rfl),zR bG,zb,zHK⟩
              ·rw[if_neg c26] at H
               exact absurd H (by simp)
             ·rw[if_neg c25] at H
              exact absurd H (by simp)
         ·rw[if_neg c12] at H
          exact absurd H (by simp)
        ·rw[if_neg c10] at H
         have aY:((rd aC aD)==(rd aC (aK)))=false:=beq_eq_false_iff_ne.mpr c10
         have c10b1:((rd aC aD) != (rd aC (aK)))=true:=bne_iff_ne.mpr c10
         have H':=zA H
         clear H
         have p427:0<=(aD:Int):=of_decide_eq_true (by first|(with_reducible assumption)|assumption)
         have q427:aD<(aC.length:Int):=of_decide_eq_true (by first|(with_reducible assumption)|assumption)
         obtain⟨ad427,e427,hx427_0⟩:=Kd.at_int (Kd.R_reads' aA.out).2.2 aD p427 q427
         cases e427
         replace p427:=eq_true p427
         replace q427:=eq_true q427
         have p428:0<=((aK):Int):=of_decide_eq_true (by first|(with_reducible assumption)|assumption)
         have q428:(aK)<(aC.length:Int):=of_decide_eq_true (by first|(with_reducible assumption)|assumption)
         obtain⟨ad428,e428,hx428_0⟩:=Kd.at_int (Kd.R_reads' aA.out).2.2 (aK) p428 q428
         obtain rfl:ad427=ad428:=(by injection e428)
         replace p428:=eq_true p428
         replace q428:=eq_true q428
         go_wp2
         repeat (go_quiet (fail);try go_wp2)
         (try simp only[<-hl0_1])
         go_roundg k1
         case measure=>have:=HK1.out;omega
         case rel=>exact⟨(aC),(wrap64 (aD+1)),(by first|rfl|(simp;done)|(simp[*];done)),H',⟨by have:=HK1.out;omega⟩,⟨by(try simp only[hl0_1]);(with_reducible repeat (first|apply Kd.R_alloc|apply Kd.R_drewN|apply Kd.R_drew));exact aA.out⟩,⟨zHK⟩,⟨zb⟩⟩
       ·rw[if_neg c9] at H
        exact absurd H (by simp)
      ·rw[if_neg c8] at H
       exact absurd H (by simp)
     ·rw[if_neg c6] at H
      exact absurd H (by simp)
    ·rw[if_neg c5] at H
     have bD:decide (aD<(aC.length:Int))=false:=decide_eq_false c5
     clear c5
     obtain rfl:=zI H
     go_wp2
     repeat (go_quiet (fail);try go_wp2)
     go_ret
     exact⟨_,zE,zR aA,zb,zHK⟩

def Xj.l0:Nat->Int->List Int->List Int->Int->Int->Int->Int->List Int->Option (List Int)
  |0,_,_,_,_,_,_,_,_=>none
  |k+1,x1,x5,x25,x26,x27,x459000,x459001,x459002=>if x27<x26 then(if 0<=x27 then(if x27<(x25.length:Int) then((Xg.f k x459000 x459001 x459002 (rd x25 x27)).bind fun t470=>(if t470=true then((Xp.f k x459000 x459001 x459002 x1 (rd x25 x27)).bind fun t471=>(if t471=1 then(if x5.length<17592186044416 then(Xj.l0 k x1 (x5++[rd x25 x27]) x25 x26 (wrap64 (x27+1)) x459000 x459001 x459002) else(none)) else(Xj.l0 k x1 x5 x25 x26 (wrap64 (x27+1)) x459000 x459001 x459002))) else(Xj.l0 k x1 x5 x25 x26 (wrap64 (x27+1)) x459000 x459001 x459002))) else(none)) else(none)) else((Xe.f k x5).bind fun t466=>(some t466))
def Xj.f (k:Nat) (a0_0:Int) (a0_1:Int) (l0_2:List Int) (a1:Int):Option (List Int):=(XF.f k a0_0 a0_1 l0_2 a1).bind fun t459=>(if t459=true then((some (([wrap64 (a1-a0_0),wrap64 (a1-1),wrap64 (a1+1),wrap64 (a1+a0_0)]:List Int):List Int)).bind fun y463=>(Xj.l0 k a1 (([]:List Int)) y463 (y463.length:Int) 0 a0_0 a0_1 l0_2)) else(some ([]:List Int)))
theorem Xj.calls (k:Nat) (aD:Int) (aI:Int) (aQ:Option Addr) (aN:Nat) (aH:List Int) (a1:Int) (r:List Int) (w:World) (bH:Kd.C (Kd.int .i64) w aQ aH.length aH) (bI:aH.length<=aN) (h:Xj.f k aD aI aH a1=some r) :
  Calls Try.prog 68 #[.agg #[aD,aI,.slice aQ aH.length aN],a1] w fun e w'=>∃ v0_:Value,e=.returned (v0_)/\Kd.R (Kd.int .i64) 3 w' w.heap.size (fun _=>True) v0_ r/\Below w.heap.size w w':=by
 have hu37:=Try.underlying37;have aR:=zA bH;have aT:=zA bI;clear bH bI;have HB:=zA (Below.refl w.heap.size w);have H:=h;clear h;unfold Xj.f at H;obtain⟨cN,A3,H⟩:=zB H
 by_cases c4:cN=true
 ·subst c4;rw[if_pos rfl] at H;obtain⟨bD,bA⟩:∃ y_:List Int,y_=(([]:List Int)):=⟨_,rfl⟩
  replace H:((some (([wrap64 (a1-aD),wrap64 (a1-1),wrap64 (a1+1),wrap64 (a1+aD)]:List Int):List Int)).bind fun aE=>(Xj.l0 k a1 bD aE (aE.length:Int) 0 aD aI aH))=some r:=zY bA H
  have Ny460:=zA bA;clear bA;obtain⟨aE,aZ⟩:∃ y_:List Int,y_=(([wrap64 (a1-aD),wrap64 (a1-1),wrap64 (a1+1),wrap64 (a1+aD)]:List Int)):=⟨_,rfl⟩
  replace H:(Xj.l0 k a1 bD aE (aE.length:Int) 0 aD aI aH)=some r:=zY aZ H
  have Ny463:=zA aZ;clear aZ;have H':=zA H;clear H;go_enter Try.func68,Try.ntmps68
  go_wp2_with (first|((with_reducible refine zgd 2 rfl ?_);refine zbx 2 #[aD,aI,.slice aQ aH.length aN] 37 ?_;intro bJ hg w5 b' hb;have aA:=zA b';have cJ:=zga (w:=w) hg;replace HB:=zbs hb;clear hb b' hg;obtain⟨cA,bZ,bY,bX,bW,bV⟩:=ze3 aA)|((with_reducible refine zgf 108 rfl ?_);refine zgl 10 Try.func108 #[.agg #[aD,aI,.slice aQ aH.length aN],a1] ?_;(refine(XF.calls k aD aI _ _ aH a1 true _ (zCb aR) aT.out A3.out).mono ?_);rintro e w7 ⟨rfl,hb⟩;refine⟨_,rfl,?_⟩;replace aA:=zkb aA hb;replace HB:=zbs hb;(try clear hb))|((with_reducible refine zgd 12 rfl ?_);refine Kd.R_lit (Kd.int .i64) _ 3 ?hg (N:=12) ?hd (xs:=([]:List Int)) (inner:=[]) (ok:=fun _=>True) (okp:=fun _=>True) ?hr ?hp (fun _ hk=>hk) trivial (Below.refl _ _) (Nat.le_refl _) (by simp) ?_;(case hd=>rfl);(case hg=>rfl);(case hr=>first|(go_simp;done)|(go_simp;rfl));(case hp=>exact(Reps.none _ _));intro v461 w8 ho9 hb hg_ hnew_;clear hg_ hnew_;(first|rw[<-Ny460.out] at ho9|(simp only[Int.reduceToNat] at ho9;rw[<-Ny460.out] at ho9));have aV:=zA (Kd.R_lower ho9 (below_size zb));replace aA:=zkb aA hb;replace HB:=zbs hb;clear hb ho9;obtain⟨bR,bQ,bP,bO,bN,bM⟩:=ze3 aA)|((with_reducible refine zgd 25 rfl ?_);refine Kd.R_lit (Kd.int .i64) _ 3 ?hg (N:=25) ?hd (xs:=([wrap64 (a1-aD),wrap64 (a1-1),wrap64 (a1+1),wrap64 (a1+aD)]:List Int)) (inner:=[.int .i64 (wrap64 (a1-aD)),.int .i64 (wrap64 (a1-1)),.int .i64 (wrap64 (a1+1)),.int .i64 (wrap64 (a1+aD))]) (ok:=fun _=>True) (okp:=fun _=>True) ?hr ?hp (fun _ hk=>hk) trivial (Below.refl _ _) (Nat.le_refl _) (by simp) ?_;(case hd=>rfl);(case hg=>rfl);(case hr=>first|(go_simp;done)|(go_simp;rfl));(case hp=>exact(Reps.one (show Kd.M (Kd.int .i64) _ _ _ (wrap64 (a1-aD)) [.int .i64 (wrap64 (a1-aD))] from rfl) (Reps.one (show Kd.M (Kd.int .i64) _ _ _ (wrap64 (a1-1)) [.int .i64 (wrap64 (a1-1))] from rfl) (Reps.one (show Kd.M (Kd.int .i64) _ _ _ (wrap64 (a1+1)) [.int .i64 (wrap64 (a1+1))] from rfl) (Reps.one (show Kd.M (Kd.int .i64) _ _ _ (wrap64 (a1+aD)) [.int .i64 (wrap64 (a1+aD))] from rfl) (Reps.none _ _))))));intro v464 eN ho12 hb hg_ hnew_;clear hg_ hnew_;(first|rw[<-Ny463.out] at ho12|(simp only[Int.reduceToNat] at ho12;rw[<-Ny463.out] at ho12));have bL:=zA (Kd.R_lower (Kd.R_new' ho12 (Kd.R_lt (zR aV))) (below_size zb));replace aV:=zA (Kd.R_elder' (zR aV) (Kd.R_base ho12) hb);replace aA:=zkb aA hb;replace HB:=zbs hb;clear hb ho12;obtain⟨bG,bB,cP⟩:=Kd.R_slice bL.out;subst cP))
  go_loopg [5,27] k (fun kq v5 v27 w'=>∃ (aM:List Int) (aC:Int),v27=.int .i64 aC/\Aside0 (Xj.l0 kq a1 aM aE (aE.length:Int) aC aD aI aH=some r)/\Aside0 (kq<=k)/\Aside0 (Kd.R (Kd.int .i64) 3 w' w.heap.size (fun k_=>some k_≠((.slice bG aE.length bB):Value).ownBlock) v5 aM)/\Aside0 (Kd.R (Kd.int .i64) 3 w' w.heap.size (fun k_=>some k_≠(v5:Value).ownBlock) (.slice bG aE.length bB) aE)/\Aside0 (w'.heap[bJ]?=some (.cells #[aD,aI,(.slice aQ aH.length aN)] 37 (0,0)))/\Aside0 (Below w.heap.size w w'))
  case atStart=>exact⟨(bD),(0),zr,H',⟨Nat.le_refl _⟩,⟨zWm aV⟩,⟨zWm bL⟩,⟨zk aA⟩,⟨zb⟩⟩
  case round =>
   clear H';(try clear c4);(try clear bR);(try clear bQ);(try clear bP);(try clear cA);(try clear bZ);(try clear bY);(try clear bO);(try clear bN);(try clear bM);(try clear bX);(try clear bW);(try clear bV);obtain⟨aM,aC,rfl,HA,HK1,aJ,aG,aA,HB⟩:=hrel
   cases gk with
   |zero=>exact absurd HA.out (by simp[Xj.l0])
   |succ k1 =>
    have H:=HA.out;clear HA;simp only[Xj.l0] at H
    by_cases c14:aC<(aE.length:Int)
    ·rw[if_pos c14] at H;have cF:=decide_eq_true c14;clear c14;obtain⟨eD,H⟩:=zifD H;obtain⟨eC,H⟩:=zifD H;obtain⟨cL,cC,H⟩:=zB H
     by_cases bK:cL=true
     ·subst bK;rw[if_pos rfl] at H;obtain⟨aU,cK,H⟩:=zB H
      by_cases c20:aU=1
      ·rw[if_pos c20] at H;have cE:(aU==1)=true:=beq_iff_eq.mpr c20;have cD:(aU != 1)=false:=bne_eq_false_iff_eq.mpr c20;clear c20;obtain⟨cG,H⟩:=zifA H;obtain⟨bS,aY⟩:∃ y_:List Int,y_=(aM++[rd aE aC]):=⟨_,rfl⟩
       replace H:(Xj.l0 k1 a1 bS aE (aE.length:Int) (wrap64 (aC+1)) aD aI aH)=some r:=zY aY H
       have Ny472:=zA aY;clear aY;have H':=zA H;clear H;have bU:=zT (0<=(aC:Int));have bT:=zT (aC<(aE.length:Int));obtain⟨bC,aW,aX⟩:=Kd.at_int (Kd.R_reads' aG.out).2.2 aC zd zd;cases aW;obtain⟨dZ,dY,dX,dH,dG,dF⟩:=ze3 aA
       go_wp2_with (first|((with_reducible refine zgf 109 rfl ?_);refine zgl 33 Try.func109 #[.agg #[aD,aI,.slice aQ aH.length aN],.int .i64 (rd aE aC)] ?_;(refine(Xg.calls k1 aD aI _ _ aH (rd aE aC) true _ (zCb aR) aT.out cC.out).mono ?_);rintro e eM ⟨rfl,hb⟩;refine⟨_,rfl,?_⟩;replace aJ:=zRb aJ hb;replace aG:=zRb aG hb;replace aA:=zkb aA hb;replace HB:=zbs hb;(try clear hb);obtain⟨dW,dV,dU,dE,dD,dC⟩:=ze3 aA)|(go_at_call 110;(refine(Xp.calls k1 aD aI _ _ aH a1 (rd aE aC) aU _ (zCb aR) aT.out cK.out).mono ?_);rintro e eL ⟨rfl,hb⟩;replace aJ:=zRb aJ hb;replace aG:=zRb aG hb;replace aA:=zkb aA hb;replace HB:=zbs hb;(try clear hb))|((with_reducible refine gate_builtin (b:=.append) (xs:=#[.tmp 41,.tmp 43]) rfl ?_);at_builtin;refine Kd.R_append (Kd.int .i64) (w0:=w) w.heap.size rfl (.tmp 41) (.tmp 43) 22 3 (.int .i64 0) 8 rfl Try.underlying22 info3 rfl (by decide) (by omega) u5 aM (rd aE aC) [.int .i64 (rd aE aC)] (fun k_=>some k_≠(.slice (some bC) aE.length bB:Value).ownBlock) (fun _=>False) rfl rfl ?aP (fun _ hk=>hk.elim) ?aF ?aO ?aB ?aS ?aL ?_;(case aP=>exact rfl);(case aB=>exact zb);(case aF=>exact(fun k_ hk=>Kd.fresh' (Kd.R_lt (zR aG)) k_ hk));(case aO=>exact(zR aJ));(case aS=>exact(below_size zb));(case aL=>have:=cG.out;omega);intro v473 eK ho hb hg hat;rw[<-Ny472.out] at ho;replace aG:=zA (Kd.R_after (ok:=(fun _=>True)) (zWm aG) hg hat);replace aA:=zgr aA hg (Kd.R_ne aJ.out aA.out (by decide));replace HB:=zA hb;have cH:=zA ho;clear aJ;clear ho hb hg hat))
       go_roundg k1
       case measure=>have:=HK1.out;omega
       case rel=>exact⟨(bS),(wrap64 (aC+1)),zr,H',⟨by have:=HK1.out;omega⟩,⟨zR cH⟩,⟨zWm aG⟩,⟨zk aA⟩,⟨zb⟩⟩
      ·rw[if_neg c20] at H;have cE:(aU==1)=false:=beq_eq_false_iff_ne.mpr c20;have cD:(aU != 1)=true:=bne_iff_ne.mpr c20;have H':=zA H;clear H;have bU:=zT (0<=(aC:Int));have bT:=zT (aC<(aE.length:Int));obtain⟨bC,aW,aX⟩:=Kd.at_int (Kd.R_reads' aG.out).2.2 aC zd zd;cases aW;obtain⟨dT,dS,dR,dB,dA,cZ⟩:=ze3 aA
       go_wp2_with (first|((with_reducible refine zgf 109 rfl ?_);refine zgl 33 Try.func109 #[.agg #[aD,aI,.slice aQ aH.length aN],.int .i64 (rd aE aC)] ?_;(refine(Xg.calls k1 aD aI _ _ aH (rd aE aC) true _ (zCb aR) aT.out cC.out).mono ?_);rintro e eJ ⟨rfl,hb⟩;refine⟨_,rfl,?_⟩;replace aJ:=zRb aJ hb;replace aG:=zRb aG hb;replace aA:=zkb aA hb;replace HB:=zbs hb;(try clear hb);obtain⟨dQ,dP,dO,cY,cX,cW⟩:=ze3 aA)|(go_at_call 110;(refine(Xp.calls k1 aD aI _ _ aH a1 (rd aE aC) aU _ (zCb aR) aT.out cK.out).mono ?_);rintro e eI ⟨rfl,hb⟩;replace aJ:=zRb aJ hb;replace aG:=zRb aG hb;replace aA:=zkb aA hb;replace HB:=zbs hb;(try clear hb)))
       go_roundg k1
       case measure=>have:=HK1.out;omega
       case rel=>exact⟨(aM),(wrap64 (aC+1)),zr,H',⟨by have:=HK1.out;omega⟩,⟨zR aJ⟩,⟨zR aG⟩,⟨zk aA⟩,⟨zb⟩⟩
     ·replace bK:=zbq bK;subst bK;rw[if_neg zNo] at H;have H':=zA H;clear H;have bU:=zT (0<=(aC:Int));have bT:=zT (aC<(aE.length:Int));obtain⟨bC,aW,aX⟩:=Kd.at_int (Kd.R_reads' aG.out).2.2 aC zd zd;cases aW;obtain⟨dN,dM,dL,cV,cU,cT⟩:=ze3 aA
      go_wp2_with (first|((with_reducible refine zgf 109 rfl ?_);refine zgl 33 Try.func109 #[.agg #[aD,aI,.slice aQ aH.length aN],.int .i64 (rd aE aC)] ?_;(refine(Xg.calls k1 aD aI _ _ aH (rd aE aC) false _ (zCb aR) aT.out cC.out).mono ?_);rintro e eH ⟨rfl,hb⟩;refine⟨_,rfl,?_⟩;replace aJ:=zRb aJ hb;replace aG:=zRb aG hb;replace aA:=zkb aA hb;replace HB:=zbs hb;(try clear hb)))
      go_roundg k1
      case measure=>have:=HK1.out;omega
      case rel=>exact⟨(aM),(wrap64 (aC+1)),zr,H',⟨by have:=HK1.out;omega⟩,⟨zR aJ⟩,⟨zR aG⟩,⟨zk aA⟩,⟨zb⟩⟩
    ·rw[if_neg c14] at H;have cF:=decide_eq_false c14;clear c14;obtain⟨cM,eA,H⟩:=zB H;obtain rfl:=zI H;obtain⟨bF,bE,cO⟩:=Kd.R_slice aJ.out;subst cO
     go_wp2_with (first|((with_reducible refine zgf 111 rfl ?_);refine zgl 47 Try.func111 #[.slice bF aM.length bE] ?_;(refine(Xe.calls k1 (fun k_=>some k_=(.slice bF aM.length bE:Value).ownBlock) (.slice bF aM.length bE) aM cM w _ zb (Kd.R_tight rfl aJ.out) eA.out).mono ?_);rintro e eG ⟨v467,rfl,ho0,hb,hkp⟩;refine⟨_,rfl,?_⟩;replace aA:=zA (blk_kept (zk aA) hkp (fun hs_=>(fun e_=>(Kd.R_ne aJ.out aA.out (by decide)) e_) hs_));have cI:=zA (Kd.R_mono (ok':=fun k_=>some k_≠(.slice bG aE.length bB:Value).ownBlock) ho0 (fun k_ hk_=>Or.elim hk_ (fun hs_=>fun e_=>(((aG.out).1 k_ e_.symm)) hs_) (fun hn_=>(Kd.fresh' (Kd.R_lt (zR aG)) k_ hn_))));replace aG:=zA (Kd.R_mono (ok':=fun k_=>some k_≠(v467:Value).ownBlock) (Kd.R_keptB (aG.out) hkp (fun k_ hk_ hs_=>(hk_) hs_)) (fun k_ hk_=>fun e_=>Or.elim (ho0.1 k_ e_.symm) (fun hs_=>hk_.2.1 hs_) (fun hn_=>Nat.not_le.2 hk_.2.2 hn_)));replace HB:=zA hb;clear aJ;(try clear hb);(try clear hkp);(try clear ho0)))
     go_ret;exact⟨_,zE,zWm cI,zb⟩
 ·replace c4:=zbq c4;subst c4;rw[if_neg zNo] at H;obtain rfl:=zI H;go_enter Try.func68,Try.ntmps68
  go_wp2_with (first|((with_reducible refine zgd 2 rfl ?_);refine zbx 2 #[aD,aI,.slice aQ aH.length aN] 37 ?_;intro bJ hg eF b' hb;have aA:=zA b';have cJ:=zga (w:=w) hg;replace HB:=zbs hb;clear hb b' hg;obtain⟨dK,dJ,dI,cS,cR,cQ⟩:=ze3 aA)|((with_reducible refine zgf 108 rfl ?_);refine zgl 10 Try.func108 #[.agg #[aD,aI,.slice aQ aH.length aN],a1] ?_;(refine(XF.calls k aD aI _ _ aH a1 false _ (zCb aR) aT.out A3.out).mono ?_);rintro e eE ⟨rfl,hb⟩;refine⟨_,rfl,?_⟩;replace aA:=zkb aA hb;replace HB:=zbs hb;(try clear hb)))
  go_ret;exact⟨_,zE,by first|exact Kd.R_nil _ _ _ _ _|exact Kd.N_nil _ _ _ _ _|exact Kd.V_nil _ _ _ _ _|exact Kd.Q_nil _ _ _ _ _|exact Kd.S_nil _ _ _ _ _,zb⟩

mutual
def X1.l0:Nat->List Int->List Int->Int->Int->Int->Int->List Int->Option (List Int)
  |0,_,_,_,_,_,_,_=>none
  |k+1,x1,x5,x15,x16,x476000,x476001,x476002=>if x16<x15 then(if x5.length<17592186044416 then(X1.l0 k x1 (x5++[(-1)]) x15 (wrap64 (x16+1)) x476000 x476001 x476002) else(none)) else(X1.l1 k x5 (([]:List Int)) x1 (x1.length:Int) 0 x476000 x476001 x476002)
def X1.l1:Nat->List Int->List Int->List Int->Int->Int->Int->Int->List Int->Option (List Int)
  |0,_,_,_,_,_,_,_,_=>none
  |k+1,x5,x6,x23,x24,x25,x476000,x476001,x476002=>if x25<x24 then(if 0<=x25 then(if x25<(x23.length:Int) then((Xg.f k x476000 x476001 x476002 (rd x23 x25)).bind fun t486=>(if t486=true then(if 0<=(rd x23 x25) then(if (rd x23 x25)<(x5.length:Int) then(if (rd x5 (rd x23 x25))<0 then(if x6.length<17592186044416 then(X1.l1 k (x5.set ((rd x23 x25):Int).toNat 0) (x6++[rd x23 x25]) x23 x24 (wrap64 (x25+1)) x476000 x476001 x476002) else(none)) else(X1.l1 k x5 x6 x23 x24 (wrap64 (x25+1)) x476000 x476001 x476002)) else(none)) else(none)) else(X1.l1 k x5 x6 x23 x24 (wrap64 (x25+1)) x476000 x476001 x476002))) else(none)) else(none)) else(X1.l2 k x5 x6 x476000 x476001 x476002)
def X1.l2:Nat->List Int->List Int->Int->Int->List Int->Option (List Int)
  |0,_,_,_,_,_=>none
  |k+1,x5,x6,x476000,x476001,x476002=>if (x6.length:Int)>0 then(if 0<(x6.length:Int) then(if 1<=(x6.length:Int) then((Xj.f k x476000 x476001 x476002 (rd x6 0)).bind fun t496=>(X1.l3 k x5 (x6.drop (1:Int).toNat) (rd x6 0) t496 (t496.length:Int) 0 x476000 x476001 x476002)) else(none)) else(none)) else(some x5)
def X1.l3:Nat->List Int->List Int->Int->List Int->Int->Int->Int->Int->List Int->Option (List Int)
  |0,_,_,_,_,_,_,_,_,_=>none
  |k+1,x5,x6,x9,x57,x58,x59,x476000,x476001,x476002=>if x59<x58 then(if 0<=x59 then(if x59<(x57.length:Int) then(if 0<=(rd x57 x59) then(if (rd x57 x59)<(x5.length:Int) then(if (rd x5 (rd x57 x59))<0 then(if 0<=x9 then(if x9<(x5.length:Int) then(if x6.length<17592186044416 then(X1.l3 k (x5.set ((rd x57 x59):Int).toNat (wrap64 ((rd x5 x9)+1))) (x6++[rd x57 x59]) x9 x57 x58 (wrap64 (x59+1)) x476000 x476001 x476002) else(none)) else(none)) else(none)) else(X1.l3 k x5 x6 x9 x57 x58 (wrap64 (x59+1)) x476000 x476001 x476002)) else(none)) else(none)) else(none)) else(none)) else(X1.l2 k x5 x6 x476000 x476001 x476002)
end
def X1.f (k:Nat) (a0_0:Int) (a0_1:Int) (l0_2:List Int) (l1:List Int):Option (List Int):=X1.l0 k l1 (([]:List Int)) (l0_2.length:Int) 0 a0_0 a0_1 l0_2
theorem X1.calls (k:Nat) (aK:Int) (aJ:Int) (aW:Option Addr) (aV:Nat) (aH:List Int) (A1:Option Addr) (c1:Nat) (l1:List Int) (r:List Int) (w:World) (dT:Kd.C (Kd.int .i64) w aW aH.length aH) (dU:aH.length<=aV) (fW:Kd.C (Kd.int .i64) w A1 l1.length l1) (fX:l1.length<=c1) (h:X1.f k aK aJ aH l1=some r) :
  Calls Try.prog 128 #[.agg #[aK,aJ,.slice aW aH.length aV],.slice A1 l1.length c1] w fun e w'=>∃ v0_:Value,e=.returned (v0_)/\Kd.R (Kd.int .i64) 3 w' w.heap.size (fun _=>True) v0_ r/\Below w.heap.size w w':=by
 have hu37:=Try.underlying37;have bP:=zA dT;have bR:=zA dU;clear dT dU;have fC:=zA fW;have hU:=zA fX;clear fW fX;have HB:=zA (Below.refl w.heap.size w);have H:=h;clear h;unfold X1.f at H;obtain⟨eS,dD⟩:∃ y_:List Int,y_=(([]:List Int)):=⟨_,rfl⟩
 replace H:(X1.l0 k l1 eS (aH.length:Int) 0 aK aJ aH)=some r:=zY dD H
 have Ny476:=zA dD;clear dD;have H':=zA H;clear H;go_enter Try.func128,Try.ntmps128
 go_wp2_with (first|((with_reducible refine zgd 2 rfl ?_);refine zbx 2 #[aK,aJ,.slice aW aH.length aV] 37 ?_;intro bO hg w3 b' hb;have aA:=zA b';have gV:=zga (w:=w) hg;replace HB:=zbs hb;clear hb b' hg)|((with_reducible refine zgd 12 rfl ?_);refine Kd.R_lit (Kd.int .i64) _ 3 ?hg (N:=12) ?hd (xs:=([]:List Int)) (inner:=[]) (ok:=fun _=>True) (okp:=fun _=>True) ?hr ?hp (fun _ hk=>hk) trivial (Below.refl _ _) (Nat.le_refl _) (by simp) ?_;(case hd=>rfl);(case hg=>rfl);(case hr=>first|(go_simp;done)|(go_simp;rfl));(case hp=>exact(Reps.none _ _));intro v477 w4 ho5 hb hg_ hnew_;clear hg_ hnew_;(first|rw[<-Ny476.out] at ho5|(simp only[Int.reduceToNat] at ho5;rw[<-Ny476.out] at ho5));have fT:=zA (Kd.R_lower ho5 (below_size zb));replace aA:=zkb aA hb;replace HB:=zbs hb;clear hb ho5;obtain⟨bK,bJ,bI,bH,bG,bF⟩:=ze3 aA))
 go_loopg [5,16] k (fun kq v5 v16 w'=>∃ (bC:List Int) (aZ:Int),v16=.int .i64 aZ/\Aside0 (X1.l0 kq l1 bC (aH.length:Int) aZ aK aJ aH=some r)/\Aside0 (kq<=k)/\Aside0 (Kd.R (Kd.int .i64) 3 w' w.heap.size (fun _=>True) v5 bC)/\Aside0 (w'.heap[bO]?=some (.cells #[aK,aJ,(.slice aW aH.length aV)] 37 (0,0)))/\Aside0 (Below w.heap.size w w'))
 case atStart=>exact⟨(eS),(0),zr,H',⟨Nat.le_refl _⟩,⟨zR fT⟩,⟨zk aA⟩,⟨zb⟩⟩
 case round =>
  clear H';(try clear c1);(try clear bK);(try clear bJ);(try clear bI);(try clear bH);(try clear bG);(try clear bF);obtain⟨bC,aZ,rfl,HA,HK1,aC,aA,HB⟩:=hrel
  cases gk with
  |zero=>exact absurd HA.out (by simp[X1.l0])
  |succ k1 =>
   have H:=HA.out;clear HA;simp only[X1.l0] at H
   by_cases c7:aZ<(aH.length:Int)
   ·rw[if_pos c7] at H;have dG:=decide_eq_true c7;clear c7;obtain⟨gM,H⟩:=zifA H;obtain⟨eR,dC⟩:∃ y_:List Int,y_=(bC++[(-1)]):=⟨_,rfl⟩
    replace H:(X1.l0 k1 l1 eR (aH.length:Int) (wrap64 (aZ+1)) aK aJ aH)=some r:=zY dC H
    have Ny479:=zA dC;clear dC;have H':=zA H;clear H
    go_wp2_with (first|((with_reducible refine gate_builtin (b:=.append) (xs:=#[.tmp 18,.tmp 19]) rfl ?_);at_builtin;refine Kd.R_append (Kd.int .i64) (w0:=w) w.heap.size rfl (.tmp 18) (.tmp 19) 22 3 (.int .i64 0) 8 rfl Try.underlying22 info3 rfl (by decide) (by omega) u5 bC (-1) [.int .i64 (-1)] (fun _=>True) (fun _=>False) rfl rfl ?aP (fun _ hk=>hk.elim) ?aF ?aO ?aB ?aS ?aL ?_;(case aP=>exact rfl);(case aB=>exact zb);(case aF=>exact(fun _ _=>trivial));(case aO=>exact(zR aC));(case aS=>exact(below_size zb));(case aL=>have:=gM.out;omega);intro v480 w9 ho hb hg hat;rw[<-Ny479.out] at ho;replace aA:=zgr aA hg (Kd.R_ne aC.out aA.out (by decide));replace HB:=zA hb;have fS:=zA ho;clear aC;clear ho hb hg hat))
    go_roundg k1
    case measure=>have:=HK1.out;omega
    case rel=>exact⟨(eR),(wrap64 (aZ+1)),zr,H',⟨by have:=HK1.out;omega⟩,⟨zR fS⟩,⟨zk aA⟩,⟨zb⟩⟩
   ·rw[if_neg c7] at H;have dG:=decide_eq_false c7;clear c7;obtain⟨eQ,dB⟩:∃ y_:List Int,y_=(([]:List Int)):=⟨_,rfl⟩
    replace H:(X1.l1 k1 bC eQ l1 (l1.length:Int) 0 aK aJ aH)=some r:=zY dB H
    have Ny482:=zA dB;clear dB;have H':=zA H;clear H
    go_wp2_with (first|((with_reducible refine zgd 22 rfl ?_);refine Kd.R_lit (Kd.int .i64) _ 3 ?hg (N:=22) ?hd (xs:=([]:List Int)) (inner:=[]) (ok:=fun _=>True) (okp:=fun _=>True) ?hr ?hp (fun _ hk=>hk) trivial (Below.refl _ _) (Nat.le_refl _) (by simp) ?_;(case hd=>rfl);(case hg=>rfl);(case hr=>first|(go_simp;done)|(go_simp;rfl));(case hp=>exact(Reps.none _ _));intro v483 hT ho11 hb hg_ hnew_;clear hg_ hnew_;(first|rw[<-Ny482.out] at ho11|(simp only[Int.reduceToNat] at ho11;rw[<-Ny482.out] at ho11));have fR:=zA (Kd.R_lower (Kd.R_new' ho11 (Kd.R_lt (zR aC))) (below_size zb));replace aC:=zA (Kd.R_elder' (zR aC) (Kd.R_base ho11) hb);replace aA:=zkb aA hb;replace HB:=zbs hb;clear hb ho11))
    go_loopg [6,25] k1 (fun kq v6 v25 w'=>∃ (aT:List Int) (aX:List Int) (aD:Int),v25=.int .i64 aD/\Aside0 (X1.l1 kq aT aX l1 (l1.length:Int) aD aK aJ aH=some r)/\Aside0 (kq<=k1)/\Aside0 (Kd.R (Kd.int .i64) 3 w' w.heap.size (fun k_=>some k_≠(v6:Value).ownBlock) u5 aT)/\Aside0 (Kd.Q (Kd.int .i64) 3 w' w.heap.size (fun k_=>some k_≠(u5:Value).ownBlock) v6 aX)/\Aside0 (w'.heap[bO]?=some (.cells #[aK,aJ,(.slice aW aH.length aV)] 37 (0,0)))/\Aside0 (Below w.heap.size w w'))
    case atStart=>exact⟨(bC),(eQ),(0),zr,H',⟨Nat.le_refl _⟩,⟨zWm aC⟩,⟨Kd.Q_of_R (zWm fR)⟩,⟨zk aA⟩,⟨zb⟩⟩
    case round =>
     clear H';(try clear c1);(try clear c7);(try clear dG);(try clear c8);(try clear bK);(try clear bJ);(try clear bI);(try clear bH);(try clear bG);(try clear bF);obtain⟨aT,aX,aD,rfl,HA,HK2,aC,aM,aA,HB⟩:=hrel
     cases gk with
     |zero=>exact absurd HA.out (by simp[X1.l1])
     |succ k2 =>
      have H:=HA.out;clear HA;simp only[X1.l1] at H
      by_cases c12:aD<(l1.length:Int)
      ·rw[if_pos c12] at H;have dI:=decide_eq_true c12;clear c12;obtain⟨eC,H⟩:=zifD H;obtain⟨eB,H⟩:=zifD H;obtain⟨fY,fE,H⟩:=zB H
       by_cases cP:fY=true
       ·subst cP;rw[if_pos rfl] at H;obtain⟨eA,H⟩:=zifD H;obtain⟨dZ,H⟩:=zifD H
        by_cases c19:(rd aT (rd l1 aD))<0
        ·rw[if_pos c19] at H;have dH:=decide_eq_true c19;clear c19;obtain⟨cR,dA⟩:∃ y_:List Int,y_=(aT.set ((rd l1 aD):Int).toNat 0):=⟨_,rfl⟩
         replace H:(if aX.length<17592186044416 then(X1.l1 k2 cR (aX++[rd l1 aD]) l1 (l1.length:Int) (wrap64 (aD+1)) aK aJ aH) else(none))=some r:=zY dA H
         have Ny488:=zA dA;clear dA;obtain⟨fO,H⟩:=zifA H;obtain⟨eP,cZ⟩:∃ y_:List Int,y_=(aX++[rd l1 aD]):=⟨_,rfl⟩
         replace H:(X1.l1 k2 cR eP l1 (l1.length:Int) (wrap64 (aD+1)) aK aJ aH)=some r:=zY cZ H
         have Ny489:=zA cZ;clear cZ;have H':=zA H;clear H;have cV:=zT (0<=(aD:Int));have cT:=zT (aD<(l1.length:Int));obtain⟨eE,bV,aR⟩:=Kd.at_int fC.out aD zd zd;cases bV;replace aR:=zC HB aR;obtain⟨cO,cN,cM,cF,cE,cD⟩:=ze3 aA
         go_wp2_with (first|((with_reducible refine zgf 109 rfl ?_);refine zgl 31 Try.func109 #[.agg #[aK,aJ,.slice aW aH.length aV],.int .i64 (rd l1 aD)] ?_;(refine(Xg.calls k2 aK aJ _ _ aH (rd l1 aD) true _ (zCb bP) bR.out fE.out).mono ?_);rintro e fV ⟨rfl,hb⟩;refine⟨_,rfl,?_⟩;replace aC:=zRb aC hb;replace aM:=zA (Kd.Q_below (zQ aM) hb);replace aA:=zkb aA hb;replace HB:=zbs hb;(try clear hb);obtain⟨hN,dF,gJ⟩:=Kd.R_slice aC.out;subst gJ;have dN:=zT (0<=((rd l1 aD):Int));have dM:=zT ((rd l1 aD)<(aT.length:Int));obtain⟨fM,dR,bA⟩:=Kd.at_int (Kd.R_reads' aC.out).2.2 (rd l1 aD) zd zd;cases dR;have bU:0<=((rd l1 aD):Int):=zd;have bT:((rd l1 aD):Int)<((aT.length:Int):Int):=zd;obtain⟨go20,hF,fA,eY,gl20,cl20,HG20⟩:=Kd.R_form aC.out (by omega);(first|cases fA|(injection fA with ea_ en_ ec_;(first|subst ea_|(injection ea_ with ea_;subst ea_));subst ec_;clear en_));have GB20:=zA eY;have GG20:=zA HG20;clear eY gl20 HG20;(first|simp only[add_plain] at bA|skip);obtain⟨dK,hf20_0⟩:=Kd.R_celln 0 aC.out ((rd l1 aD):Int) bU bT;replace bU:=eq_true bU;replace bT:=eq_true bT;obtain⟨hy25_,hz25_⟩:=Kd.R_celln 0 aC.out ((rd l1 aD):Int) zd zd;have HP25:=Kd.R_putg aC.out ((rd l1 aD):Int) 0)|((with_reducible refine gate_store (t:=3) (p:=41) rfl ?_);refine store_event (t:=3) (p:=41) (v:=?vo_w26) (w1:=(fV.setCell ⟨go20,((rd l1 aD):Int).toNat,none⟩ (.int .i64 0))) ?hg ?ho ?hn ?hr ?_;(case ho=>rfl);(case hg=>rfl);(case hn=>rfl);(case hr=>first|(go_simp;done)|(go_simp;rfl));intro eU hw;have hg:fV.grownBy eU (some go20):=(by rw[hw];exact HP25.2);have hp_:Kd.R (Kd.int .i64) 3 eU w.heap.size (fun k_=>some k_≠(u6:Value).ownBlock) (.slice (some ⟨go20,0,none⟩) aT.length dF) cR:=(by rw[hw,Ny488.out];exact HP25.1);clear HP25;replace aM:=zA (Kd.Q_after (v:=(.slice (some ⟨go20,0,none⟩) aT.length dF)) (v1:=(.slice (some ⟨go20,0,none⟩) aT.length dF)) (ok:=(fun _=>True)) (zWm aM) hg (.inl rfl));replace aA:=zgr aA hg (Kd.R_ne aC.out aA.out (by decide));replace aC:=zA hp_;replace HB:=zA ((by rw[hw];exact below_set (HB.out) GB20.out:Below w.heap.size w eU));clear hg hw hp_)|((with_reducible refine gate_builtin (b:=.append) (xs:=#[.tmp 42,.tmp 44]) rfl ?_);at_builtin;refine Kd.Q_append (Kd.int .i64) (w0:=w) w.heap.size rfl (.tmp 42) (.tmp 44) 22 3 (.int .i64 0) 8 rfl Try.underlying22 info3 rfl (by decide) (by omega) u6 aX (rd l1 aD) [.int .i64 (rd l1 aD)] (fun k_=>some k_≠(.slice (some ⟨go20,0,none⟩) aT.length dF:Value).ownBlock) (fun _=>False) rfl rfl ?aP (fun _ hk=>hk.elim) ?aF ?aO ?aB ?aS ?aL ?_;(case aP=>exact rfl);(case aB=>exact zb);(case aF=>exact(fun k_ hk=>Kd.fresh' (Kd.R_lt (zR aC)) k_ hk));(case aO=>exact(zWm aM));(case aS=>exact(below_size zb));(case aL=>have:=fO.out;omega);intro v490 hS ho hb hg hat;rw[<-Ny489.out] at ho;replace aC:=zA (Kd.R_after (ok:=(fun _=>True)) (zWm aC) hg hat);replace aA:=zgr aA hg (Kd.Q_ne aM.out aA.out (by decide));replace HB:=zA hb;have fQ:=zA ho;clear aM;clear ho hb hg hat))
         go_roundg k2
         case measure=>have:=HK1.out;have:=HK2.out;omega
         case rel=>exact⟨(cR),(eP),(wrap64 (aD+1)),zr,H',⟨by have:=HK1.out;have:=HK2.out;omega⟩,⟨zWm aC⟩,⟨zQ fQ⟩,⟨zk aA⟩,⟨zb⟩⟩
        ·rw[if_neg c19] at H;have dH:=decide_eq_false c19;clear c19;have H':=zA H;clear H;have cV:=zT (0<=(aD:Int));have cT:=zT (aD<(l1.length:Int));obtain⟨eE,bV,aR⟩:=Kd.at_int fC.out aD zd zd;cases bV;replace aR:=zC HB aR;obtain⟨cL,cK,cJ,cC,cB,cA⟩:=ze3 aA
         go_wp2_with (first|((with_reducible refine zgf 109 rfl ?_);refine zgl 31 Try.func109 #[.agg #[aK,aJ,.slice aW aH.length aV],.int .i64 (rd l1 aD)] ?_;(refine(Xg.calls k2 aK aJ _ _ aH (rd l1 aD) true _ (zCb bP) bR.out fE.out).mono ?_);rintro e hR ⟨rfl,hb⟩;refine⟨_,rfl,?_⟩;replace aC:=zRb aC hb;replace aM:=zA (Kd.Q_below (zQ aM) hb);replace aA:=zkb aA hb;replace HB:=zbs hb;(try clear hb);obtain⟨hM,hE,gI⟩:=Kd.R_slice aC.out;subst gI;have dN:=zT (0<=((rd l1 aD):Int));have dM:=zT ((rd l1 aD)<(aT.length:Int));obtain⟨fM,dR,bA⟩:=Kd.at_int (Kd.R_reads' aC.out).2.2 (rd l1 aD) zd zd;cases dR))
         go_roundg k2
         case measure=>have:=HK1.out;have:=HK2.out;omega
         case rel=>exact⟨(aT),(aX),(wrap64 (aD+1)),zr,H',⟨by have:=HK1.out;have:=HK2.out;omega⟩,⟨zR aC⟩,⟨zQ aM⟩,⟨zk aA⟩,⟨zb⟩⟩
       ·replace cP:=zbq cP;subst cP;rw[if_neg zNo] at H;have H':=zA H;clear H;have cV:=zT (0<=(aD:Int));have cT:=zT (aD<(l1.length:Int));obtain⟨eE,bV,aR⟩:=Kd.at_int fC.out aD zd zd;cases bV;replace aR:=zC HB aR;obtain⟨cI,cH,cG,bZ,bY,bX⟩:=ze3 aA
        go_wp2_with (first|((with_reducible refine zgf 109 rfl ?_);refine zgl 31 Try.func109 #[.agg #[aK,aJ,.slice aW aH.length aV],.int .i64 (rd l1 aD)] ?_;(refine(Xg.calls k2 aK aJ _ _ aH (rd l1 aD) false _ (zCb bP) bR.out fE.out).mono ?_);rintro e hQ ⟨rfl,hb⟩;refine⟨_,rfl,?_⟩;replace aC:=zRb aC hb;replace aM:=zA (Kd.Q_below (zQ aM) hb);replace aA:=zkb aA hb;replace HB:=zbs hb;(try clear hb)))
        go_roundg k2
        case measure=>have:=HK1.out;have:=HK2.out;omega
        case rel=>exact⟨(aT),(aX),(wrap64 (aD+1)),zr,H',⟨by have:=HK1.out;have:=HK2.out;omega⟩,⟨zR aC⟩,⟨zQ aM⟩,⟨zk aA⟩,⟨zb⟩⟩
      ·rw[if_neg c12] at H;have dI:=decide_eq_false c12;clear c12;have H':=zA H;clear H;go_wp2
       go_loopg [6] k2 (fun kq v6 w'=>∃ (bS:List Int) (aI:List Int),Aside0 (X1.l2 kq bS aI aK aJ aH=some r)/\Aside0 (kq<=k2)/\Aside0 (Kd.R (Kd.int .i64) 3 w' w.heap.size (fun k_=>some k_≠(v6:Value).ownBlock) u5 bS)/\Aside0 (Kd.Q (Kd.int .i64) 3 w' w.heap.size (fun k_=>some k_≠(u5:Value).ownBlock) v6 aI)/\Aside0 (w'.heap[bO]?=some (.cells #[aK,aJ,(.slice aW aH.length aV)] 37 (0,0)))/\Aside0 (Below w.heap.size w w'))
       case atStart=>exact⟨(aT),(aX),H',⟨Nat.le_refl _⟩,⟨zR aC⟩,⟨zQ aM⟩,⟨zk aA⟩,⟨zb⟩⟩
       case round =>
        clear H';(try clear c1);(try clear c7);(try clear dG);(try clear c8);(try clear c12);(try clear dI);(try clear c13);(try clear eC);(try clear c14);(try clear eB);(try clear cP);(try clear c17);(try clear eA);(try clear c18);(try clear dZ);(try clear c19);(try clear dH);(try clear bU);(try clear bT);(try clear c21);(try clear cO);(try clear cN);(try clear cM);(try clear cL);(try clear cK);(try clear cJ);(try clear cI);(try clear cH);(try clear cG);(try clear bK);(try clear bJ);(try clear bI);(try clear cF);(try clear cE);(try clear cD);(try clear cC);(try clear cB);(try clear cA);(try clear bZ);(try clear bY);(try clear bX);(try clear bH);(try clear bG);(try clear bF);(try clear dK);(try clear aR);(try clear bA);(try clear bU);(try clear cV);(try clear dN);(try clear bT);(try clear cT);(try clear dM);obtain⟨bS,aI,HA,HK3,aC,aM,aA,HB⟩:=hrel
        cases gk with
        |zero=>exact absurd HA.out (by simp[X1.l2])
        |succ k3 =>
         have H:=HA.out;clear HA;simp only[X1.l2] at H
         by_cases c33:(aI.length:Int)>0
         ·rw[if_pos c33] at H;have dY:decide (0<(aI.length:Int))=true:=decide_eq_true c33;have dX:decide (0<aI.length)=true:=decide_eq_true (by omega);clear c33;obtain⟨fB,H⟩:=zif H;have fK:=decide_eq_true fB;have fJ:decide (0<aI.length)=true:=decide_eq_true (by omega);clear fB;obtain⟨dW,H⟩:=zif H;have fI:=eq_true dW;have fH:=decide_eq_true dW;clear dW;obtain⟨bB,cY⟩:∃ y_:List Int,y_=(aI.drop (1:Int).toNat):=⟨_,rfl⟩
          replace H:((Xj.f k3 aK aJ aH (rd aI 0)).bind fun aG=>(X1.l3 k3 bS bB (rd aI 0) aG (aG.length:Int) 0 aK aJ aH))=some r:=zY cY H
          have Ny493:=zA cY;clear cY;obtain⟨aG,gO,H⟩:=zB H;have H':=zA H;clear H;obtain⟨hJ,dE,gH,_⟩:=Kd.Q_slice aM.out;subst gH;have cU:0<=(0:Int):=(by omega);have cS:0<(aI.length:Int):=zd;obtain⟨bM,gL,bN⟩:=Kd.at_int (Kd.Q_reads' aM.out).2.2 0 cU cS;cases gL;have qi492:(0<aI.length)=True:=eq_true (by omega);(try rw[show ((0:Int)).toNat=0 from rfl] at bN);(try rw[Addr.add_zero'] at bN);replace cU:=eq_true cU;replace cS:=eq_true cS;have dJ:(1:Int)<=((aI.length:Int):Int):=zd;obtain⟨i038,hi038,_,hsz38,_⟩:=info_parts info3;have hcut38:=cut_from (P:=Try.prog) 22 3 .i64 Try.underlying22 hi038 1 hsz38 (some bM) aI.length dE 1 (by omega) dJ;have hr38:=Kd.Q_drop (k:=(1:Int).toNat) aM.out (by omega);obtain⟨fD,hA38⟩:∃ A1,A1=(if dE=(1:Int).toNat then(some bM) else((some bM):Option Addr).map (·.add ((1:Int).toNat * 1))):=⟨_,rfl⟩;obtain⟨dV,hc38⟩:∃ c1,c1=dE-(1:Int).toNat:=⟨_,rfl⟩;have dO:bB.length=aI.length-(1:Int).toNat:=(by rw[Ny493.out,List.length_drop]);rw[<-Ny493.out] at hr38;rw[<-dO,<-hA38,<-hc38] at hcut38;replace hr38:Kd.Q (Kd.int .i64) 3 wr w.heap.size (fun k_=>some k_≠(u5:Value).ownBlock) (.slice fD bB.length dV) bB:=(by rw[hA38,hc38,dO];exact hr38);have HE38:Aside0 ((Value.slice fD bB.length dV).ownBlock=(.slice (some bM) aI.length dE:Value).ownBlock):=⟨by rw[hA38];split <;> (cases ((some bM):Option Addr) <;> rfl)⟩;clear dO hi038 hsz38 aM hA38 hc38;have bQ:=zA hr38;clear hr38;replace dJ:=eq_true dJ;have n_:=zA (Kd.R_mono (ok':=fun k_=>some k_≠(.slice fD bB.length dV:Value).ownBlock) aC.out (fun k_ hk=>(by rw[HE38.out];exact hk)));clear aC;have aC:=n_;clear n_;obtain⟨eN,eM,eL,eK,eJ,eI⟩:=ze3 aA
          go_wp2_with (first|((with_reducible refine zgf 68 rfl ?_);refine zgl 57 Try.func68 #[.agg #[aK,aJ,.slice aW aH.length aV],.int .i64 (rd aI 0)] ?_;(refine(Xj.calls k3 aK aJ _ _ aH (rd aI 0) aG _ (zCb bP) bR.out gO.out).mono ?_);rintro e hP ⟨v497,rfl,ho0,hb⟩;refine⟨_,rfl,?_⟩;have eF:=zA (Kd.R_lower (Kd.R_new' (Kd.R_new' ho0 (Kd.R_lt (zR aC))) (Kd.Q_lt (zQ bQ))) (below_size zb));replace aC:=zA (Kd.R_elder' (zR aC) (Kd.R_base ho0) hb);replace bQ:=zA (Kd.Q_elder' (zQ bQ) (Kd.R_base ho0) hb);replace aA:=zkb aA hb;replace HB:=zbs hb;(try clear hb);(try clear ho0);obtain⟨dS,bE,gG⟩:=Kd.R_slice eF.out;subst gG))
          go_loopg [6,59] k3 (fun kq v6 v59 w'=>∃ (aQ:List Int) (aY:List Int) (aE:Int),v59=.int .i64 aE/\Aside0 (X1.l3 kq aQ aY (rd aI 0) aG (aG.length:Int) aE aK aJ aH=some r)/\Aside0 (kq<=k3)/\Aside0 (Kd.R (Kd.int .i64) 3 w' w.heap.size (fun k_=>some k_≠(v6:Value).ownBlock/\some k_≠((.slice dS aG.length bE):Value).ownBlock) u5 aQ)/\Aside0 (Kd.Q (Kd.int .i64) 3 w' w.heap.size (fun k_=>some k_≠(u5:Value).ownBlock/\some k_≠((.slice dS aG.length bE):Value).ownBlock) v6 aY)/\Aside0 (Kd.R (Kd.int .i64) 3 w' w.heap.size (fun k_=>some k_≠(u5:Value).ownBlock/\some k_≠(v6:Value).ownBlock) (.slice dS aG.length bE) aG)/\Aside0 (w'.heap[bO]?=some (.cells #[aK,aJ,(.slice aW aH.length aV)] 37 (0,0)))/\Aside0 (Below w.heap.size w w'))
          case atStart=>exact⟨(bS),(bB),(0),zr,H',⟨Nat.le_refl _⟩,⟨zR aC⟩,⟨zQ bQ⟩,⟨zWm eF⟩,⟨zk aA⟩,⟨zb⟩⟩
          case round =>
           clear H';(try clear c1);(try clear c7);(try clear dG);(try clear c8);(try clear c12);(try clear dI);(try clear c13);(try clear eC);(try clear c14);(try clear eB);(try clear cP);(try clear c17);(try clear eA);(try clear c18);(try clear dZ);(try clear c19);(try clear dH);(try clear bU);(try clear bT);(try clear c21);(try clear c33);(try clear dY);(try clear dX);(try clear fB);(try clear fK);(try clear fJ);(try clear dW);(try clear fI);(try clear fH);(try clear dV);(try clear dJ);(try clear cO);(try clear cN);(try clear cM);(try clear cL);(try clear cK);(try clear cJ);(try clear cI);(try clear cH);(try clear cG);(try clear eN);(try clear eM);(try clear eL);(try clear bK);(try clear bJ);(try clear bI);(try clear cF);(try clear cE);(try clear cD);(try clear cC);(try clear cB);(try clear cA);(try clear bZ);(try clear bY);(try clear bX);(try clear eK);(try clear eJ);(try clear eI);(try clear bH);(try clear bG);(try clear bF);(try clear dK);(try clear aR);(try clear bA);(try clear bN);(try clear bU);(try clear cV);(try clear dN);(try clear cU);(try clear bT);(try clear dJ);(try clear cT);(try clear dM);(try clear cS);obtain⟨aQ,aY,aE,rfl,HA,HK4,aC,aM,aU,aA,HB⟩:=hrel
           cases gk with
           |zero=>exact absurd HA.out (by simp[X1.l3])
           |succ k4 =>
            have H:=HA.out;clear HA;simp only[X1.l3] at H
            by_cases c42:aE<(aG.length:Int)
            ·rw[if_pos c42] at H;have fG:=decide_eq_true c42;clear c42;obtain⟨gU,H⟩:=zifD H;obtain⟨gT,H⟩:=zifD H;obtain⟨gS,H⟩:=zifD H;obtain⟨gR,H⟩:=zifD H
             by_cases c47:(rd aQ (rd aG aE))<0
             ·rw[if_pos c47] at H;have fF:=decide_eq_true c47;clear c47;obtain⟨gQ,H⟩:=zifD H;obtain⟨gP,H⟩:=zifD H;obtain⟨cQ,cX⟩:∃ y_:List Int,y_=(aQ.set ((rd aG aE):Int).toNat (wrap64 ((rd aQ (rd aI 0))+1))):=⟨_,rfl⟩
              replace H:(if aY.length<17592186044416 then(X1.l3 k4 cQ (aY++[rd aG aE]) (rd aI 0) aG (aG.length:Int) (wrap64 (aE+1)) aK aJ aH) else(none))=some r:=zY cX H
              have Ny502:=zA cX;clear cX;obtain⟨fN,H⟩:=zifA H;obtain⟨eO,cW⟩:∃ y_:List Int,y_=(aY++[rd aG aE]):=⟨_,rfl⟩
              replace H:(X1.l3 k4 cQ eO (rd aI 0) aG (aG.length:Int) (wrap64 (aE+1)) aK aJ aH)=some r:=zY cW H
              have Ny503:=zA cW;clear cW;have H':=zA H;clear H;have gC:=zT (0<=(aE:Int));have gA:=zT (aE<(aG.length:Int));obtain⟨bL,dQ,eH⟩:=Kd.at_int (Kd.R_reads' aU.out).2.2 aE zd zd;cases dQ;obtain⟨hI,bD,gF⟩:=Kd.R_slice aC.out;subst gF;have gB:=zT (0<=((rd aG aE):Int));have fZ:=zT ((rd aG aE)<(aQ.length:Int));obtain⟨eD,dP,bW⟩:=Kd.at_int (Kd.R_reads' aC.out).2.2 (rd aG aE) zd zd;cases dP;have gX:=zT (0<=((rd aI 0):Int));have gW:=zT ((rd aI 0)<(aQ.length:Int));obtain⟨fL,gK,eG⟩:=Kd.at_int (Kd.R_reads' aC.out).2.2 (rd aI 0) zd zd;obtain rfl:eD=fL:=(by injection gK);have eW:0<=((rd aG aE):Int):=zd;have eV:((rd aG aE):Int)<((aQ.length:Int):Int):=zd;obtain⟨go50,hD,eZ,eX,gl50,cl50,HG50⟩:=Kd.R_form aC.out (by omega);(first|cases eZ|(injection eZ with ea_ en_ ec_;(first|subst ea_|(injection ea_ with ea_;subst ea_));subst ec_;clear en_));have GB50:=zA eX;have GG50:=zA HG50;clear eX gl50 HG50;(first|simp only[add_plain] at bW|skip);(first|simp only[add_plain] at eG|skip);obtain⟨gN,hf50_0⟩:=Kd.R_celln 0 aC.out ((rd aG aE):Int) eW eV;replace eW:=eq_true eW;replace eV:=eq_true eV;have HP53:=Kd.R_putg aC.out ((rd aG aE):Int) (wrap64 ((rd aQ (rd aI 0))+1))
              go_wp2_with (first|((with_reducible refine gate_store (t:=3) (p:=75) rfl ?_);refine store_event (t:=3) (p:=75) (v:=?vo_w54) (w1:=(wr.setCell ⟨go50,((rd aG aE):Int).toNat,none⟩ (.int .i64 (wrap64 ((rd aQ (rd aI 0))+1))))) ?hg ?ho ?hn ?hr ?_;(case ho=>rfl);(case hg=>rfl);(case hn=>rfl);(case hr=>first|(go_simp;done)|(go_simp;rfl));intro eT hw;have hg:wr.grownBy eT (some go50):=(by rw[hw];exact HP53.2);have hp_:Kd.R (Kd.int .i64) 3 eT w.heap.size (fun k_=>some k_≠(u6:Value).ownBlock/\some k_≠(.slice (some bL) aG.length bE:Value).ownBlock) (.slice (some ⟨go50,0,none⟩) aQ.length bD) cQ:=(by rw[hw,Ny502.out];exact HP53.1);clear HP53;replace aM:=zA (Kd.Q_after (v:=(.slice (some ⟨go50,0,none⟩) aQ.length bD)) (v1:=(.slice (some ⟨go50,0,none⟩) aQ.length bD)) (ok:=(fun k_=>some k_≠(.slice (some bL) aG.length bE:Value).ownBlock)) (zWm aM) hg (.inl rfl));replace aU:=zA (Kd.R_after (v:=(.slice (some ⟨go50,0,none⟩) aQ.length bD)) (v1:=(.slice (some ⟨go50,0,none⟩) aQ.length bD)) (ok:=(fun k_=>some k_≠(u6:Value).ownBlock)) (zWm aU) hg (.inl rfl));replace aA:=zgr aA hg (Kd.R_ne aC.out aA.out (by decide));replace aC:=zA hp_;replace HB:=zA ((by rw[hw];exact below_set (HB.out) GB50.out:Below w.heap.size w eT));clear hg hw hp_)|((with_reducible refine gate_builtin (b:=.append) (xs:=#[.tmp 76,.tmp 78]) rfl ?_);at_builtin;refine Kd.Q_append (Kd.int .i64) (w0:=w) w.heap.size rfl (.tmp 76) (.tmp 78) 22 3 (.int .i64 0) 8 rfl Try.underlying22 info3 rfl (by decide) (by omega) u6 aY (rd aG aE) [.int .i64 (rd aG aE)] (fun k_=>some k_≠(.slice (some ⟨go50,0,none⟩) aQ.length bD:Value).ownBlock/\some k_≠(.slice (some bL) aG.length bE:Value).ownBlock) (fun _=>False) rfl rfl ?aP (fun _ hk=>hk.elim) ?aF ?aO ?aB ?aS ?aL ?_;(case aP=>exact rfl);(case aB=>exact zb);(case aF=>exact(fun k_ hk=>⟨Kd.fresh' (Kd.R_lt (zR aC)) k_ hk,Kd.fresh' (Kd.R_lt (zR aU)) k_ hk⟩));(case aO=>exact(zWm aM));(case aS=>exact(below_size zb));(case aL=>have:=fN.out;omega);intro v504 hO ho hb hg hat;rw[<-Ny503.out] at ho;replace aC:=zA (Kd.R_after (ok:=(fun k_=>some k_≠(.slice (some bL) aG.length bE:Value).ownBlock)) (zWm aC) hg hat);replace aU:=zA (Kd.R_after (ok:=(fun k_=>some k_≠(.slice (some ⟨go50,0,none⟩) aQ.length bD:Value).ownBlock)) (zWm aU) hg hat);replace aA:=zgr aA hg (Kd.Q_ne aM.out aA.out (by decide));replace HB:=zA hb;have fP:=zA ho;clear aM;clear ho hb hg hat))
              go_roundg k4
              case measure=>have:=HK1.out;have:=HK2.out;have:=HK3.out;have:=HK4.out;omega
              case rel=>exact⟨(cQ),(eO),(wrap64 (aE+1)),zr,H',⟨by have:=HK1.out;have:=HK2.out;have:=HK3.out;have:=HK4.out;omega⟩,⟨zWm aC⟩,⟨zQ fP⟩,⟨zR aU⟩,⟨zk aA⟩,⟨zb⟩⟩
             ·rw[if_neg c47] at H;have fF:=decide_eq_false c47;clear c47;have H':=zA H;clear H;have gC:=zT (0<=(aE:Int));have gA:=zT (aE<(aG.length:Int));obtain⟨bL,dQ,eH⟩:=Kd.at_int (Kd.R_reads' aU.out).2.2 aE zd zd;cases dQ;obtain⟨hH,gZ,gE⟩:=Kd.R_slice aC.out;subst gE;have gB:=zT (0<=((rd aG aE):Int));have fZ:=zT ((rd aG aE)<(aQ.length:Int));obtain⟨eD,dP,bW⟩:=Kd.at_int (Kd.R_reads' aC.out).2.2 (rd aG aE) zd zd;cases dP;go_wp2
              go_roundg k4
              case measure=>have:=HK1.out;have:=HK2.out;have:=HK3.out;have:=HK4.out;omega
              case rel=>exact⟨(aQ),(aY),(wrap64 (aE+1)),zr,H',⟨by have:=HK1.out;have:=HK2.out;have:=HK3.out;have:=HK4.out;omega⟩,⟨zR aC⟩,⟨zQ aM⟩,⟨zR aU⟩,⟨zk aA⟩,⟨zb⟩⟩
            ·rw[if_neg c42] at H;have fG:=decide_eq_false c42;clear c42;have H':=zA H;clear H;go_wp2
             go_roundg k4
             case measure=>have:=HK1.out;have:=HK2.out;have:=HK3.out;have:=HK4.out;omega
             case rel=>exact⟨(aQ),(aY),H',⟨by have:=HK1.out;have:=HK2.out;have:=HK3.out;have:=HK4.out;omega⟩,⟨zWm aC⟩,⟨zWm aM⟩,⟨zk aA⟩,⟨zb⟩⟩
         ·rw[if_neg c33] at H;have dY:decide (0<(aI.length:Int))=false:=decide_eq_false c33;have dX:decide (0<aI.length)=false:=decide_eq_false (by omega);clear c33;obtain rfl:=zI H;obtain⟨hG,gY,gD,_⟩:=Kd.Q_slice aM.out;subst gD;go_wp2;go_ret;exact⟨_,zE,zWm aC,zb⟩

def X12.f (k:Nat) (a0_0:Int) (a0_1:Int) (l0_2:List Int) (a1:Int) (a2:Int):Option (Int):=(Xg.f k a0_0 a0_1 l0_2 a1).bind fun t507=>(if t507=true then((Xg.f k a0_0 a0_1 l0_2 a2).bind fun t508=>(if t508=true then((X1.f k a0_0 a0_1 l0_2 (([a1]:List Int))).bind fun t512=>(if 0<=a2 then(if a2<(t512.length:Int) then(some (rd t512 a2)) else(none)) else(none))) else(some (-1)))) else(some (-1)))
theorem X12.calls (k:Nat) (aE:Int) (aD:Int) (aH:Option Addr) (aG:Nat) (aC:List Int) (a1:Int) (a2:Int) (r:Int) (w:World) (aU:Kd.C (Kd.int .i64) w aH aC.length aC) (aV:aC.length<=aG) (h:X12.f k aE aD aC a1 a2=some r) :
  Calls Try.prog 92 #[.agg #[aE,aD,.slice aH aC.length aG],a1,a2] w fun e w'=>e=.returned (.int .i64 r)/\Below w.heap.size w w':=by
 have hu37:=Try.underlying37;have aI:=zA aU;have aK:=zA aV;clear aU aV;have HB:=zA (Below.refl w.heap.size w);have H:=h;clear h;unfold X12.f at H;obtain⟨bC,A4,H⟩:=zB H
 by_cases c5:bC=true
 ·subst c5;rw[if_pos rfl] at H;obtain⟨bB,A6,H⟩:=zB H
  by_cases c7:bB=true
  ·subst c7;rw[if_pos rfl] at H;obtain⟨aT,aR⟩:∃ y_:List Int,y_=(([a1]:List Int)):=⟨_,rfl⟩
   replace H:((X1.f k aE aD aC aT).bind fun aN=>(if 0<=a2 then(if a2<(aN.length:Int) then(some (rd aN a2)) else(none)) else(none)))=some r:=zY aR H
   have Ny509:=zA aR;clear aR;obtain⟨aN,A8,H⟩:=zB H;obtain⟨dA,H⟩:=zifD H;obtain⟨cV,H⟩:=zifD H;obtain rfl:=zI H;go_enter Try.func92,Try.ntmps92
   go_wp2_with (first|((with_reducible refine zgd 3 rfl ?_);refine zbx 3 #[aE,aD,.slice aH aC.length aG] 37 ?_;intro aW hg dM b' hb;have aA:=zA b';have aY:=zga (w:=w) hg;replace HB:=zbs hb;clear hb b' hg;obtain⟨cT,cS,cR,cB,cA,bZ⟩:=ze3 aA)|((with_reducible refine zgf 109 rfl ?_);refine zgl 9 Try.func109 #[.agg #[aE,aD,.slice aH aC.length aG],a1] ?_;(refine(Xg.calls k aE aD _ _ aC a1 true _ (zCb aI) aK.out A4.out).mono ?_);rintro e dL ⟨rfl,hb⟩;refine⟨_,rfl,?_⟩;replace aA:=zkb aA hb;replace HB:=zbs hb;(try clear hb);obtain⟨cQ,cP,cO,bY,bX,bW⟩:=ze3 aA)|(go_at_call 109;(refine(Xg.calls k aE aD _ _ aC a2 true _ (zCb aI) aK.out A6.out).mono ?_);rintro e dK ⟨rfl,hb⟩;replace aA:=zkb aA hb;replace HB:=zbs hb;(try clear hb);obtain⟨cN,cM,cL,bV,bU,bT⟩:=ze3 aA)|((with_reducible refine zgd 19 rfl ?_);refine Kd.R_lit (Kd.int .i64) _ 3 ?hg (N:=19) ?hd (xs:=([a1]:List Int)) (inner:=[a1]) (ok:=fun _=>True) (okp:=fun _=>True) ?hr ?hp (fun _ hk=>hk) trivial (Below.refl _ _) (Nat.le_refl _) (by simp) ?_;(case hd=>rfl);(case hg=>rfl);(case hr=>first|(go_simp;done)|(go_simp;rfl));(case hp=>exact(Reps.one (show Kd.M (Kd.int .i64) _ _ _ a1 [a1] from rfl) (Reps.none _ _)));intro v510 dJ ho18 hb hg_ hnew_;clear hg_ hnew_;(first|rw[<-Ny509.out] at ho18|(simp only[Int.reduceToNat] at ho18;rw[<-Ny509.out] at ho18));have aJ:=zA (Kd.R_lower ho18 (below_size zb));replace aA:=zkb aA hb;replace HB:=zbs hb;clear hb ho18;obtain⟨bH,bG,bE⟩:=Kd.R_slice aJ.out;subst bE)|((with_reducible refine zgf 128 rfl ?_);refine zgl 20 Try.func128 #[.agg #[aE,aD,.slice aH aC.length aG],.slice bH aT.length bG] ?_;(refine(X1.calls k aE aD _ _ aC _ _ aT aN _ (zCb aI) aK.out (zCx (Kd.R_reads' aJ.out).2.2) ((Kd.R_reads' aJ.out).2.1) A8.out).mono ?_);rintro e dI ⟨v513,rfl,ho0,hb⟩;refine⟨_,rfl,?_⟩;have aX:=zA (Kd.R_lower (Kd.R_new' ho0 (Kd.R_lt (zR aJ))) (below_size zb));replace aJ:=zA (Kd.R_elder' (zR aJ) (Kd.R_base ho0) hb);replace aA:=zkb aA hb;replace HB:=zbs hb;(try clear hb);(try clear ho0);obtain⟨dB,cZ,bD⟩:=Kd.R_slice aX.out;subst bD;have cY:=zT (0<=(a2:Int));have cX:=zT (a2<(aN.length:Int));obtain⟨cW,bF,bJ⟩:=Kd.at_int (Kd.R_reads' aX.out).2.2 a2 zd zd;cases bF))
   go_ret;exact⟨zE,zb⟩
  ·replace c7:=zbq c7;subst c7;rw[if_neg zNo] at H;obtain rfl:=zI H;go_enter Try.func92,Try.ntmps92
   go_wp2_with (first|((with_reducible refine zgd 3 rfl ?_);refine zbx 3 #[aE,aD,.slice aH aC.length aG] 37 ?_;intro aW hg dH b' hb;have aA:=zA b';have aY:=zga (w:=w) hg;replace HB:=zbs hb;clear hb b' hg;obtain⟨cK,cJ,cI,bS,bR,bQ⟩:=ze3 aA)|((with_reducible refine zgf 109 rfl ?_);refine zgl 9 Try.func109 #[.agg #[aE,aD,.slice aH aC.length aG],a1] ?_;(refine(Xg.calls k aE aD _ _ aC a1 true _ (zCb aI) aK.out A4.out).mono ?_);rintro e dG ⟨rfl,hb⟩;refine⟨_,rfl,?_⟩;replace aA:=zkb aA hb;replace HB:=zbs hb;(try clear hb);obtain⟨cH,cG,cF,bP,bO,bN⟩:=ze3 aA)|(go_at_call 109;(refine(Xg.calls k aE aD _ _ aC a2 false _ (zCb aI) aK.out A6.out).mono ?_);rintro e dF ⟨rfl,hb⟩;replace aA:=zkb aA hb;replace HB:=zbs hb;(try clear hb)))
   go_ret;exact⟨zE,zb⟩
 ·replace c5:=zbq c5;subst c5;rw[if_neg zNo] at H;obtain rfl:=zI H;go_enter Try.func92,Try.ntmps92
  go_wp2_with (first|((with_reducible refine zgd 3 rfl ?_);refine zbx 3 #[aE,aD,.slice aH aC.length aG] 37 ?_;intro aW hg dE b' hb;have aA:=zA b';have aY:=zga (w:=w) hg;replace HB:=zbs hb;clear hb b' hg;obtain⟨cE,cD,cC,bM,bL,bK⟩:=ze3 aA)|((with_reducible refine zgf 109 rfl ?_);refine zgl 9 Try.func109 #[.agg #[aE,aD,.slice aH aC.length aG],a1] ?_;(refine(Xg.calls k aE aD _ _ aC a1 false _ (zCb aI) aK.out A4.out).mono ?_);rintro e dD ⟨rfl,hb⟩;refine⟨_,rfl,?_⟩;replace aA:=zkb aA hb;replace HB:=zbs hb;(try clear hb)))
  go_ret;exact⟨zE,zb⟩

mutual
def Xi.l0:Nat->Int->List Int->List Int->Int->Int->Int->List Int->Option (List Int)
  |0,_,_,_,_,_,_,_=>none
  |k+1,x2,x7,x8,x9,x517000,x517001,x517002=>if x9=x2 then(some x8) else((Xj.f k x517000 x517001 x517002 x9).bind fun t527=>(Xi.l1 k x2 x7 x8 x9 t527 (t527.length:Int) 0 x517000 x517001 x517002))
def Xi.l1:Nat->Int->List Int->List Int->Int->List Int->Int->Int->Int->Int->List Int->Option (List Int)
  |0,_,_,_,_,_,_,_,_,_,_=>none
  |k+1,x2,x7,x8,x9,x29,x30,x31,x517000,x517001,x517002=>if x31<x30 then(if 0<=x31 then(if x31<(x29.length:Int) then(if 0<=(rd x29 x31) then(if (rd x29 x31)<(x7.length:Int) then(if 0<=x9 then(if x9<(x7.length:Int) then(if (rd x7 (rd x29 x31))<(rd x7 x9) then(if x8.length<17592186044416 then(Xi.l0 k x2 x7 (x8++[rd x29 x31]) (rd x29 x31) x517000 x517001 x517002) else(none)) else(Xi.l1 k x2 x7 x8 x9 x29 x30 (wrap64 (x31+1)) x517000 x517001 x517002)) else(none)) else(none)) else(none)) else(none)) else(none)) else(none)) else(if x8.length<17592186044416 then(Xi.l0 k x2 x7 (x8++[x9]) x9 x517000 x517001 x517002) else(none))
end
def Xi.f (k:Nat) (a0_0:Int) (a0_1:Int) (l0_2:List Int) (a1:Int) (a2:Int):Option (List Int):=(X12.f k a0_0 a0_1 l0_2 a1 a2).bind fun t517=>(if t517<0 then(some ([]:List Int)) else((X1.f k a0_0 a0_1 l0_2 (([a2]:List Int))).bind fun t521=>(Xi.l0 k a2 t521 (([a1]:List Int)) a1 a0_0 a0_1 l0_2)))
theorem Xi.calls (k:Nat) (aJ:Int) (aI:Int) (bB:Option Addr) (bA:Nat) (aE:List Int) (a1:Int) (a2:Int) (r:List Int) (w:World) (cP:Kd.C (Kd.int .i64) w bB aE.length aE) (cQ:aE.length<=bA) (h:Xi.f k aJ aI aE a1 a2=some r) :
  Calls Try.prog 88 #[.agg #[aJ,aI,.slice bB aE.length bA],a1,a2] w fun e w'=>∃ v0_:Value,e=.returned (v0_)/\Kd.R (Kd.int .i64) 3 w' w.heap.size (fun _=>True) v0_ r/\Below w.heap.size w w':=by
 have hu37:=Try.underlying37;have aT:=zA cP;have aV:=zA cQ;clear cP cQ;have HB:=zA (Below.refl w.heap.size w);have H:=h;clear h;unfold Xi.f at H;obtain⟨bS,A4,H⟩:=zB H
 by_cases c5:bS<0
 ·rw[if_pos c5] at H;have cO:=decide_eq_true c5;clear c5;obtain rfl:=zI H;go_enter Try.func88,Try.ntmps88
  go_wp2_with (first|((with_reducible refine zgd 3 rfl ?_);refine zbx 3 #[aJ,aI,.slice bB aE.length bA] 37 ?_;intro bC hg w6 b' hb;have aA:=zA b';have cA:=zga (w:=w) hg;replace HB:=zbs hb;clear hb b' hg;obtain⟨bY,bX,bW,bV,bU,bT⟩:=ze3 aA)|(go_at_call 92;(refine(X12.calls k aJ aI _ _ aE a1 a2 bS _ (zCb aT) aV.out A4.out).mono ?_);rintro e w8 ⟨rfl,hb⟩;replace aA:=zkb aA hb;replace HB:=zbs hb;(try clear hb)))
  repeat (go_quiet (first|((with_reducible refine zgd 3 rfl ?_);refine zbx 3 #[aJ,aI,.slice bB aE.length bA] 37 ?_;intro bC hg w6 b' hb;have aA:=zA b';have cA:=zga (w:=w) hg;replace HB:=zbs hb;clear hb b' hg;obtain⟨bY,bX,bW,bV,bU,bT⟩:=ze3 aA)|(go_at_call 92;(refine(X12.calls k aJ aI _ _ aE a1 a2 bS _ (zCb aT) aV.out A4.out).mono ?_);rintro e w8 ⟨rfl,hb⟩;replace aA:=zkb aA hb;replace HB:=zbs hb;(try clear hb)));try go_wp2_with (first|((with_reducible refine zgd 3 rfl ?_);refine zbx 3 #[aJ,aI,.slice bB aE.length bA] 37 ?_;intro bC hg w6 b' hb;have aA:=zA b';have cA:=zga (w:=w) hg;replace HB:=zbs hb;clear hb b' hg;obtain⟨bY,bX,bW,bV,bU,bT⟩:=ze3 aA)|(go_at_call 92;(refine(X12.calls k aJ aI _ _ aE a1 a2 bS _ (zCb aT) aV.out A4.out).mono ?_);rintro e w8 ⟨rfl,hb⟩;replace aA:=zkb aA hb;replace HB:=zbs hb;(try clear hb))))
  go_ret;exact⟨_,zE,by first|exact Kd.R_nil _ _ _ _ _|exact Kd.N_nil _ _ _ _ _|exact Kd.V_nil _ _ _ _ _|exact Kd.Q_nil _ _ _ _ _|exact Kd.S_nil _ _ _ _ _,zb⟩
 ·rw[if_neg c5] at H;have cO:=decide_eq_false c5;clear c5;obtain⟨cD,cH⟩:∃ y_:List Int,y_=(([a2]:List Int)):=⟨_,rfl⟩
  replace H:((X1.f k aJ aI aE cD).bind fun aM=>(Xi.l0 k a2 aM (([a1]:List Int)) a1 aJ aI aE))=some r:=zY cH H
  have Ny518:=zA cH;clear cH;obtain⟨aM,A9,H⟩:=zB H;obtain⟨dJ,cG⟩:∃ y_:List Int,y_=(([a1]:List Int)):=⟨_,rfl⟩
  replace H:(Xi.l0 k a2 aM dJ a1 aJ aI aE)=some r:=zY cG H
  have Ny524:=zA cG;clear cG;have H':=zA H;clear H;go_enter Try.func88,Try.ntmps88
  go_wp2_with (first|((with_reducible refine zgd 3 rfl ?_);refine zbx 3 #[aJ,aI,.slice bB aE.length bA] 37 ?_;intro bC hg dU b' hb;have aA:=zA b';have cA:=zga (w:=w) hg;replace HB:=zbs hb;clear hb b' hg;obtain⟨bQ,bP,bO,bK,bJ,bI⟩:=ze3 aA)|(go_at_call 92;(refine(X12.calls k aJ aI _ _ aE a1 a2 bS _ (zCb aT) aV.out A4.out).mono ?_);rintro e dT ⟨rfl,hb⟩;replace aA:=zkb aA hb;replace HB:=zbs hb;(try clear hb);obtain⟨bN,bM,bL,bH,bG,bF⟩:=ze3 aA)|((with_reducible refine zgd 19 rfl ?_);refine Kd.R_lit (Kd.int .i64) _ 3 ?hg (N:=19) ?hd (xs:=([a2]:List Int)) (inner:=[a2]) (ok:=fun _=>True) (okp:=fun _=>True) ?hr ?hp (fun _ hk=>hk) trivial (Below.refl _ _) (Nat.le_refl _) (by simp) ?_;(case hd=>rfl);(case hg=>rfl);(case hr=>first|(go_simp;done)|(go_simp;rfl));(case hp=>exact(Reps.one (show Kd.M (Kd.int .i64) _ _ _ a2 [a2] from rfl) (Reps.none _ _)));intro v519 dS ho15 hb hg_ hnew_;clear hg_ hnew_;(first|rw[<-Ny518.out] at ho15|(simp only[Int.reduceToNat] at ho15;rw[<-Ny518.out] at ho15));have aC:=zA (Kd.R_lower ho15 (below_size zb));replace aA:=zkb aA hb;replace HB:=zbs hb;clear hb ho15;obtain⟨dL,dK,cC⟩:=Kd.R_slice aC.out;subst cC)|(go_at_call 128;(refine(X1.calls k aJ aI _ _ aE _ _ cD aM _ (zCb aT) aV.out (zCx (Kd.R_reads' aC.out).2.2) ((Kd.R_reads' aC.out).2.1) A9.out).mono ?_);rintro e dR ⟨v522,rfl,ho0,hb⟩;have aU:=zA (Kd.R_lower (Kd.R_new' ho0 (Kd.R_lt (zR aC))) (below_size zb));replace aC:=zA (Kd.R_elder' (zR aC) (Kd.R_base ho0) hb);replace aA:=zkb aA hb;replace HB:=zbs hb;(try clear hb);(try clear ho0))|((with_reducible refine zgd 22 rfl ?_);refine Kd.R_lit (Kd.int .i64) _ 3 ?hg (N:=22) ?hd (xs:=([a1]:List Int)) (inner:=[a1]) (ok:=fun _=>True) (okp:=fun _=>True) ?hr ?hp (fun _ hk=>hk) trivial (Below.refl _ _) (Nat.le_refl _) (by simp) ?_;(case hd=>rfl);(case hg=>rfl);(case hr=>first|(go_simp;done)|(go_simp;rfl));(case hp=>exact(Reps.one (show Kd.M (Kd.int .i64) _ _ _ a1 [a1] from rfl) (Reps.none _ _)));intro v525 dQ ho19 hb hg_ hnew_;clear hg_ hnew_;(first|rw[<-Ny524.out] at ho19|(simp only[Int.reduceToNat] at ho19;rw[<-Ny524.out] at ho19));have cK:=zA (Kd.R_lower (Kd.R_new' (Kd.R_new' ho19 (Kd.R_lt (zR aC))) (Kd.R_lt (zR aU))) (below_size zb));replace aC:=zA (Kd.R_elder' (zR aC) (Kd.R_base ho19) hb);replace aU:=zA (Kd.R_elder' (zR aU) (Kd.R_base ho19) hb);replace aA:=zkb aA hb;replace HB:=zbs hb;clear hb ho19))
  repeat (go_quiet (first|((with_reducible refine zgd 3 rfl ?_);refine zbx 3 #[aJ,aI,.slice bB aE.length bA] 37 ?_;intro bC hg dU b' hb;have aA:=zA b';have cA:=zga (w:=w) hg;replace HB:=zbs hb;clear hb b' hg;obtain⟨bQ,bP,bO,bK,bJ,bI⟩:=ze3 aA)|(go_at_call 92;(refine(X12.calls k aJ aI _ _ aE a1 a2 bS _ (zCb aT) aV.out A4.out).mono ?_);rintro e dT ⟨rfl,hb⟩;replace aA:=zkb aA hb;replace HB:=zbs hb;(try clear hb);obtain⟨bN,bM,bL,bH,bG,bF⟩:=ze3 aA)|((with_reducible refine zgd 19 rfl ?_);refine Kd.R_lit (Kd.int .i64) _ 3 ?hg (N:=19) ?hd (xs:=([a2]:List Int)) (inner:=[a2]) (ok:=fun _=>True) (okp:=fun _=>True) ?hr ?hp (fun _ hk=>hk) trivial (Below.refl _ _) (Nat.le_refl _) (by simp) ?_;(case hd=>rfl);(case hg=>rfl);(case hr=>first|(go_simp;done)|(go_simp;rfl));(case hp=>exact(Reps.one (show Kd.M (Kd.int .i64) _ _ _ a2 [a2] from rfl) (Reps.none _ _)));intro v519 dS ho15 hb hg_ hnew_;clear hg_ hnew_;(first|rw[<-Ny518.out] at ho15|(simp only[Int.reduceToNat] at ho15;rw[<-Ny518.out] at ho15));have aC:=zA (Kd.R_lower ho15 (below_size zb));replace aA:=zkb aA hb;replace HB:=zbs hb;clear hb ho15;obtain⟨dL,dK,cC⟩:=Kd.R_slice aC.out;subst cC)|(go_at_call 128;(refine(X1.calls k aJ aI _ _ aE _ _ cD aM _ (zCb aT) aV.out (zCx (Kd.R_reads' aC.out).2.2) ((Kd.R_reads' aC.out).2.1) A9.out).mono ?_);rintro e dR ⟨v522,rfl,ho0,hb⟩;have aU:=zA (Kd.R_lower (Kd.R_new' ho0 (Kd.R_lt (zR aC))) (below_size zb));replace aC:=zA (Kd.R_elder' (zR aC) (Kd.R_base ho0) hb);replace aA:=zkb aA hb;replace HB:=zbs hb;(try clear hb);(try clear ho0))|((with_reducible refine zgd 22 rfl ?_);refine Kd.R_lit (Kd.int .i64) _ 3 ?hg (N:=22) ?hd (xs:=([a1]:List Int)) (inner:=[a1]) (ok:=fun _=>True) (okp:=fun _=>True) ?hr ?hp (fun _ hk=>hk) trivial (Below.refl _ _) (Nat.le_refl _) (by simp) ?_;(case hd=>rfl);(case hg=>rfl);(case hr=>first|(go_simp;done)|(go_simp;rfl));(case hp=>exact(Reps.one (show Kd.M (Kd.int .i64) _ _ _ a1 [a1] from rfl) (Reps.none _ _)));intro v525 dQ ho19 hb hg_ hnew_;clear hg_ hnew_;(first|rw[<-Ny524.out] at ho19|(simp only[Int.reduceToNat] at ho19;rw[<-Ny524.out] at ho19));have cK:=zA (Kd.R_lower (Kd.R_new' (Kd.R_new' ho19 (Kd.R_lt (zR aC))) (Kd.R_lt (zR aU))) (below_size zb));replace aC:=zA (Kd.R_elder' (zR aC) (Kd.R_base ho19) hb);replace aU:=zA (Kd.R_elder' (zR aU) (Kd.R_base ho19) hb);replace aA:=zkb aA hb;replace HB:=zbs hb;clear hb ho19));try go_wp2_with (first|((with_reducible refine zgd 3 rfl ?_);refine zbx 3 #[aJ,aI,.slice bB aE.length bA] 37 ?_;intro bC hg dU b' hb;have aA:=zA b';have cA:=zga (w:=w) hg;replace HB:=zbs hb;clear hb b' hg;obtain⟨bQ,bP,bO,bK,bJ,bI⟩:=ze3 aA)|(go_at_call 92;(refine(X12.calls k aJ aI _ _ aE a1 a2 bS _ (zCb aT) aV.out A4.out).mono ?_);rintro e dT ⟨rfl,hb⟩;replace aA:=zkb aA hb;replace HB:=zbs hb;(try clear hb);obtain⟨bN,bM,bL,bH,bG,bF⟩:=ze3 aA)|((with_reducible refine zgd 19 rfl ?_);refine Kd.R_lit (Kd.int .i64) _ 3 ?hg (N:=19) ?hd (xs:=([a2]:List Int)) (inner:=[a2]) (ok:=fun _=>True) (okp:=fun _=>True) ?hr ?hp (fun _ hk=>hk) trivial (Below.refl _ _) (Nat.le_refl _) (by simp) ?_;(case hd=>rfl);(case hg=>rfl);(case hr=>first|(go_simp;done)|(go_simp;rfl));(case hp=>exact(Reps.one (show Kd.M (Kd.int .i64) _ _ _ a2 [a2] from rfl) (Reps.none _ _)));intro v519 dS ho15 hb hg_ hnew_;clear hg_ hnew_;(first|rw[<-Ny518.out] at ho15|(simp only[Int.reduceToNat] at ho15;rw[<-Ny518.out] at ho15));have aC:=zA (Kd.R_lower ho15 (below_size zb));replace aA:=zkb aA hb;replace HB:=zbs hb;clear hb ho15;obtain⟨dL,dK,cC⟩:=Kd.R_slice aC.out;subst cC)|(go_at_call 128;(refine(X1.calls k aJ aI _ _ aE _ _ cD aM _ (zCb aT) aV.out (zCx (Kd.R_reads' aC.out).2.2) ((Kd.R_reads' aC.out).2.1) A9.out).mono ?_);rintro e dR ⟨v522,rfl,ho0,hb⟩;have aU:=zA (Kd.R_lower (Kd.R_new' ho0 (Kd.R_lt (zR aC))) (below_size zb));replace aC:=zA (Kd.R_elder' (zR aC) (Kd.R_base ho0) hb);replace aA:=zkb aA hb;replace HB:=zbs hb;(try clear hb);(try clear ho0))|((with_reducible refine zgd 22 rfl ?_);refine Kd.R_lit (Kd.int .i64) _ 3 ?hg (N:=22) ?hd (xs:=([a1]:List Int)) (inner:=[a1]) (ok:=fun _=>True) (okp:=fun _=>True) ?hr ?hp (fun _ hk=>hk) trivial (Below.refl _ _) (Nat.le_refl _) (by simp) ?_;(case hd=>rfl);(case hg=>rfl);(case hr=>first|(go_simp;done)|(go_simp;rfl));(case hp=>exact(Reps.one (show Kd.M (Kd.int .i64) _ _ _ a1 [a1] from rfl) (Reps.none _ _)));intro v525 dQ ho19 hb hg_ hnew_;clear hg_ hnew_;(first|rw[<-Ny524.out] at ho19|(simp only[Int.reduceToNat] at ho19;rw[<-Ny524.out] at ho19));have cK:=zA (Kd.R_lower (Kd.R_new' (Kd.R_new' ho19 (Kd.R_lt (zR aC))) (Kd.R_lt (zR aU))) (below_size zb));replace aC:=zA (Kd.R_elder' (zR aC) (Kd.R_base ho19) hb);replace aU:=zA (Kd.R_elder' (zR aU) (Kd.R_base ho19) hb);replace aA:=zkb aA hb;replace HB:=zbs hb;clear hb ho19)))
  go_loopg [8,9] k (fun kq v8 v9 w'=>∃ (aZ:List Int) (aX:Int),v9=.int .i64 aX/\Aside0 (Xi.l0 kq a2 aM aZ aX aJ aI aE=some r)/\Aside0 (kq<=k)/\Aside0 (Kd.R (Kd.int .i64) 3 w' w.heap.size (fun k_=>some k_≠(v8:Value).ownBlock) v522 aM)/\Aside0 (Kd.R (Kd.int .i64) 3 w' w.heap.size (fun k_=>some k_≠(v522:Value).ownBlock) v8 aZ)/\Aside0 (w'.heap[bC]?=some (.cells #[aJ,aI,(.slice bB aE.length bA)] 37 (0,0)))/\Aside0 (Below w.heap.size w w'))
  case atStart=>exact⟨(dJ),(a1),zr,H',⟨Nat.le_refl _⟩,⟨zWm aU⟩,⟨zWm cK⟩,⟨zk aA⟩,⟨zb⟩⟩
  case round =>
   clear H';(try clear c5);(try clear cO);(try clear bQ);(try clear bP);(try clear bO);(try clear bN);(try clear bM);(try clear bL);(try clear bY);(try clear bX);(try clear bW);(try clear bK);(try clear bJ);(try clear bI);(try clear bH);(try clear bG);(try clear bF);(try clear bV);(try clear bU);(try clear bT);obtain⟨aZ,aX,rfl,HA,HK1,aG,aK,aA,HB⟩:=hrel
   cases gk with
   |zero=>exact absurd HA.out (by simp[Xi.l0])
   |succ k1 =>
    have H:=HA.out;clear HA;simp only[Xi.l0] at H
    by_cases c20:aX=a2
    ·rw[if_pos c20] at H;have cS:(aX==a2)=true:=beq_iff_eq.mpr c20;have cR:(aX != a2)=false:=bne_eq_false_iff_eq.mpr c20;clear c20;obtain rfl:=zI H;go_wp2
     repeat (go_quiet (fail);try go_wp2)
     go_ret;exact⟨_,zE,zWm aK,zb⟩
    ·rw[if_neg c20] at H;have cS:(aX==a2)=false:=beq_eq_false_iff_ne.mpr c20;have cR:(aX != a2)=true:=bne_iff_ne.mpr c20;obtain⟨aD,dM,H⟩:=zB H;have H':=zA H;clear H;obtain⟨dF,dE,dD,dC,dB,dA⟩:=ze3 aA
     go_wp2_with (first|(go_at_call 68;(refine(Xj.calls k1 aJ aI _ _ aE aX aD _ (zCb aT) aV.out dM.out).mono ?_);rintro e dP ⟨v528,rfl,ho0,hb⟩;have bR:=zA (Kd.R_lower (Kd.R_new' (Kd.R_new' ho0 (Kd.R_lt (zR aG))) (Kd.R_lt (zR aK))) (below_size zb));replace aG:=zA (Kd.R_elder' (zR aG) (Kd.R_base ho0) hb);replace aK:=zA (Kd.R_elder' (zR aK) (Kd.R_base ho0) hb);replace aA:=zkb aA hb;replace HB:=zbs hb;(try clear hb);(try clear ho0);obtain⟨bE,aW,cB⟩:=Kd.R_slice bR.out;subst cB))
     repeat (go_quiet (first|(go_at_call 68;(refine(Xj.calls k1 aJ aI _ _ aE aX aD _ (zCb aT) aV.out dM.out).mono ?_);rintro e dP ⟨v528,rfl,ho0,hb⟩;have bR:=zA (Kd.R_lower (Kd.R_new' (Kd.R_new' ho0 (Kd.R_lt (zR aG))) (Kd.R_lt (zR aK))) (below_size zb));replace aG:=zA (Kd.R_elder' (zR aG) (Kd.R_base ho0) hb);replace aK:=zA (Kd.R_elder' (zR aK) (Kd.R_base ho0) hb);replace aA:=zkb aA hb;replace HB:=zbs hb;(try clear hb);(try clear ho0);obtain⟨bE,aW,cB⟩:=Kd.R_slice bR.out;subst cB));try go_wp2_with (first|(go_at_call 68;(refine(Xj.calls k1 aJ aI _ _ aE aX aD _ (zCb aT) aV.out dM.out).mono ?_);rintro e dP ⟨v528,rfl,ho0,hb⟩;have bR:=zA (Kd.R_lower (Kd.R_new' (Kd.R_new' ho0 (Kd.R_lt (zR aG))) (Kd.R_lt (zR aK))) (below_size zb));replace aG:=zA (Kd.R_elder' (zR aG) (Kd.R_base ho0) hb);replace aK:=zA (Kd.R_elder' (zR aK) (Kd.R_base ho0) hb);replace aA:=zkb aA hb;replace HB:=zbs hb;(try clear hb);(try clear ho0);obtain⟨bE,aW,cB⟩:=Kd.R_slice bR.out;subst cB)))
     go_loopg [9,31] k1 (fun kq v9 v31 w'=>∃ (aQ:Int) (aH:Int),v9=.int .i64 aQ/\v31=.int .i64 aH/\Aside0 (Xi.l1 kq a2 aM aZ aQ aD (aD.length:Int) aH aJ aI aE=some r)/\Aside0 (kq<=k1)/\Aside0 (Kd.R (Kd.int .i64) 3 w' w.heap.size (fun k_=>some k_≠(u8:Value).ownBlock/\some k_≠((.slice bE aD.length aW):Value).ownBlock) v522 aM)/\Aside0 (Kd.R (Kd.int .i64) 3 w' w.heap.size (fun k_=>some k_≠(v522:Value).ownBlock/\some k_≠((.slice bE aD.length aW):Value).ownBlock) u8 aZ)/\Aside0 (Kd.R (Kd.int .i64) 3 w' w.heap.size (fun k_=>some k_≠(v522:Value).ownBlock/\some k_≠(u8:Value).ownBlock) (.slice bE aD.length aW) aD)/\Aside0 (w'.heap[bC]?=some (.cells #[aJ,aI,(.slice bB aE.length bA)] 37 (0,0)))/\Aside0 (Below w.heap.size w w'))
     case atStart=>exact⟨(aX),(0),zr,zr,H',⟨Nat.le_refl _⟩,⟨zR aG⟩,⟨zR aK⟩,⟨zWm bR⟩,⟨zk aA⟩,⟨zb⟩⟩
     case round =>
      clear H';(try clear c5);(try clear cO);(try clear c20);(try clear cS);(try clear cR);(try clear bQ);(try clear bP);(try clear bO);(try clear bN);(try clear bM);(try clear bL);(try clear dF);(try clear dE);(try clear dD);(try clear bY);(try clear bX);(try clear bW);(try clear bK);(try clear bJ);(try clear bI);(try clear bH);(try clear bG);(try clear bF);(try clear dC);(try clear dB);(try clear dA);(try clear bV);(try clear bU);(try clear bT);obtain⟨aQ,aH,rfl,rfl,HA,HK2,aG,aK,aN,aA,HB⟩:=hrel
      cases gk with
      |zero=>exact absurd HA.out (by simp[Xi.l1])
      |succ k2 =>
       have H:=HA.out;clear HA;simp only[Xi.l1] at H
       by_cases c25:aH<(aD.length:Int)
       ·rw[if_pos c25] at H;have dO:=decide_eq_true c25;clear c25;obtain⟨eN,H⟩:=zifD H;obtain⟨eM,H⟩:=zifD H;obtain⟨eL,H⟩:=zifD H;obtain⟨eK,H⟩:=zifD H;obtain⟨eJ,H⟩:=zifD H;obtain⟨eI,H⟩:=zifD H
        by_cases c32:(rd aM (rd aD aH))<(rd aM aQ)
        ·rw[if_pos c32] at H;have dN:=decide_eq_true c32;clear c32;obtain⟨cU,H⟩:=zifA H;obtain⟨dI,cF⟩:∃ y_:List Int,y_=(aZ++[rd aD aH]):=⟨_,rfl⟩
         replace H:(Xi.l0 k2 a2 aM dI (rd aD aH) aJ aI aE)=some r:=zY cF H
         have Ny533:=zA cF;clear cF;have H':=zA H;clear H;have eA:=zT (0<=(aH:Int));have dX:=zT (aH<(aD.length:Int));obtain⟨bZ,cN,cZ⟩:=Kd.at_int (Kd.R_reads' aN.out).2.2 aH zd zd;cases cN;obtain⟨eQ,cI,eC⟩:=Kd.R_slice aG.out;subst eC;have dZ:=zT (0<=((rd aD aH):Int));have dW:=zT ((rd aD aH)<(aM.length:Int));obtain⟨bD,cM,cY⟩:=Kd.at_int (Kd.R_reads' aG.out).2.2 (rd aD aH) zd zd;cases cM;have dY:=zT (0<=(aQ:Int));have dV:=zT (aQ<(aM.length:Int));obtain⟨cJ,cL,cX⟩:=Kd.at_int (Kd.R_reads' aG.out).2.2 aQ zd zd;obtain rfl:bD=cJ:=(by injection cL)
         go_wp2_with (first|((with_reducible refine gate_builtin (b:=.append) (xs:=#[.tmp 46,.tmp 48]) rfl ?_);at_builtin;refine Kd.R_append (Kd.int .i64) (w0:=w) w.heap.size rfl (.tmp 46) (.tmp 48) 22 3 (.int .i64 0) 8 rfl Try.underlying22 info3 rfl (by decide) (by omega) u8 aZ (rd aD aH) [.int .i64 (rd aD aH)] (fun k_=>some k_≠(.slice (some bD) aM.length cI:Value).ownBlock/\some k_≠(.slice (some bZ) aD.length aW:Value).ownBlock) (fun _=>False) rfl rfl ?aP (fun _ hk=>hk.elim) ?aF ?aO ?aB ?aS ?aL ?_;(case aP=>exact rfl);(case aB=>exact zb);(case aF=>exact(fun k_ hk=>⟨Kd.fresh' (Kd.R_lt (zR aG)) k_ hk,Kd.fresh' (Kd.R_lt (zR aN)) k_ hk⟩));(case aO=>exact(zR aK));(case aS=>exact(below_size zb));(case aL=>have:=cU.out;omega);intro v534 eH ho hb hg hat;rw[<-Ny533.out] at ho;replace aG:=zA (Kd.R_after (ok:=(fun k_=>some k_≠(.slice (some bZ) aD.length aW:Value).ownBlock)) (zWm aG) hg hat);replace aN:=zA (Kd.R_after (ok:=(fun k_=>some k_≠(.slice (some bD) aM.length cI:Value).ownBlock)) (zR aN) hg hat);replace aA:=zgr aA hg (Kd.R_ne aK.out aA.out (by decide));replace HB:=zA hb;have cW:=zA ho;clear aK;clear ho hb hg hat))
         repeat (go_quiet (fail);try go_wp2_with (first|((with_reducible refine gate_builtin (b:=.append) (xs:=#[.tmp 46,.tmp 48]) rfl ?_);at_builtin;refine Kd.R_append (Kd.int .i64) (w0:=w) w.heap.size rfl (.tmp 46) (.tmp 48) 22 3 (.int .i64 0) 8 rfl Try.underlying22 info3 rfl (by decide) (by omega) u8 aZ (rd aD aH) [.int .i64 (rd aD aH)] (fun k_=>some k_≠(.slice (some bD) aM.length cI:Value).ownBlock/\some k_≠(.slice (some bZ) aD.length aW:Value).ownBlock) (fun _=>False) rfl rfl ?aP (fun _ hk=>hk.elim) ?aF ?aO ?aB ?aS ?aL ?_;(case aP=>exact rfl);(case aB=>exact zb);(case aF=>exact(fun k_ hk=>⟨Kd.fresh' (Kd.R_lt (zR aG)) k_ hk,Kd.fresh' (Kd.R_lt (zR aN)) k_ hk⟩));(case aO=>exact(zR aK));(case aS=>exact(below_size zb));(case aL=>have:=cU.out;omega);intro v534 eH ho hb hg hat;rw[<-Ny533.out] at ho;replace aG:=zA (Kd.R_after (ok:=(fun k_=>some k_≠(.slice (some bZ) aD.length aW:Value).ownBlock)) (zWm aG) hg hat);replace aN:=zA (Kd.R_after (ok:=(fun k_=>some k_≠(.slice (some bD) aM.length cI:Value).ownBlock)) (zR aN) hg hat);replace aA:=zgr aA hg (Kd.R_ne aK.out aA.out (by decide));replace HB:=zA hb;have cW:=zA ho;clear aK;clear ho hb hg hat)))
         go_roundg k2
         case measure=>have:=HK1.out;have:=HK2.out;omega
         case rel=>exact⟨(dI),(rd aD aH),zr,H',⟨by have:=HK1.out;have:=HK2.out;omega⟩,⟨zWm aG⟩,⟨zWm cW⟩,⟨zk aA⟩,⟨zb⟩⟩
        ·rw[if_neg c32] at H;have dN:=decide_eq_false c32;clear c32;have H':=zA H;clear H;have eA:=zT (0<=(aH:Int));have dX:=zT (aH<(aD.length:Int));obtain⟨bZ,cN,cZ⟩:=Kd.at_int (Kd.R_reads' aN.out).2.2 aH zd zd;cases cN;obtain⟨eP,eO,eB⟩:=Kd.R_slice aG.out;subst eB;have dZ:=zT (0<=((rd aD aH):Int));have dW:=zT ((rd aD aH)<(aM.length:Int));obtain⟨bD,cM,cY⟩:=Kd.at_int (Kd.R_reads' aG.out).2.2 (rd aD aH) zd zd;cases cM;have dY:=zT (0<=(aQ:Int));have dV:=zT (aQ<(aM.length:Int));obtain⟨cJ,cL,cX⟩:=Kd.at_int (Kd.R_reads' aG.out).2.2 aQ zd zd;obtain rfl:bD=cJ:=(by injection cL);go_wp2
         repeat (go_quiet (fail);try go_wp2)
         go_roundg k2
         case measure=>have:=HK1.out;have:=HK2.out;omega
         case rel=>exact⟨(aQ),(wrap64 (aH+1)),zr,zr,H',⟨by have:=HK1.out;have:=HK2.out;omega⟩,⟨zR aG⟩,⟨zR aK⟩,⟨zR aN⟩,⟨zk aA⟩,⟨zb⟩⟩
       ·rw[if_neg c25] at H;have dO:=decide_eq_false c25;clear c25;obtain⟨cT,H⟩:=zifA H;obtain⟨dH,cE⟩:∃ y_:List Int,y_=(aZ++[aQ]):=⟨_,rfl⟩
        replace H:(Xi.l0 k2 a2 aM dH aQ aJ aI aE)=some r:=zY cE H
        have Ny536:=zA cE;clear cE;have H':=zA H;clear H
        go_wp2_with (first|((with_reducible refine gate_builtin (b:=.append) (xs:=#[.tmp 46,.tmp 48]) rfl ?_);at_builtin;refine Kd.R_append (Kd.int .i64) (w0:=w) w.heap.size rfl (.tmp 46) (.tmp 48) 22 3 (.int .i64 0) 8 rfl Try.underlying22 info3 rfl (by decide) (by omega) u8 aZ aQ [aQ] (fun k_=>some k_≠(v522:Value).ownBlock/\some k_≠(.slice bE aD.length aW:Value).ownBlock) (fun _=>False) rfl rfl ?aP (fun _ hk=>hk.elim) ?aF ?aO ?aB ?aS ?aL ?_;(case aP=>exact rfl);(case aB=>exact zb);(case aF=>exact(fun k_ hk=>⟨Kd.fresh' (Kd.R_lt (zR aG)) k_ hk,Kd.fresh' (Kd.R_lt (zR aN)) k_ hk⟩));(case aO=>exact(zR aK));(case aS=>exact(below_size zb));(case aL=>have:=cT.out;omega);intro v537 eG ho hb hg hat;rw[<-Ny536.out] at ho;replace aG:=zA (Kd.R_after (ok:=(fun k_=>some k_≠(.slice bE aD.length aW:Value).ownBlock)) (zWm aG) hg hat);replace aN:=zA (Kd.R_after (ok:=(fun k_=>some k_≠(v522:Value).ownBlock)) (zR aN) hg hat);replace aA:=zgr aA hg (Kd.R_ne aK.out aA.out (by decide));replace HB:=zA hb;have cV:=zA ho;clear aK;clear ho hb hg hat))
        repeat (go_quiet (fail);try go_wp2_with (first|((with_reducible refine gate_builtin (b:=.append) (xs:=#[.tmp 46,.tmp 48]) rfl ?_);at_builtin;refine Kd.R_append (Kd.int .i64) (w0:=w) w.heap.size rfl (.tmp 46) (.tmp 48) 22 3 (.int .i64 0) 8 rfl Try.underlying22 info3 rfl (by decide) (by omega) u8 aZ aQ [aQ] (fun k_=>some k_≠(v522:Value).ownBlock/\some k_≠(.slice bE aD.length aW:Value).ownBlock) (fun _=>False) rfl rfl ?aP (fun _ hk=>hk.elim) ?aF ?aO ?aB ?aS ?aL ?_;(case aP=>exact rfl);(case aB=>exact zb);(case aF=>exact(fun k_ hk=>⟨Kd.fresh' (Kd.R_lt (zR aG)) k_ hk,Kd.fresh' (Kd.R_lt (zR aN)) k_ hk⟩));(case aO=>exact(zR aK));(case aS=>exact(below_size zb));(case aL=>have:=cT.out;omega);intro v537 eG ho hb hg hat;rw[<-Ny536.out] at ho;replace aG:=zA (Kd.R_after (ok:=(fun k_=>some k_≠(.slice bE aD.length aW:Value).ownBlock)) (zWm aG) hg hat);replace aN:=zA (Kd.R_after (ok:=(fun k_=>some k_≠(v522:Value).ownBlock)) (zR aN) hg hat);replace aA:=zgr aA hg (Kd.R_ne aK.out aA.out (by decide));replace HB:=zA hb;have cV:=zA ho;clear aK;clear ho hb hg hat)))
        go_roundg k2
        case measure=>have:=HK1.out;have:=HK2.out;omega
        case rel=>exact⟨(dH),(aQ),zr,H',⟨by have:=HK1.out;have:=HK2.out;omega⟩,⟨zWm aG⟩,⟨zWm cV⟩,⟨zk aA⟩,⟨zb⟩⟩

def XZ.f (a0_0:Int) (a0_1:Int):Option (Bool):=(X0.f a0_1 1 10).bind fun t540=>(if t540=true then((X0.f a0_0 0 (wrap64 (a0_1-1))).bind fun t541=>(some t541)) else(some false))
theorem XZ.calls (aC:Int) (aA:Int) (r:Bool) (w:World) (h:XZ.f aC aA=some r) :
  Calls Try.prog 120 #[.agg #[aC,aA]] w fun e w'=>e=.returned (.bool r)/\Below w.heap.size w w':=by
 have hu38:=Try.underlying38;have HB:=zA (Below.refl w.heap.size w);have H:=h;clear h;unfold XZ.f at H;obtain⟨aJ,A2,H⟩:=zB H
 by_cases c3:aJ=true
 ·subst c3;rw[if_pos rfl] at H;obtain⟨aI,A4,H⟩:=zB H;obtain rfl:=zI H;go_enter Try.func120,Try.ntmps120
  go_wp2_with (first|((with_reducible refine zgd 1 rfl ?_);refine zbx 1 #[aC,aA] 38 ?_;intro aE hg w5 b' hb;have aD:=zA b';have aH:=zga (w:=w) hg;replace HB:=zbs hb;clear hb b' hg;obtain⟨aV,aU,aQ,aN⟩:=ze2 aD)|((with_reducible refine zgf 95 rfl ?_);refine zgl 5 Try.func95 #[aA,.int .i64 1,.int .i64 10] ?_;(refine(X0.calls aA 1 10 true _ A2.out).mono ?_);rintro e w' ⟨rfl,⟨nd,rfl⟩⟩;refine⟨_,rfl,?_⟩)|(go_at_call 95;(refine(X0.calls aC 0 (wrap64 (aA-1)) aI _ A4.out).mono ?_);rintro e w' ⟨rfl,⟨nd,rfl⟩⟩))
  go_ret;exact⟨zE,zb⟩
 ·replace c3:=zbq c3;subst c3;rw[if_neg zNo] at H;obtain rfl:=zI H;go_enter Try.func120,Try.ntmps120
  go_wp2_with (first|((with_reducible refine zgd 1 rfl ?_);refine zbx 1 #[aC,aA] 38 ?_;intro aE hg w7 b' hb;have aD:=zA b';have aH:=zga (w:=w) hg;replace HB:=zbs hb;clear hb b' hg;obtain⟨aT,aR,aM,aK⟩:=ze2 aD)|((with_reducible refine zgf 95 rfl ?_);refine zgl 5 Try.func95 #[aA,.int .i64 1,.int .i64 10] ?_;(refine(X0.calls aA 1 10 false _ A2.out).mono ?_);rintro e w' ⟨rfl,⟨nd,rfl⟩⟩;refine⟨_,rfl,?_⟩))
  go_ret;exact⟨zE,zb⟩

def X9.l0:Nat->List (S85)->List (S85)->Int->Int->Int->Int->List Int->Option (Bool)
  |0,_,_,_,_,_,_,_=>none
  |k+1,x1,x7,x8,x9,x543000,x543001,x543002=>if x9<x8 then(if 0<=x9 then(if x9<(x7.length:Int) then((Xg.f k x543000 x543001 x543002 ((rd_T85 x7 x9).f0)).bind fun t546=>(if t546=true then(if x9>0 then(if 0<=(wrap64 (x9-1)) then(if (wrap64 (x9-1))<(x1.length:Int) then(if ((rd_T85 x7 x9).f0)<=((rd_T85 x1 (wrap64 (x9-1))).f0) then(some false) else((X0.f ((rd_T85 x7 x9).f1) 1 10000).bind fun t548=>(if t548=true then(X9.l0 k x1 x7 x8 (wrap64 (x9+1)) x543000 x543001 x543002) else(some false)))) else(none)) else(none)) else((X0.f ((rd_T85 x7 x9).f1) 1 10000).bind fun t549=>(if t549=true then(X9.l0 k x1 x7 x8 (wrap64 (x9+1)) x543000 x543001 x543002) else(some false)))) else(some false))) else(none)) else(none)) else((Xz.f k x543000 x543001 x543002).bind fun t543=>(if t543=true then(some (decide ((x1.length:Int)<=20))) else(some false)))
def X9.f (k:Nat) (a0_0:Int) (a0_1:Int) (l0_2:List Int) (l1:List (S85)):Option (Bool):=X9.l0 k l1 l1 (l1.length:Int) 0 a0_0 a0_1 l0_2
def X9.T4:Bool × List (List Nat × List Nat):=(true,[([],[]),([],[]),([1],[1]),([0,2],[0,2]),([3],[3]),([4,3],[4]),([5],[5]),([6,5],[5,6]),([7,5,5],[5,7]),([8],[8]),([9,8],[8,9]),([8],[8]),([8],[8]),([12,8],[8,12]),([11,13,8],[8,11,13]),([14,8],[8,14]),([15,8],[8,15]),([10,16,8],[8,10,16]),([8,17,5],[5,8,17]),([5,18],[5,18]),([19,8],[19]),([20],[20]),([21,20],[20,21]),([22,20,20],[20,22]),([23,20],[20,23]),([20,24],[20,24])])
def X9.B4:List Nat:=[0,0,2,7,15,31,63,127,255,511,1023,511,511,4607,14847,31231,63999,131071,262143,524287,1048575,2097151,4194303,8388607,16777215,33554431]
theorem X9.tab4:rtab .any (opsOf Try.f133 4)=X9.T4:=by kernel_rfl
theorem X9.bits4:waitsOk X9.T4.2 X9.B4=true:=by kernel_rfl
theorem X9.calls (k:Nat) (aJ:Int) (aI:Int) (aV:Option Addr) (aU:Nat) (aH:List Int) (A1:Option Addr) (c1:Nat) (l1:List (S85)) (r:Bool) (w:World) (bU:Kd.C (Kd.int .i64) w aV aH.length aH) (bV:aH.length<=aU) (cD:Kd.C k85 w A1 l1.length l1) (cE:l1.length<=c1) (h:X9.f k aJ aI aH l1=some r) :
  Calls Try.prog 133 #[.agg #[aJ,aI,.slice aV aH.length aU],.slice A1 l1.length c1] w fun e w'=>e=.returned (.bool r)/\Below w.heap.size w w':=by
 have hu37:=Try.underlying37;have hu85:=Try.underlying85;have bD:=zA bU;have bE:=zA bV;clear bU bV;have bH:=zA cD;have fL:=zA cE;clear cD cE;have HB:=zA (Below.refl w.heap.size w);have H:=h;clear h;unfold X9.f at H;have H':=zA H;clear H;go_enter Try.func133,Try.ntmps133
 go_wp2_with (first|((with_reducible refine zgd 2 rfl ?_);(try (refine gate_guard (by rfl) ?_;dsimp only));refine zbx 2 #[aJ,aI,.slice aV aH.length aU] 37 ?_;intro aK hg w3 b' hb;have aA:=zA b';have eU:=zga (w:=w) hg;replace HB:=zbs hb;clear hb b' hg))
 go_loopg [9] k (fun kq v9 w'=>∃ (aC:Int),v9=.int .i64 aC/\Aside0 (X9.l0 kq l1 l1 (l1.length:Int) aC aJ aI aH=some r)/\Aside0 (kq<=k)/\Aside0 (w'.heap[aK]?=some (.cells #[aJ,aI,(.slice aV aH.length aU)] 37 (0,0)))/\Aside0 (Below w.heap.size w w'))
 case atStart=>exact⟨(0),zr,H',⟨Nat.le_refl _⟩,⟨zk aA⟩,⟨zb⟩⟩
 case round =>
  clear H';(try clear c1);obtain⟨aC,rfl,HA,HK1,aA,HB⟩:=hrel
  cases gk with
  |zero=>exact absurd HA.out (by simp[X9.l0])
  |succ k1 =>
   have H:=HA.out;clear HA;simp only[X9.l0] at H
   by_cases c4:aC<(l1.length:Int)
   ·rw[if_pos c4] at H;have cM:=decide_eq_true c4;clear c4;obtain⟨eW,H⟩:=zifD H;obtain⟨eV,H⟩:=zifD H;obtain⟨cJ,A7,H⟩:=zB H
    by_cases c8:cJ=true
    ·subst c8;rw[if_pos rfl] at H
     by_cases c9:aC>0
     ·rw[if_pos c9] at H;have cL:decide (0<aC)=true:=decide_eq_true c9;clear c9;obtain⟨aQ,bF⟩:∃ j_:Int,(wrap64 (aC-1))=j_:=⟨_,rfl⟩
      replace H:(if 0<=(aQ) then(if (aQ)<(l1.length:Int) then(if ((rd_T85 l1 aC).f0)<=((rd_T85 l1 (aQ)).f0) then(some false) else((X0.f ((rd_T85 l1 aC).f1) 1 10000).bind fun bM=>(if bM=true then(X9.l0 k1 l1 l1 (l1.length:Int) (wrap64 (aC+1)) aJ aI aH) else(some false)))) else(none)) else(none))=some r:=by first|(rw[bF] at H;exact H)|(simp only[bF] at H ⊢;exact H)
      (try rw[bF] at A7);have eE:(IntKind.i64.wrap (aC-1))=aQ:=(i64_w _).trans bF;obtain⟨eT,H⟩:=zifD H;obtain⟨eS,H⟩:=zifD H
      by_cases c13:((rd_T85 l1 aC).f0)<=((rd_T85 l1 (aQ)).f0)
      ·rw[if_pos c13] at H;have cC:=decide_eq_true c13;clear c13;obtain rfl:=zI H;have bK:=zT (0<=(aC:Int));have bJ:=zT (aC<(l1.length:Int));obtain⟨aW,bC,aN,aM⟩:=at_T85 bH.out aC zd zd;cases bC;replace aN:=zC HB aN;replace aM:=zC HB aM
       try go_wp2_with (first|((with_reducible refine zgd 6 rfl ?_);(try (refine gate_guard (by rfl) ?_;dsimp only));refine zbx 6 #[.int .i64 0,.int .i64 0] 85 ?_;intro aE hg bT b' hb;have aD:=zA b';have bI:=zga (w:=w) hg;replace HB:=zbs hb;replace aA:=zlh aA hg hb;obtain⟨aT,aR,aA⟩:=aA;clear hb b' hg;have eR:=aR.out;have eL:=aT.out;obtain⟨dX,dW,dF,dE⟩:=ze2 aD))
       have bB:Aside0 (((bT.setCell ⟨aE,0,none⟩ (.int .i64 ((rd_T85 l1 aC).f0))).setCell ⟨aE,1,none⟩ (.int .i64 ((rd_T85 l1 aC).f1))).heap[aK]?=some (.cells #[aJ,aI,.slice aV aH.length aU] 37 (0,0))):=⟨zkf aA⟩;have bA:Aside0 (((bT.setCell ⟨aE,0,none⟩ (.int .i64 ((rd_T85 l1 aC).f0))).setCell ⟨aE,1,none⟩ (.int .i64 ((rd_T85 l1 aC).f1))).heap[aE]?=some (.cells #[.int .i64 ((rd_T85 l1 aC).f0),.int .i64 ((rd_T85 l1 aC).f1)] 85 (0,0))):=⟨zkp aD⟩;have aZ:Aside0 (Below w.heap.size w ((bT.setCell ⟨aE,0,none⟩ (.int .i64 ((rd_T85 l1 aC).f0))).setCell ⟨aE,1,none⟩ (.int .i64 ((rd_T85 l1 aC).f1)))):=⟨zb⟩;(try clear aA aD HB);generalize ((bT.setCell ⟨aE,0,none⟩ (.int .i64 ((rd_T85 l1 aC).f0))).setCell ⟨aE,1,none⟩ (.int .i64 ((rd_T85 l1 aC).f1)))=eD at bB bA aZ ⊢;have aA:=bB;have aD:=bA;have HB:=aZ;clear bB bA aZ;replace aA:=zA (blk_drew aA.out);replace aD:=zA (blk_drew aD.out);replace HB:=zA (below_drew1 HB.out);have cA:=zT (0<=((aQ):Int));have bZ:=zT ((aQ)<(l1.length:Int));obtain⟨bG,bL,aY,aX⟩:=at_T85 bH.out (aQ) zd zd;obtain rfl:aW=bG:=(by injection bL);refine start_ (n:=26) (S:=fun w'=>w'.cell? ⟨aK,0,none⟩=some (.int .i64 aJ)/\w'.cell? ⟨aK,1,none⟩=some (.int .i64 aI)/\w'.cell? ⟨aK,2,none⟩=some (.slice aV aH.length aU)/\w'.cell? ⟨aE,0,none⟩=some (.int .i64 ((rd_T85 l1 aC).f0))/\w'.cell? ⟨aE,1,none⟩=some (.int .i64 ((rd_T85 l1 aC).f1))/\w'.cell? (aW.add (((aQ)).toNat * 2))=some (.int .i64 ((rd_T85 l1 (aQ)).f0))/\w'.cell? ⟨(aW.add (((aQ)).toNat * 2)).block,(aW.add (((aQ)).toNat * 2)).off+1,none⟩=some (.int .i64 ((rd_T85 l1 (aQ)).f1))) (ds:=[]) _ (by kernel_rfl) rfl rfl ⟨zq aA 0,zq aA 1,zq aA 2,zq aD 0,zq aD 1,(zC HB aY),(zC HB aX)⟩ (fun h'=>?_);refine with_tabW X9.tab4 X9.bits4 (fun T_ W_=>?_);generalize eD.drew=fK at aA aD HB h' ⊢;refine zp 1 15 T_ ?_;refine zt 0 14 T_ W_ h' ?_;refine zt 2 16 T_ W_ h' ?_;refine zo 3 17 T_ (fun K hK=>?_);refine zgo Try.func109 #[.agg #[aJ,aI,.slice aV aH.length aU],.int .i64 ((rd_T85 l1 aC).f0)] ?_
       refine(Xg.calls k1 aJ aI _ _ aH ((rd_T85 l1 aC).f0) true _ (zCb bD) bE.out A7.out).mono ?_
       rintro e fJ ⟨rfl,hb⟩;refine⟨_,rfl,?_⟩;replace aA:=zkb aA hb;replace aD:=zA (blk_below (g:=aE) (o:=.cells #[.int .i64 ((rd_T85 l1 aC).f0),.int .i64 ((rd_T85 l1 aC).f1)] 85 (0,0)) (zk aD) hb);replace HB:=zbs hb;(try clear hb);refine hK.out _ _ ⟨zq aA 0,zq aA 1,zq aA 2,zq aD 0,zq aD 1,(zC HB aY),(zC HB aX)⟩ (fun h'=>?_);clear hK K;refine norm_ zV ?_;refine zp 4 18 T_ ?_;refine zp 5 19 T_ ?_;refine zp 6 20 T_ ?_;refine zp 7 21 T_ ?_;refine zp 8 22 T_ ?_;refine zp 9 23 T_ ?_;refine zp 11 25 T_ ?_;refine zp 12 26 T_ ?_;refine zp 13 27 T_ ?_;refine zp 14 28 T_ ?_;refine zp 15 29 T_ ?_;refine zt 10 24 T_ W_ h' ?_;refine zt 16 30 T_ W_ h' ?_;refine zp 17 31 T_ ?_;refine zp 18 32 T_ ?_;refine zp 19 33 T_ ?_;refine zp 20 34 T_ ?_;refine zu 21 35 T_ ?_;refine zu 22 36 T_ ?_;refine zu 23 37 T_ ?_;refine zu 24 38 T_ ?_;refine zp 25 39 T_ ?_;refine done_ (done_of T_.out (by kernel_rfl)) ?_
       try go_wp2
       go_ret;exact⟨by first|rfl|(simp[errW_none,errW_some] <;> rfl)|(simp only[<-bF];first|rfl|(simp[errW_none,errW_some] <;> rfl))|(simp[*,errW_none,errW_some] <;> rfl),zb⟩
      ·rw[if_neg c13] at H;have cC:=decide_eq_false c13;clear c13;obtain⟨bM,cH,H⟩:=zB H
       by_cases bY:bM=true
       ·subst bY;rw[if_pos rfl] at H;have H':=zA H;clear H;have bK:=zT (0<=(aC:Int));have bJ:=zT (aC<(l1.length:Int));obtain⟨aW,bC,aN,aM⟩:=at_T85 bH.out aC zd zd;cases bC;replace aN:=zC HB aN;replace aM:=zC HB aM
        try go_wp2_with (first|((with_reducible refine zgd 6 rfl ?_);(try (refine gate_guard (by rfl) ?_;dsimp only));refine zbx 6 #[.int .i64 0,.int .i64 0] 85 ?_;intro aE hg bS b' hb;have aD:=zA b';have bI:=zga (w:=w) hg;replace HB:=zbs hb;replace aA:=zlh aA hg hb;obtain⟨aT,aR,aA⟩:=aA;clear hb b' hg;have eQ:=aR.out;have eK:=aT.out;obtain⟨dV,dU,dD,dC⟩:=ze2 aD))
        have bB:Aside0 (((bS.setCell ⟨aE,0,none⟩ (.int .i64 ((rd_T85 l1 aC).f0))).setCell ⟨aE,1,none⟩ (.int .i64 ((rd_T85 l1 aC).f1))).heap[aK]?=some (.cells #[aJ,aI,.slice aV aH.length aU] 37 (0,0))):=⟨zkf aA⟩;have bA:Aside0 (((bS.setCell ⟨aE,0,none⟩ (.int .i64 ((rd_T85 l1 aC).f0))).setCell ⟨aE,1,none⟩ (.int .i64 ((rd_T85 l1 aC).f1))).heap[aE]?=some (.cells #[.int .i64 ((rd_T85 l1 aC).f0),.int .i64 ((rd_T85 l1 aC).f1)] 85 (0,0))):=⟨zkp aD⟩;have aZ:Aside0 (Below w.heap.size w ((bS.setCell ⟨aE,0,none⟩ (.int .i64 ((rd_T85 l1 aC).f0))).setCell ⟨aE,1,none⟩ (.int .i64 ((rd_T85 l1 aC).f1)))):=⟨zb⟩;(try clear aA aD HB);generalize ((bS.setCell ⟨aE,0,none⟩ (.int .i64 ((rd_T85 l1 aC).f0))).setCell ⟨aE,1,none⟩ (.int .i64 ((rd_T85 l1 aC).f1)))=eC at bB bA aZ ⊢;have aA:=bB;have aD:=bA;have HB:=aZ;clear bB bA aZ;replace aA:=zA (blk_drew aA.out);replace aD:=zA (blk_drew aD.out);replace HB:=zA (below_drew1 HB.out);have cA:=zT (0<=((aQ):Int));have bZ:=zT ((aQ)<(l1.length:Int));obtain⟨bG,bL,aY,aX⟩:=at_T85 bH.out (aQ) zd zd;obtain rfl:aW=bG:=(by injection bL);refine start_ (n:=26) (S:=fun w'=>w'.cell? ⟨aK,0,none⟩=some (.int .i64 aJ)/\w'.cell? ⟨aK,1,none⟩=some (.int .i64 aI)/\w'.cell? ⟨aK,2,none⟩=some (.slice aV aH.length aU)/\w'.cell? ⟨aE,0,none⟩=some (.int .i64 ((rd_T85 l1 aC).f0))/\w'.cell? ⟨aE,1,none⟩=some (.int .i64 ((rd_T85 l1 aC).f1))/\w'.cell? (aW.add (((aQ)).toNat * 2))=some (.int .i64 ((rd_T85 l1 (aQ)).f0))/\w'.cell? ⟨(aW.add (((aQ)).toNat * 2)).block,(aW.add (((aQ)).toNat * 2)).off+1,none⟩=some (.int .i64 ((rd_T85 l1 (aQ)).f1))) (ds:=[]) _ (by kernel_rfl) rfl rfl ⟨zq aA 0,zq aA 1,zq aA 2,zq aD 0,zq aD 1,(zC HB aY),(zC HB aX)⟩ (fun h'=>?_);refine with_tabW X9.tab4 X9.bits4 (fun T_ W_=>?_);generalize eC.drew=fI at aA aD HB h' ⊢;refine zp 1 15 T_ ?_;refine zt 0 14 T_ W_ h' ?_;refine zt 2 16 T_ W_ h' ?_;refine zo 3 17 T_ (fun K hK=>?_);refine zgo Try.func109 #[.agg #[aJ,aI,.slice aV aH.length aU],.int .i64 ((rd_T85 l1 aC).f0)] ?_
        refine(Xg.calls k1 aJ aI _ _ aH ((rd_T85 l1 aC).f0) true _ (zCb bD) bE.out A7.out).mono ?_
        rintro e fH ⟨rfl,hb⟩;refine⟨_,rfl,?_⟩;replace aA:=zkb aA hb;replace aD:=zA (blk_below (g:=aE) (o:=.cells #[.int .i64 ((rd_T85 l1 aC).f0),.int .i64 ((rd_T85 l1 aC).f1)] 85 (0,0)) (zk aD) hb);replace HB:=zbs hb;(try clear hb);refine hK.out _ _ ⟨zq aA 0,zq aA 1,zq aA 2,zq aD 0,zq aD 1,(zC HB aY),(zC HB aX)⟩ (fun h'=>?_);clear hK K;refine norm_ zV ?_;refine zp 4 18 T_ ?_;refine zp 5 19 T_ ?_;refine zp 6 20 T_ ?_;refine zp 7 21 T_ ?_;refine zp 8 22 T_ ?_;refine zp 9 23 T_ ?_;refine zp 11 25 T_ ?_;refine zp 12 26 T_ ?_;refine zp 13 27 T_ ?_;refine zp 14 28 T_ ?_;refine zp 15 29 T_ ?_;refine zt 10 24 T_ W_ h' ?_;refine zt 16 30 T_ W_ h' ?_;refine zp 17 31 T_ ?_;refine zp 18 32 T_ ?_;refine zp 19 33 T_ ?_;refine zp 20 34 T_ ?_;refine zp 21 35 T_ ?_;refine zt 22 36 T_ W_ h' ?_;refine zo 23 37 T_ (fun K hK=>?_);refine zgo Try.func95 #[.int .i64 ((rd_T85 l1 aC).f1),.int .i64 1,.int .i64 10000] ?_
        refine(X0.calls ((rd_T85 l1 aC).f1) 1 10000 true _ cH.out).mono ?_
        rintro e w' ⟨rfl,⟨nd,rfl⟩⟩;refine⟨_,rfl,?_⟩;refine hK.out _ _ ⟨zq aA 0,zq aA 1,zq aA 2,zq aD 0,zq aD 1,(zC HB aY :),(zC HB aX :)⟩ (fun h'=>?_);clear hK K;refine norm_ zV ?_;refine zp 24 38 T_ ?_;refine zp 25 39 T_ ?_;refine done_ (done_of T_.out (by kernel_rfl)) ?_
        try go_wp2
        go_roundg k1
        case measure=>have:=HK1.out;omega
        case rel=>exact⟨(wrap64 (aC+1)),zr,H',⟨by have:=HK1.out;omega⟩,⟨zk aA⟩,⟨zb⟩⟩
       ·replace bY:=zbq bY;subst bY;rw[if_neg zNo] at H;obtain rfl:=zI H;have bK:=zT (0<=(aC:Int));have bJ:=zT (aC<(l1.length:Int));obtain⟨aW,bC,aN,aM⟩:=at_T85 bH.out aC zd zd;cases bC;replace aN:=zC HB aN;replace aM:=zC HB aM
        try go_wp2_with (first|((with_reducible refine zgd 6 rfl ?_);(try (refine gate_guard (by rfl) ?_;dsimp only));refine zbx 6 #[.int .i64 0,.int .i64 0] 85 ?_;intro aE hg bR b' hb;have aD:=zA b';have bI:=zga (w:=w) hg;replace HB:=zbs hb;replace aA:=zlh aA hg hb;obtain⟨aT,aR,aA⟩:=aA;clear hb b' hg;have eP:=aR.out;have eJ:=aT.out;obtain⟨dT,dS,dB,dA⟩:=ze2 aD))
        have bB:Aside0 (((bR.setCell ⟨aE,0,none⟩ (.int .i64 ((rd_T85 l1 aC).f0))).setCell ⟨aE,1,none⟩ (.int .i64 ((rd_T85 l1 aC).f1))).heap[aK]?=some (.cells #[aJ,aI,.slice aV aH.length aU] 37 (0,0))):=⟨zkf aA⟩;have bA:Aside0 (((bR.setCell ⟨aE,0,none⟩ (.int .i64 ((rd_T85 l1 aC).f0))).setCell ⟨aE,1,none⟩ (.int .i64 ((rd_T85 l1 aC).f1))).heap[aE]?=some (.cells #[.int .i64 ((rd_T85 l1 aC).f0),.int .i64 ((rd_T85 l1 aC).f1)] 85 (0,0))):=⟨zkp aD⟩;have aZ:Aside0 (Below w.heap.size w ((bR.setCell ⟨aE,0,none⟩ (.int .i64 ((rd_T85 l1 aC).f0))).setCell ⟨aE,1,none⟩ (.int .i64 ((rd_T85 l1 aC).f1)))):=⟨zb⟩;(try clear aA aD HB);generalize ((bR.setCell ⟨aE,0,none⟩ (.int .i64 ((rd_T85 l1 aC).f0))).setCell ⟨aE,1,none⟩ (.int .i64 ((rd_T85 l1 aC).f1)))=eB at bB bA aZ ⊢;have aA:=bB;have aD:=bA;have HB:=aZ;clear bB bA aZ;replace aA:=zA (blk_drew aA.out);replace aD:=zA (blk_drew aD.out);replace HB:=zA (below_drew1 HB.out);have cA:=zT (0<=((aQ):Int));have bZ:=zT ((aQ)<(l1.length:Int));obtain⟨bG,bL,aY,aX⟩:=at_T85 bH.out (aQ) zd zd;obtain rfl:aW=bG:=(by injection bL);refine start_ (n:=26) (S:=fun w'=>w'.cell? ⟨aK,0,none⟩=some (.int .i64 aJ)/\w'.cell? ⟨aK,1,none⟩=some (.int .i64 aI)/\w'.cell? ⟨aK,2,none⟩=some (.slice aV aH.length aU)/\w'.cell? ⟨aE,0,none⟩=some (.int .i64 ((rd_T85 l1 aC).f0))/\w'.cell? ⟨aE,1,none⟩=some (.int .i64 ((rd_T85 l1 aC).f1))/\w'.cell? (aW.add (((aQ)).toNat * 2))=some (.int .i64 ((rd_T85 l1 (aQ)).f0))/\w'.cell? ⟨(aW.add (((aQ)).toNat * 2)).block,(aW.add (((aQ)).toNat * 2)).off+1,none⟩=some (.int .i64 ((rd_T85 l1 (aQ)).f1))) (ds:=[]) _ (by kernel_rfl) rfl rfl ⟨zq aA 0,zq aA 1,zq aA 2,zq aD 0,zq aD 1,(zC HB aY),(zC HB aX)⟩ (fun h'=>?_);refine with_tabW X9.tab4 X9.bits4 (fun T_ W_=>?_);generalize eB.drew=fG at aA aD HB h' ⊢;refine zp 1 15 T_ ?_;refine zt 0 14 T_ W_ h' ?_;refine zt 2 16 T_ W_ h' ?_;refine zo 3 17 T_ (fun K hK=>?_);refine zgo Try.func109 #[.agg #[aJ,aI,.slice aV aH.length aU],.int .i64 ((rd_T85 l1 aC).f0)] ?_
        refine(Xg.calls k1 aJ aI _ _ aH ((rd_T85 l1 aC).f0) true _ (zCb bD) bE.out A7.out).mono ?_
        rintro e fF ⟨rfl,hb⟩;refine⟨_,rfl,?_⟩;replace aA:=zkb aA hb;replace aD:=zA (blk_below (g:=aE) (o:=.cells #[.int .i64 ((rd_T85 l1 aC).f0),.int .i64 ((rd_T85 l1 aC).f1)] 85 (0,0)) (zk aD) hb);replace HB:=zbs hb;(try clear hb);refine hK.out _ _ ⟨zq aA 0,zq aA 1,zq aA 2,zq aD 0,zq aD 1,(zC HB aY),(zC HB aX)⟩ (fun h'=>?_);clear hK K;refine norm_ zV ?_;refine zp 4 18 T_ ?_;refine zp 5 19 T_ ?_;refine zp 6 20 T_ ?_;refine zp 7 21 T_ ?_;refine zp 8 22 T_ ?_;refine zp 9 23 T_ ?_;refine zp 11 25 T_ ?_;refine zp 12 26 T_ ?_;refine zp 13 27 T_ ?_;refine zp 14 28 T_ ?_;refine zp 15 29 T_ ?_;refine zt 10 24 T_ W_ h' ?_;refine zt 16 30 T_ W_ h' ?_;refine zp 17 31 T_ ?_;refine zp 18 32 T_ ?_;refine zp 19 33 T_ ?_;refine zp 20 34 T_ ?_;refine zp 21 35 T_ ?_;refine zt 22 36 T_ W_ h' ?_;refine zo 23 37 T_ (fun K hK=>?_);refine zgo Try.func95 #[.int .i64 ((rd_T85 l1 aC).f1),.int .i64 1,.int .i64 10000] ?_
        refine(X0.calls ((rd_T85 l1 aC).f1) 1 10000 false _ cH.out).mono ?_
        rintro e w' ⟨rfl,⟨nd,rfl⟩⟩;refine⟨_,rfl,?_⟩;refine hK.out _ _ ⟨zq aA 0,zq aA 1,zq aA 2,zq aD 0,zq aD 1,(zC HB aY :),(zC HB aX :)⟩ (fun h'=>?_);clear hK K;refine norm_ zV ?_;refine zp 24 38 T_ ?_;refine zp 25 39 T_ ?_;refine done_ (done_of T_.out (by kernel_rfl)) ?_
        try go_wp2
        go_ret;exact⟨by first|rfl|(simp[errW_none,errW_some] <;> rfl)|(simp only[<-bF];first|rfl|(simp[errW_none,errW_some] <;> rfl))|(simp[*,errW_none,errW_some] <;> rfl),zb⟩
     ·rw[if_neg c9] at H;have cL:decide (0<aC)=false:=decide_eq_false c9;clear c9;obtain⟨cI,cG,H⟩:=zB H
      by_cases bX:cI=true
      ·subst bX;rw[if_pos rfl] at H;have H':=zA H;clear H;have bK:=zT (0<=(aC:Int));have bJ:=zT (aC<(l1.length:Int));obtain⟨aW,bC,aN,aM⟩:=at_T85 bH.out aC zd zd;cases bC;replace aN:=zC HB aN;replace aM:=zC HB aM
       try go_wp2_with (first|((with_reducible refine zgd 6 rfl ?_);(try (refine gate_guard (by rfl) ?_;dsimp only));refine zbx 6 #[.int .i64 0,.int .i64 0] 85 ?_;intro aE hg bQ b' hb;have aD:=zA b';have bI:=zga (w:=w) hg;replace HB:=zbs hb;replace aA:=zlh aA hg hb;obtain⟨aT,aR,aA⟩:=aA;clear hb b' hg;have eO:=aR.out;have eI:=aT.out;obtain⟨dR,dQ,cZ,cY⟩:=ze2 aD))
       have bB:Aside0 (((bQ.setCell ⟨aE,0,none⟩ (.int .i64 ((rd_T85 l1 aC).f0))).setCell ⟨aE,1,none⟩ (.int .i64 ((rd_T85 l1 aC).f1))).heap[aK]?=some (.cells #[aJ,aI,.slice aV aH.length aU] 37 (0,0))):=⟨zkf aA⟩;have bA:Aside0 (((bQ.setCell ⟨aE,0,none⟩ (.int .i64 ((rd_T85 l1 aC).f0))).setCell ⟨aE,1,none⟩ (.int .i64 ((rd_T85 l1 aC).f1))).heap[aE]?=some (.cells #[.int .i64 ((rd_T85 l1 aC).f0),.int .i64 ((rd_T85 l1 aC).f1)] 85 (0,0))):=⟨zkp aD⟩;have aZ:Aside0 (Below w.heap.size w ((bQ.setCell ⟨aE,0,none⟩ (.int .i64 ((rd_T85 l1 aC).f0))).setCell ⟨aE,1,none⟩ (.int .i64 ((rd_T85 l1 aC).f1)))):=⟨zb⟩;(try clear aA aD HB);generalize ((bQ.setCell ⟨aE,0,none⟩ (.int .i64 ((rd_T85 l1 aC).f0))).setCell ⟨aE,1,none⟩ (.int .i64 ((rd_T85 l1 aC).f1)))=eA at bB bA aZ ⊢;have aA:=bB;have aD:=bA;have HB:=aZ;clear bB bA aZ;replace aA:=zA (blk_drew aA.out);replace aD:=zA (blk_drew aD.out);replace HB:=zA (below_drew1 HB.out);refine start_ (n:=26) (S:=fun w'=>w'.cell? ⟨aK,0,none⟩=some (.int .i64 aJ)/\w'.cell? ⟨aK,1,none⟩=some (.int .i64 aI)/\w'.cell? ⟨aK,2,none⟩=some (.slice aV aH.length aU)/\w'.cell? ⟨aE,0,none⟩=some (.int .i64 ((rd_T85 l1 aC).f0))/\w'.cell? ⟨aE,1,none⟩=some (.int .i64 ((rd_T85 l1 aC).f1))) (ds:=[]) _ (by kernel_rfl) rfl rfl ⟨zq aA 0,zq aA 1,zq aA 2,zq aD 0,zq aD 1⟩ (fun h'=>?_);refine with_tabW X9.tab4 X9.bits4 (fun T_ W_=>?_);generalize eA.drew=fE at aA aD HB h' ⊢;refine zp 1 15 T_ ?_;refine zt 0 14 T_ W_ h' ?_;refine zt 2 16 T_ W_ h' ?_;refine zo 3 17 T_ (fun K hK=>?_);refine zgo Try.func109 #[.agg #[aJ,aI,.slice aV aH.length aU],.int .i64 ((rd_T85 l1 aC).f0)] ?_
       refine(Xg.calls k1 aJ aI _ _ aH ((rd_T85 l1 aC).f0) true _ (zCb bD) bE.out A7.out).mono ?_
       rintro e fD ⟨rfl,hb⟩;refine⟨_,rfl,?_⟩;replace aA:=zkb aA hb;replace aD:=zA (blk_below (g:=aE) (o:=.cells #[.int .i64 ((rd_T85 l1 aC).f0),.int .i64 ((rd_T85 l1 aC).f1)] 85 (0,0)) (zk aD) hb);replace HB:=zbs hb;(try clear hb);refine hK.out _ _ ⟨zq aA 0,zq aA 1,zq aA 2,zq aD 0,zq aD 1⟩ (fun h'=>?_);clear hK K;refine norm_ zV ?_;refine zp 4 18 T_ ?_;refine zp 5 19 T_ ?_;refine zp 6 20 T_ ?_;refine zp 7 21 T_ ?_;refine zp 8 22 T_ ?_;refine zu 9 23 T_ ?_;refine zu 10 24 T_ ?_;refine zu 11 25 T_ ?_;refine zu 12 26 T_ ?_;refine zu 13 27 T_ ?_;refine zu 14 28 T_ ?_;refine zu 15 29 T_ ?_;refine zu 16 30 T_ ?_;refine zu 17 31 T_ ?_;refine zp 18 32 T_ ?_;refine zp 19 33 T_ ?_;refine zp 20 34 T_ ?_;refine zp 21 35 T_ ?_;refine zt 22 36 T_ W_ h' ?_;refine zo 23 37 T_ (fun K hK=>?_);refine zgo Try.func95 #[.int .i64 ((rd_T85 l1 aC).f1),.int .i64 1,.int .i64 10000] ?_
       refine(X0.calls ((rd_T85 l1 aC).f1) 1 10000 true _ cG.out).mono ?_
       rintro e w' ⟨rfl,⟨nd,rfl⟩⟩;refine⟨_,rfl,?_⟩;refine hK.out _ _ ⟨zq aA 0,zq aA 1,zq aA 2,zq aD 0,zq aD 1⟩ (fun h'=>?_);clear hK K;refine norm_ zV ?_;refine zp 24 38 T_ ?_;refine zp 25 39 T_ ?_;refine done_ (done_of T_.out (by kernel_rfl)) ?_
       try go_wp2
       go_roundg k1
       case measure=>have:=HK1.out;omega
       case rel=>exact⟨(wrap64 (aC+1)),zr,H',⟨by have:=HK1.out;omega⟩,⟨zk aA⟩,⟨zb⟩⟩
      ·replace bX:=zbq bX;subst bX;rw[if_neg zNo] at H;obtain rfl:=zI H;have bK:=zT (0<=(aC:Int));have bJ:=zT (aC<(l1.length:Int));obtain⟨aW,bC,aN,aM⟩:=at_T85 bH.out aC zd zd;cases bC;replace aN:=zC HB aN;replace aM:=zC HB aM
       try go_wp2_with (first|((with_reducible refine zgd 6 rfl ?_);(try (refine gate_guard (by rfl) ?_;dsimp only));refine zbx 6 #[.int .i64 0,.int .i64 0] 85 ?_;intro aE hg bP b' hb;have aD:=zA b';have bI:=zga (w:=w) hg;replace HB:=zbs hb;replace aA:=zlh aA hg hb;obtain⟨aT,aR,aA⟩:=aA;clear hb b' hg;have eN:=aR.out;have eH:=aT.out;obtain⟨dP,dO,cX,cW⟩:=ze2 aD))
       have bB:Aside0 (((bP.setCell ⟨aE,0,none⟩ (.int .i64 ((rd_T85 l1 aC).f0))).setCell ⟨aE,1,none⟩ (.int .i64 ((rd_T85 l1 aC).f1))).heap[aK]?=some (.cells #[aJ,aI,.slice aV aH.length aU] 37 (0,0))):=⟨zkf aA⟩;have bA:Aside0 (((bP.setCell ⟨aE,0,none⟩ (.int .i64 ((rd_T85 l1 aC).f0))).setCell ⟨aE,1,none⟩ (.int .i64 ((rd_T85 l1 aC).f1))).heap[aE]?=some (.cells #[.int .i64 ((rd_T85 l1 aC).f0),.int .i64 ((rd_T85 l1 aC).f1)] 85 (0,0))):=⟨zkp aD⟩;have aZ:Aside0 (Below w.heap.size w ((bP.setCell ⟨aE,0,none⟩ (.int .i64 ((rd_T85 l1 aC).f0))).setCell ⟨aE,1,none⟩ (.int .i64 ((rd_T85 l1 aC).f1)))):=⟨zb⟩;(try clear aA aD HB);generalize ((bP.setCell ⟨aE,0,none⟩ (.int .i64 ((rd_T85 l1 aC).f0))).setCell ⟨aE,1,none⟩ (.int .i64 ((rd_T85 l1 aC).f1)))=dZ at bB bA aZ ⊢;have aA:=bB;have aD:=bA;have HB:=aZ;clear bB bA aZ;replace aA:=zA (blk_drew aA.out);replace aD:=zA (blk_drew aD.out);replace HB:=zA (below_drew1 HB.out);refine start_ (n:=26) (S:=fun w'=>w'.cell? ⟨aK,0,none⟩=some (.int .i64 aJ)/\w'.cell? ⟨aK,1,none⟩=some (.int .i64 aI)/\w'.cell? ⟨aK,2,none⟩=some (.slice aV aH.length aU)/\w'.cell? ⟨aE,0,none⟩=some (.int .i64 ((rd_T85 l1 aC).f0))/\w'.cell? ⟨aE,1,none⟩=some (.int .i64 ((rd_T85 l1 aC).f1))) (ds:=[]) _ (by kernel_rfl) rfl rfl ⟨zq aA 0,zq aA 1,zq aA 2,zq aD 0,zq aD 1⟩ (fun h'=>?_);refine with_tabW X9.tab4 X9.bits4 (fun T_ W_=>?_);generalize dZ.drew=fC at aA aD HB h' ⊢;refine zp 1 15 T_ ?_;refine zt 0 14 T_ W_ h' ?_;refine zt 2 16 T_ W_ h' ?_;refine zo 3 17 T_ (fun K hK=>?_);refine zgo Try.func109 #[.agg #[aJ,aI,.slice aV aH.length aU],.int .i64 ((rd_T85 l1 aC).f0)] ?_
       refine(Xg.calls k1 aJ aI _ _ aH ((rd_T85 l1 aC).f0) true _ (zCb bD) bE.out A7.out).mono ?_
       rintro e fB ⟨rfl,hb⟩;refine⟨_,rfl,?_⟩;replace aA:=zkb aA hb;replace aD:=zA (blk_below (g:=aE) (o:=.cells #[.int .i64 ((rd_T85 l1 aC).f0),.int .i64 ((rd_T85 l1 aC).f1)] 85 (0,0)) (zk aD) hb);replace HB:=zbs hb;(try clear hb);refine hK.out _ _ ⟨zq aA 0,zq aA 1,zq aA 2,zq aD 0,zq aD 1⟩ (fun h'=>?_);clear hK K;refine norm_ zV ?_;refine zp 4 18 T_ ?_;refine zp 5 19 T_ ?_;refine zp 6 20 T_ ?_;refine zp 7 21 T_ ?_;refine zp 8 22 T_ ?_;refine zu 9 23 T_ ?_;refine zu 10 24 T_ ?_;refine zu 11 25 T_ ?_;refine zu 12 26 T_ ?_;refine zu 13 27 T_ ?_;refine zu 14 28 T_ ?_;refine zu 15 29 T_ ?_;refine zu 16 30 T_ ?_;refine zu 17 31 T_ ?_;refine zp 18 32 T_ ?_;refine zp 19 33 T_ ?_;refine zp 20 34 T_ ?_;refine zp 21 35 T_ ?_;refine zt 22 36 T_ W_ h' ?_;refine zo 23 37 T_ (fun K hK=>?_);refine zgo Try.func95 #[.int .i64 ((rd_T85 l1 aC).f1),.int .i64 1,.int .i64 10000] ?_
       refine(X0.calls ((rd_T85 l1 aC).f1) 1 10000 false _ cG.out).mono ?_
       rintro e w' ⟨rfl,⟨nd,rfl⟩⟩;refine⟨_,rfl,?_⟩;refine hK.out _ _ ⟨zq aA 0,zq aA 1,zq aA 2,zq aD 0,zq aD 1⟩ (fun h'=>?_);clear hK K;refine norm_ zV ?_;refine zp 24 38 T_ ?_;refine zp 25 39 T_ ?_;refine done_ (done_of T_.out (by kernel_rfl)) ?_
       try go_wp2
       go_ret;exact⟨zE,zb⟩
    ·replace c8:=zbq c8;subst c8;rw[if_neg zNo] at H;obtain rfl:=zI H;have bK:=zT (0<=(aC:Int));have bJ:=zT (aC<(l1.length:Int));obtain⟨aW,bC,aN,aM⟩:=at_T85 bH.out aC zd zd;cases bC;replace aN:=zC HB aN;replace aM:=zC HB aM
     try go_wp2_with (first|((with_reducible refine zgd 6 rfl ?_);(try (refine gate_guard (by rfl) ?_;dsimp only));refine zbx 6 #[.int .i64 0,.int .i64 0] 85 ?_;intro aE hg bO b' hb;have aD:=zA b';have bI:=zga (w:=w) hg;replace HB:=zbs hb;replace aA:=zlh aA hg hb;obtain⟨aT,aR,aA⟩:=aA;clear hb b' hg;have eM:=aR.out;have eG:=aT.out;obtain⟨dN,dM,cV,cU⟩:=ze2 aD))
     have bB:Aside0 (((bO.setCell ⟨aE,0,none⟩ (.int .i64 ((rd_T85 l1 aC).f0))).setCell ⟨aE,1,none⟩ (.int .i64 ((rd_T85 l1 aC).f1))).heap[aK]?=some (.cells #[aJ,aI,.slice aV aH.length aU] 37 (0,0))):=⟨zkf aA⟩;have bA:Aside0 (((bO.setCell ⟨aE,0,none⟩ (.int .i64 ((rd_T85 l1 aC).f0))).setCell ⟨aE,1,none⟩ (.int .i64 ((rd_T85 l1 aC).f1))).heap[aE]?=some (.cells #[.int .i64 ((rd_T85 l1 aC).f0),.int .i64 ((rd_T85 l1 aC).f1)] 85 (0,0))):=⟨zkp aD⟩;have aZ:Aside0 (Below w.heap.size w ((bO.setCell ⟨aE,0,none⟩ (.int .i64 ((rd_T85 l1 aC).f0))).setCell ⟨aE,1,none⟩ (.int .i64 ((rd_T85 l1 aC).f1)))):=⟨zb⟩;(try clear aA aD HB);generalize ((bO.setCell ⟨aE,0,none⟩ (.int .i64 ((rd_T85 l1 aC).f0))).setCell ⟨aE,1,none⟩ (.int .i64 ((rd_T85 l1 aC).f1)))=dY at bB bA aZ ⊢;have aA:=bB;have aD:=bA;have HB:=aZ;clear bB bA aZ;replace aA:=zA (blk_drew aA.out);replace aD:=zA (blk_drew aD.out);replace HB:=zA (below_drew1 HB.out);refine start_ (n:=26) (S:=fun w'=>w'.cell? ⟨aK,0,none⟩=some (.int .i64 aJ)/\w'.cell? ⟨aK,1,none⟩=some (.int .i64 aI)/\w'.cell? ⟨aK,2,none⟩=some (.slice aV aH.length aU)/\w'.cell? ⟨aE,0,none⟩=some (.int .i64 ((rd_T85 l1 aC).f0))/\w'.cell? ⟨aE,1,none⟩=some (.int .i64 ((rd_T85 l1 aC).f1))) (ds:=[]) _ (by kernel_rfl) rfl rfl ⟨zq aA 0,zq aA 1,zq aA 2,zq aD 0,zq aD 1⟩ (fun h'=>?_);refine with_tabW X9.tab4 X9.bits4 (fun T_ W_=>?_);generalize dY.drew=fA at aA aD HB h' ⊢;refine zp 1 15 T_ ?_;refine zt 0 14 T_ W_ h' ?_;refine zt 2 16 T_ W_ h' ?_;refine zo 3 17 T_ (fun K hK=>?_);refine zgo Try.func109 #[.agg #[aJ,aI,.slice aV aH.length aU],.int .i64 ((rd_T85 l1 aC).f0)] ?_
     refine(Xg.calls k1 aJ aI _ _ aH ((rd_T85 l1 aC).f0) false _ (zCb bD) bE.out A7.out).mono ?_
     rintro e eZ ⟨rfl,hb⟩;refine⟨_,rfl,?_⟩;replace aA:=zkb aA hb;replace aD:=zA (blk_below (g:=aE) (o:=.cells #[.int .i64 ((rd_T85 l1 aC).f0),.int .i64 ((rd_T85 l1 aC).f1)] 85 (0,0)) (zk aD) hb);replace HB:=zbs hb;(try clear hb);refine hK.out _ _ ⟨zq aA 0,zq aA 1,zq aA 2,zq aD 0,zq aD 1⟩ (fun h'=>?_);clear hK K;refine norm_ zV ?_;refine zp 4 18 T_ ?_;refine zp 5 19 T_ ?_;refine zu 6 20 T_ ?_;refine zu 7 21 T_ ?_;refine zu 8 22 T_ ?_;refine zu 9 23 T_ ?_;refine zu 10 24 T_ ?_;refine zu 11 25 T_ ?_;refine zu 12 26 T_ ?_;refine zu 13 27 T_ ?_;refine zu 14 28 T_ ?_;refine zu 15 29 T_ ?_;refine zu 16 30 T_ ?_;refine zu 17 31 T_ ?_;refine zu 18 32 T_ ?_;refine zp 19 33 T_ ?_;refine zp 20 34 T_ ?_;refine zu 21 35 T_ ?_;refine zu 22 36 T_ ?_;refine zu 23 37 T_ ?_;refine zu 24 38 T_ ?_;refine zp 25 39 T_ ?_;refine done_ (done_of T_.out (by kernel_rfl)) ?_
     try go_wp2
     go_ret;exact⟨zE,zb⟩
   ·rw[if_neg c4] at H;have cM:=decide_eq_false c4;clear c4;obtain⟨cK,cF,H⟩:=zB H
    by_cases bW:cK=true
    ·subst bW;rw[if_pos rfl] at H;obtain rfl:=zI H;obtain⟨dL,dK,dJ,cT,cS,cR⟩:=ze3 aA
     go_wp2_with (first|((with_reducible refine zgf 141 rfl ?_);refine zgl 42 Try.func141 #[.agg #[aJ,aI,.slice aV aH.length aU]] ?_;(refine(Xz.calls k1 aJ aI _ _ aH true _ (zCb bD) bE.out cF.out).mono ?_);rintro e eY ⟨rfl,hb⟩;refine⟨_,rfl,?_⟩;replace aA:=zkb aA hb;replace HB:=zbs hb;(try clear hb)))
     go_ret;exact⟨zE,zb⟩
    ·replace bW:=zbq bW;subst bW;rw[if_neg zNo] at H;obtain rfl:=zI H;obtain⟨dI,dH,dG,cQ,cP,cO⟩:=ze3 aA
     go_wp2_with (first|((with_reducible refine zgf 141 rfl ?_);refine zgl 42 Try.func141 #[.agg #[aJ,aI,.slice aV aH.length aU]] ?_;(refine(Xz.calls k1 aJ aI _ _ aH false _ (zCb bD) bE.out cF.out).mono ?_);rintro e eX ⟨rfl,hb⟩;refine⟨_,rfl,?_⟩;replace aA:=zkb aA hb;replace HB:=zbs hb;(try clear hb)))
     go_ret;exact⟨zE,zb⟩
end Go.Proofs.Yteiepphhkikmoaa.Q
