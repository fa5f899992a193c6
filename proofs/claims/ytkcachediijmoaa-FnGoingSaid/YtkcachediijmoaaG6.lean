/- Walks of 18 functions of the program: each comes to what a plain function tells. -/
import Derived.Test.YtkcachediijmoaaG0
import Derived.Test.YtkcachediijmoaaG1
import Derived.Test.YtkcachediijmoaaG2
import Derived.Test.YtkcachediijmoaaG5
namespace Go.Proofs.Ytkcachediijmoaa.Q
open Go.RowKit Go.Proofs.YtkcachediijmoaaW.PrintWords Go.Proofs.YtkcachediijmoaaW.PrintLast Go.Proofs.YtkcachediijmoaaW.PrintMore Go.Proofs.YtkcachediijmoaaW.Zip
attribute [local go_sem] max2_int min2_int max_two min_two max_three min_three max_four min_four   -- for this text's walks alone
set_option linter.unusedVariables false
set_option maxHeartbeats 8000000
set_option maxRecDepth 100000
set_option linter.unusedSimpArgs false

attribute [local go_sem high] eqA69

def spec_Near.f (k:Nat) (a0_0:Int) (a0_1:Int) (l0_2:List Int) (a1:Int):Option (List Int):=(spec_IsCell.f k a0_0 a0_1 l0_2 a1).bind fun t430=>(if t430=true then((spec_l4Near.f k a0_0 a0_1 l0_2 a1).bind fun t431=>(some t431)) else(some (([]:List Int))))
theorem spec_Near.calls (k:Nat) (aE:Int) (aD:Int) (aH:Option Addr) (aG:Nat) (aC:List Int) (a1:Int) (r:List Int) (w:World) (aN:Kd.C (Kd.int .i64) w aH aC.length aC) (aQ:aC.length≤aG) (h:spec_Near.f k aE aD aC a1=some r) :
  Calls Try.prog 49 #[.agg #[.int .i64 aE,.int .i64 aD,.slice aH aC.length aG],.int .i64 a1] w fun e w'=>∃ v0_:Value,e=.returned (v0_)∧Kd.R (Kd.int .i64) 3 w' w.heap.size (fun _=>True) v0_ r∧Below w.heap.size w w':=by
 have hu26:=Try.underlying26;have aJ:=zA aN;have aK:=zA aQ;clear aN aQ;have HB:=zA (Below.refl w.heap.size w);have H:=h;clear h;unfold spec_Near.f at H;obtain⟨aZ,A3,H⟩:=zB H
 by_cases c4:aZ=true
 ·subst c4;rw[if_pos rfl] at H;obtain⟨aY,A5,H⟩:=zB H;obtain rfl:=zI H;go_enter Try.func49,Try.ntmps49
  go_wp2_with (first|((with_reducible refine zgd 2 rfl ?_);refine zbx 2 #[.int .i64 aE,.int .i64 aD,.slice aH aC.length aG] 26 ?_;intro aR hg w6 hbox hb;have aA:=zA hbox;have aW:=zga (w:=w) hg;replace HB:=zbs hb;clear hb hbox hg;obtain⟨bR,bQ,bP,bL,bK,bJ⟩:=ze3 aA)|((with_reducible refine zgf 66 rfl ?_);refine zgl 7 Try.func66 #[.agg #[.int .i64 aE,.int .i64 aD,.slice aH aC.length aG],.int .i64 a1] ?_;(with_reducible refine(spec_IsCell.calls k aE aD _ _ aC a1 true _ ?s1 ?s2 A3.out).mono ?_);(case s1=>exact zCb aJ);(case s2=>exact aK.out);rintro e w8 ⟨rfl,hb⟩;refine⟨_,rfl,?_⟩;replace aA:=zkb aA hb;replace HB:=zbs hb;(try clear hb);obtain⟨bO,bN,bM,bI,bH,bG⟩:=ze3 aA)|((with_reducible refine zgf 67 rfl ?_);refine zgl 12 Try.func67 #[.agg #[.int .i64 aE,.int .i64 aD,.slice aH aC.length aG],.int .i64 a1] ?_;(with_reducible refine(spec_l4Near.calls k aE aD _ _ aC a1 aY _ ?s1 ?s2 A5.out).mono ?_);(case s1=>exact zCb aJ);(case s2=>exact aK.out);rintro e bX ⟨v432,rfl,ho0,hb⟩;refine⟨_,rfl,?_⟩;have aV:=zA (Kd.R_lower ho0 (below_size zb));replace aA:=zkb aA hb;replace HB:=zbs hb;(try clear hb);(try clear ho0)))
  go_ret;exact⟨_,zE,zR aV,zb⟩
 ·replace c4:=Bool.eq_false_iff.mpr c4;subst c4;rw[if_neg zNo] at H;obtain⟨aX,aI⟩:∃ y_:List Int,y_=(([]:List Int)):=⟨_,rfl⟩
  replace H:(some aX)=some r:=zY aI H
  have Ny434:=zA aI;clear aI;obtain rfl:=zI H;go_enter Try.func49,Try.ntmps49
  go_wp2_with (first|((with_reducible refine zgd 2 rfl ?_);refine zbx 2 #[.int .i64 aE,.int .i64 aD,.slice aH aC.length aG] 26 ?_;intro aR hg bW hbox hb;have aA:=zA hbox;have aW:=zga (w:=w) hg;replace HB:=zbs hb;clear hb hbox hg;obtain⟨bF,bE,bD,bC,bB,bA⟩:=ze3 aA)|((with_reducible refine zgf 66 rfl ?_);refine zgl 7 Try.func66 #[.agg #[.int .i64 aE,.int .i64 aD,.slice aH aC.length aG],.int .i64 a1] ?_;(with_reducible refine(spec_IsCell.calls k aE aD _ _ aC a1 false _ ?s1 ?s2 A3.out).mono ?_);(case s1=>exact zCb aJ);(case s2=>exact aK.out);rintro e bV ⟨rfl,hb⟩;refine⟨_,rfl,?_⟩;replace aA:=zkb aA hb;replace HB:=zbs hb;(try clear hb))|((with_reducible refine zgd 9 rfl ?_);refine Kd.R_lit (Kd.int .i64) _ 3 ?hg (N:=9) ?hd (xs:=([]:List Int)) (inner:=[]) (ok:=fun _=>True) (okp:=fun _=>True) ?hr ?hp (fun _ hk=>hk) trivial (Below.refl _ _) (Nat.le_refl _) (by simp) ?_;(case hd=>rfl);(case hg=>rfl);(case hr=>first|(go_simp;done)|(go_simp;rfl));(case hp=>exact(Reps.none _ _));intro v435 bU ho15 hb hg_ hnew_;clear hg_ hnew_;(first|rw[←Ny434.out] at ho15|(simp only[Int.reduceToNat] at ho15;rw[←Ny434.out] at ho15));have aU:=zA (Kd.R_lower ho15 (below_size zb));replace aA:=zkb aA hb;replace HB:=zbs hb;clear hb ho15))
  go_ret;exact⟨_,zE,zR aU,zb⟩

def spec_l11To.j0:Nat→List Int→Bool→List Int→Int→Int→Option (Int × Int × Int)
  |0,_,_,_,_,_=>none
  |k+1,x7,x18,x1000,x1001,x1002=>if x18=true then((spec_l1Below.f x1000 x1001 x1002 20).bind fun bt445=>(some (bt445.1,bt445.2.1,bt445.2.2))) else((spec_l1Below.f x1000 x1001 x1002 (x7.length:Int)).bind fun bt448=>(if 0≤bt448.1 then(if bt448.1<(x7.length:Int) then(some (rd x7 bt448.1,bt448.2.1,bt448.2.2)) else(none)) else(none)))
def spec_l11To.f (k:Nat) (s0_0:List Int) (s0_1:Int) (s0_2:Int) (a1_0:Int) (a1_1:Int) (l1_2:List Int) (a2_0:Int) (a2_1:Int) (l2_2:List (S69)) (l2_3:List Bool):Option (Int × Int × Int):=(spec_Near.f k a1_0 a1_1 l1_2 a2_0).bind fun t439=>(if (t439.length:Int)=0 then(spec_l11To.j0 k t439 true s0_0 s0_1 s0_2) else((spec_l1Once.f s0_0 s0_1 s0_2 6).bind fun bt442=>(spec_l11To.j0 k t439 bt442.1 s0_0 bt442.2.1 bt442.2.2)))
theorem spec_l11To.calls (k:Nat) (g:Nat) (s0_0:List Int) (s0_1:Int) (s0_2:Int) (aY:Int) (aX:Int) (aZ:Option Addr) (bA:Nat) (aJ:List Int) (aW:Int) (bI:Int) (bJ:Option Addr) (bH:Nat) (aV:List (S69)) (bB:Option Addr) (bG:Nat) (aT:List Bool) (r1:Int) (r2:Int) (r3:Int) (w0 w:World) (hI:IsS77 w0 w g s0_0 s0_1 s0_2) (hB:Below w0.heap.size w0 w) (bR:Kd.C (Kd.int .i64) w aZ aJ.length aJ) (bU:aJ.length≤bA) (hf1_2:∀ ad,aZ=some ad→0<aJ.length→ad.block≠g) (bQ:∀ W_,KeepBut w W_ g none→Kd.C k69 W_ bJ aV.length aV) (bT:aV.length≤bH) (bP:Kd.C Kd.bool w bB aT.length aT) (bS:aT.length≤bG) (hf2_3:∀ ad,bB=some ad→0<aT.length→ad.block≠g) (h:spec_l11To.f k s0_0 s0_1 s0_2 aY aX aJ aW bI aV aT=some (r1,r2,r3)) :
  Calls Try.prog 24 #[.pointer (some ⟨g,0,none⟩),.agg #[.int .i64 aY,.int .i64 aX,.slice aZ aJ.length bA],.agg #[.int .i64 aW,.int .i64 bI,.slice bJ aV.length bH,.slice bB aT.length bG]] w fun e w'=>e=.returned (.int .i64 r1)∧IsS77 w0 w' g s0_0 r2 r3∧Below w0.heap.size w0 w'∧KeepBut w w' g none:=by
 have hu26:=Try.underlying26;have hu33:=Try.underlying33;have cQ:=zA bR;have cR:=zA bU;clear bR bU;have dL:=zA bQ;have dN:=zA bT;clear bQ bT;have dK:=zA bP;have dM:=zA bS;clear bP bS;have HI0:=zA hI;have HK:=zA (KeepBut.refl w g none);have HL:=zA hB.size;clear hI;have HW0:=zA hB.size;have HB:=zA hB;clear hB;have H:=h;clear h;unfold spec_l11To.f at H;obtain⟨aM,A4,H⟩:=zB H;have cO:=zA H;clear H;go_enter Try.func24,Try.ntmps24
 go_upto_region 2 with (first|((with_reducible refine zgd 4 rfl ?_);refine zbx 4 #[.int .i64 aY,.int .i64 aX,.slice aZ aJ.length bA] 26 ?_;intro aQ hg w6 hbox hb;replace HB:=zA (below_step zB0 hb);have aD:=zA hbox;have aE:=zA ((by rw[hg];exact(keep_size (w:=w) (g:=g) (row:=none) zK0):w.heap.size≤aQ));have aR:=zA ((Nat.le_trans HW0.out (by rw[hg];exact(keep_size (w:=w) (g:=g) (row:=none) zK0):w.heap.size≤aQ):w0.heap.size≤aQ));replace HK:=zA (KeepBut.trans zK0 (KeepBut.of_below hb g none) (.inl rfl));have aA:=zA ((by rw[hg];exact Nat.ne_of_lt (IsS77.lt (show IsS77 w0 _ g s0_0 s0_1 s0_2 from zI0)):g≠aQ));have bE:=zA ((by rw[hg];exact Nat.ne_of_gt (IsS77.lt (show IsS77 w0 _ g s0_0 s0_1 s0_2 from zI0)):aQ≠g));replace HI0:=zA (IsS77.below zI0 hb);clear hb hbox hg)|((with_reducible refine zgd 5 rfl ?_);refine zbx 5 #[.int .i64 aW,.int .i64 bI,.slice bJ aV.length bH,.slice bB aT.length bG] 33 ?_;intro aN hg w7 hbox hb;replace HB:=zA (below_step zB0 hb);have aG:=zA hbox;have aK:=zA ((by rw[hg];exact(keep_size (w:=w) (g:=g) (row:=none) zK0):w.heap.size≤aN));have aU:=zA ((Nat.le_trans HW0.out (by rw[hg];exact(keep_size (w:=w) (g:=g) (row:=none) zK0):w.heap.size≤aN):w0.heap.size≤aN));replace HK:=zA (KeepBut.trans zK0 (KeepBut.of_below hb g none) (.inl rfl));replace aD:=zlh aD hg hb;obtain⟨bO,bN,aD⟩:=aD;have aC:=zA ((by rw[hg];exact Nat.ne_of_lt (IsS77.lt (show IsS77 w0 _ g s0_0 s0_1 s0_2 from zI0)):g≠aN));have bD:=zA ((by rw[hg];exact Nat.ne_of_gt (IsS77.lt (show IsS77 w0 _ g s0_0 s0_1 s0_2 from zI0)):aN≠g));replace HI0:=zA (IsS77.below zI0 hb);clear hb hbox hg;have dT:=bO.out;have dR:=bN.out;have dS:=bE.out;have dQ:=aA.out;obtain⟨cK,cJ,cI,cD,cC,cB⟩:=ze3 aD;have dG:=bD.out;have dF:=aC.out;obtain⟨cH,cG,cF,cE,cA,bZ,bY,bX⟩:=ze4 aG)|((with_reducible refine zgf 49 rfl ?_);refine zgl 11 Try.func49 #[.agg #[.int .i64 aY,.int .i64 aX,.slice aZ aJ.length bA],.int .i64 aW] ?_;(with_reducible refine(spec_Near.calls k aY aX _ _ aJ aW aM _ ?s1 ?s2 A4.out).mono ?_);(case s1=>exact Kd.C_keep 0 cQ.out zK0 hf1_2);(case s2=>exact cR.out);rintro e eE ⟨v440,rfl,ho0,hb⟩;refine⟨_,rfl,?_⟩;have bF:=zA (Kd.R_lower ho0 (keep_size (w:=w) (g:=g) (row:=none) zK0));replace aD:=zkb aD hb;replace aG:=zkb aG hb;replace HK:=zA (KeepBut.trans zK0 (KeepBut.of_below hb g none) (.inl rfl));replace HB:=zA (below_step zB0 hb);replace HI0:=zA (IsS77.below zI0 hb);(try clear hb);(try clear ho0)))
 (try simp only[Act.put,List.setIfInBounds_toArray,List.set_cons_zero,List.set_cons_succ])
 go_cut [18] (fun v18 wc=>∃ (kq:Nat) (bL:Bool) (aI:Int) (aH:Int),v18=.bool bL∧Aside0 (spec_l11To.j0 kq aM bL s0_0 aI aH=some (r1,r2,r3))∧Aside0 (kq≤k)∧Aside0 (Kd.R (Kd.int .i64) 3 wc w.heap.size (fun _=>True) v440 aM)∧Aside0 (wc.heap[aQ]?=some (.cells #[.int .i64 aY,.int .i64 aX,(.slice aZ aJ.length bA)] 26 (0,0)))∧Aside0 (wc.heap[aN]?=some (.cells #[.int .i64 aW,.int .i64 bI,(.slice bJ aV.length bH),(.slice bB aT.length bG)] 33 (0,0)))∧Aside0 (IsS77 w0 wc g s0_0 aI aH)∧Aside0 (KeepBut w wc g none)∧Aside0 (Below w0.heap.size w0 wc))
 case first =>
  have H:=cO.out;clear cO
  by_cases c14:(aM.length:Int)=0
  ·rw[if_pos c14] at H;have bC:((aM.length:Int)==0)=true:=beq_iff_eq.mpr c14;have bW:((aM.length:Int) != 0)=false:=bne_eq_false_iff_eq.mpr c14;clear c14;(first|rw[bC]|(simp only[i64_w,i32_w];rw[bC])|skip);have H':=zA H;clear H;obtain⟨dZ,dW,cZ⟩:=Kd.R_slice bF.out;subst cZ;go_wp2
   go_meet
   case rel=>exact⟨_,(true),(s0_1),(s0_2),zr,H',⟨by first|omega|exact Nat.le_refl _⟩,⟨zR bF⟩,⟨zk aD⟩,⟨zk aG⟩,⟨zI0⟩,⟨zK0⟩,⟨zB0⟩⟩
  ·rw[if_neg c14] at H;have bC:((aM.length:Int)==0)=false:=beq_eq_false_iff_ne.mpr c14;have bW:((aM.length:Int) != 0)=true:=bne_iff_ne.mpr c14;have cP:¬ (aM=[]):=fun h_=>c14 (by rw[h_];rfl);(first|rw[bC]|(simp only[i64_w,i32_w];rw[bC])|skip);obtain⟨⟨cN,cM,cL⟩,dE,H⟩:=zB H;have H':=zA H;clear H;obtain⟨dY,dV,cY⟩:=Kd.R_slice bF.out;subst cY
   go_wp2_with (first|(go_at_call 25;(with_reducible refine(spec_l1Once.calls g s0_0 s0_1 s0_2 6 cN cM cL w0 _ ?s1 ?s2 dE.out).mono ?_);(case s1=>exact zI0);(case s2=>exact zB0);rintro e eD ⟨rfl,hi,hb,hk⟩;replace aD:=zkB hk aD bE;replace aG:=zkB hk aG bD;replace bF:=zA (Kd.R_mono (Kd.R_keep (IsS77.apart (show IsS77 w0 _ g s0_0 s0_1 s0_2 from zI0) (zR bF) (by decide)) hk (fun _ h=>h.2)) (fun _ h=>h.1));replace HK:=zA (KeepBut.trans zK0 hk (.inl rfl));replace HB:=zA hb;replace HI0:=zA (hi);(try clear hb)))
   go_meet
   case rel=>exact⟨_,(cN),(cM),(cL),zr,H',⟨by first|omega|exact Nat.le_refl _⟩,⟨zR bF⟩,⟨zk aD⟩,⟨zk aG⟩,⟨zI0⟩,⟨zK0⟩,⟨zB0⟩⟩
 case rest =>
  clear cO;(try clear c14);(try clear bC);(try clear bW);(try clear cP);(try clear cK);(try clear cJ);(try clear cI);(try clear cH);(try clear cG);(try clear cF);(try clear cE);(try clear cD);(try clear cC);(try clear cB);(try clear cA);(try clear bZ);(try clear bY);(try clear bX);obtain⟨kq,bL,aI,aH,rfl,HA,HJ4,bK,aD,aG,HI0,HK,HB⟩:=hcut;cases kq with
  |zero=>exact absurd HA.out (by simp[spec_l11To.j0])
  |succ kj4 =>
   have H:=HA.out;clear HA;simp only[spec_l11To.j0] at H
   by_cases bV:bL=true
   ·subst bV;rw[if_pos rfl] at H;obtain⟨⟨cW,cV,cU⟩,dD,H⟩:=zB H;simp only[Option.some.injEq,Prod.mk.injEq] at H;obtain⟨rfl,rfl,rfl⟩:=H
    go_wp2_with (first|((with_reducible refine zgf 40 rfl ?_);refine zgl 20 Try.func40 #[.pointer (some ⟨g,0,none⟩),.int .i64 20] ?_;(with_reducible refine(spec_l1Below.calls g s0_0 aI aH 20 cW cV cU w0 _ ?s1 ?s2 dD.out).mono ?_);(case s1=>exact zI0);(case s2=>exact zB0);rintro e eC ⟨rfl,hi,hb,hk⟩;refine⟨_,rfl,?_⟩;replace bK:=zA (Kd.R_mono (Kd.R_keep (IsS77.apart (show IsS77 w0 _ g s0_0 aI aH from zI0) (zR bK) (by decide)) hk (fun _ h=>h.2)) (fun _ h=>h.1));replace aD:=zkB hk aD bE;replace aG:=zkB hk aG bD;replace HK:=zA (KeepBut.trans zK0 hk (.inl rfl));replace HB:=zA hb;replace HI0:=zA (hi);(try clear hb)))
    go_ret;exact⟨zE,zI0,zB0,zK0⟩
   ·replace bV:=Bool.eq_false_iff.mpr bV;subst bV;rw[if_neg zNo] at H;obtain⟨⟨bM,cT,cS⟩,dC,H⟩:=zB H;obtain⟨dI,H⟩:=zifD H;obtain⟨dH,H⟩:=zifD H;simp only[Option.some.injEq,Prod.mk.injEq] at H;obtain⟨rfl,rfl,rfl⟩:=H;obtain⟨dX,dU,cX⟩:=Kd.R_slice bK.out;subst cX
    go_wp2_with (first|((with_reducible refine zgf 40 rfl ?_);refine zgl 25 Try.func40 #[.pointer (some ⟨g,0,none⟩),.int .i64 (aM.length:Int)] ?_;(with_reducible refine(spec_l1Below.calls g s0_0 aI aH (aM.length:Int) bM cT cS w0 _ ?s1 ?s2 dC.out).mono ?_);(case s1=>exact zI0);(case s2=>exact zB0);rintro e eB ⟨rfl,hi,hb,hk⟩;refine⟨_,rfl,?_⟩;replace bK:=zA (Kd.R_mono (Kd.R_keep (IsS77.apart (show IsS77 w0 _ g s0_0 aI aH from zI0) (zR bK) (by decide)) hk (fun _ h=>h.2)) (fun _ h=>h.1));replace aD:=zkB hk aD bE;replace aG:=zkB hk aG bD;replace HK:=zA (KeepBut.trans zK0 hk (.inl rfl));replace HB:=zA hb;replace HI0:=zA (hi);(try clear hb);have dP:=zT (0≤(bM:Int));have dO:=zT (bM<(aM.length:Int));obtain⟨dJ,dA,dB⟩:=Kd.at_int (Kd.R_reads' bK.out).2.2 bM zd zd;cases dA))
    go_ret;exact⟨zE,zI0,zB0,zK0⟩

def spec_DrawGoStep.f (k:Nat) (l0:List Int):Option (Int × Int × List Int × Int × Int × Int × (List (S106)) × Int × Int × (List (S69)) × List Bool × Int × Bool):=(spec_l1New.f k l0).bind fun bt455=>((spec_l10Case.f k bt455.1 bt455.2.1 bt455.2.2).bind fun bt459=>((spec_l11To.f k bt455.1 bt459.2.2.2.2.2.2.2.2.2.2.2.1 bt459.2.2.2.2.2.2.2.2.2.2.2.2 bt459.1 bt459.2.1 bt459.2.2.1 bt459.2.2.2.2.2.2.2.1 bt459.2.2.2.2.2.2.2.2.1 bt459.2.2.2.2.2.2.2.2.2.1 bt459.2.2.2.2.2.2.2.2.2.2.1).bind fun bt483=>((spec_l1Once.f bt455.1 bt483.2.1 bt483.2.2 3).bind fun bt486=>(some (bt459.1,bt459.2.1,bt459.2.2.1,bt459.2.2.2.1,bt459.2.2.2.2.1,bt459.2.2.2.2.2.1,bt459.2.2.2.2.2.2.1,bt459.2.2.2.2.2.2.2.1,bt459.2.2.2.2.2.2.2.2.1,bt459.2.2.2.2.2.2.2.2.2.1,bt459.2.2.2.2.2.2.2.2.2.2.1,bt483.1,bt486.1)))))
def spec_DrawGoStep.T4:Bool × List (List Nat × List Nat):=(true,[([],[]),([],[]),([],[]),([],[]),([],[]),([],[]),([],[]),([6],[6]),([0,7,0],[0]),([1,8,0,1,8],[1]),([2,9,0,1,2,8,9],[2]),([3,10,0,1,2,3,8,9,10],[3]),([4,11,0,1,2,3,4,8,9,10,11],[4]),([5,12,0,1,2,3,4,5,8,9,10,11,12],[5]),([7,13,0,1,2,3,4,5,6,7,8,9,10,11,12,13],[7])])
def spec_DrawGoStep.B4:List Nat:=[0,0,0,0,0,0,0,64,193,451,967,1999,4063,8191,16383]
theorem spec_DrawGoStep.tab4:rtab .any (opsOf Try.f5 4)=spec_DrawGoStep.T4:=by kernel_rfl
theorem spec_DrawGoStep.bits4:waitsOk spec_DrawGoStep.T4.2 spec_DrawGoStep.B4=true:=by kernel_rfl
theorem spec_DrawGoStep.calls (k:Nat) (A0:Option Addr) (c0:Nat) (l0:List Int) (r1:Int) (r2:Int) (r3:List Int) (r4:Int) (r5:Int) (r6:Int) (r7:List (S106)) (r8:Int) (r9:Int) (r10:List (S69)) (r11:List Bool) (r12:Int) (r13:Bool) (w:World) (dQ:Kd.C (Kd.int .u8) w A0 l0.length l0) (dR:l0.length≤c0) (h:spec_DrawGoStep.f k l0=some (r1,r2,r3,r4,r5,r6,r7,r8,r9,r10,r11,r12,r13)) :
  Calls Try.prog 5 #[.slice A0 l0.length c0] w fun e w'=>∃ v2_ v6_ v9_ v10_:Value,e=.returned (.tuple #[.agg #[.int .i64 r1,.int .i64 r2,v2_],.int .i64 r4,.agg #[.int .i64 r5,.int .i64 r6],v6_,.agg #[.int .i64 r8,.int .i64 r9,v9_,v10_],.int .i64 r12,.bool r13])∧Kd.Q (Kd.int .i64) 3 w' w.heap.size (fun _=>True) v2_ r3∧Kd.R k106 106 w' w.heap.size (fun _=>True) v6_ r7∧Kd.R k69 69 w' w.heap.size (fun _=>True) v9_ r10∧Kd.R Kd.bool 4 w' w.heap.size (fun _=>True) v10_ r11∧Below w.heap.size w w':=by
 have hu26:=Try.underlying26;have hu28:=Try.underlying28;have hu33:=Try.underlying33;have iO:=zA dQ;have iP:=zA dR;clear dQ dR;have HB:=zA (Below.refl w.heap.size w);have H:=h;clear h;unfold spec_DrawGoStep.f at H;obtain⟨⟨bJ,dP,dO⟩,A2,H⟩:=zB H;obtain⟨⟨cU,cT,cF,dX,dB,dA,dW,cS,cR,cQ,cE,bR,bQ⟩,A3,H⟩:=zB H;obtain⟨⟨dV,cX,cW⟩,A4,H⟩:=zB H;obtain⟨⟨dU,dT,dS⟩,A5,H⟩:=zB H;simp only[Option.some.injEq,Prod.mk.injEq] at H;obtain⟨rfl,rfl,rfl,rfl,rfl,rfl,rfl,rfl,rfl,rfl,rfl,rfl,rfl⟩:=H;go_enter Try.func5,Try.ntmps5
 try go_wp2_with (first|((with_reducible refine zgd 2 rfl ?_);refine zbx 2 #[.int .i64 0,.int .i64 0,.slice none 0 0] 26 ?_;intro aK hg w6 hbox hb;have aC:=zA hbox;have kI:=zga (w:=w) hg;have bI:=zga (w:=w) hg;replace HB:=zbs hb;clear hb hbox hg)|((with_reducible refine zgd 4 rfl ?_);refine zbx 4 #[.int .i64 0,.int .i64 0] 28 ?_;intro aU hg w7 hbox hb;have aJ:=zA hbox;have kH:=zga (w:=w) hg;have bH:=zga (w:=w) hg;replace HB:=zbs hb;replace aC:=zlh aC hg hb;obtain⟨bX,bW,aC⟩:=aC;clear hb hbox hg)|((with_reducible refine zgd 6 rfl ?_);refine zbx 6 #[.int .i64 0,.int .i64 0,.slice none 0 0,.slice none 0 0] 33 ?_;intro aA hg w8 hbox hb;have aI:=zA hbox;have kG:=zga (w:=w) hg;have bG:=zga (w:=w) hg;replace HB:=zbs hb;replace aC:=zlh aC hg hb;obtain⟨bN,bM,aC⟩:=aC;replace aJ:=zlh aJ hg hb;obtain⟨bP,bO,aJ⟩:=aJ;clear hb hbox hg)|((with_reducible refine zgf 22 rfl ?_);refine zgl 17 Try.func22 #[.slice A0 l0.length c0] ?_;(with_reducible refine(spec_l1New.calls k _ _ l0 bJ dP dO w _ ?s1 ?s2 ?s3 A2.out).mono ?_);(case s1=>exact zb);(case s2=>exact iO.out);(case s3=>exact iP.out);rintro e w9 ⟨g458,rfl,hi,hb,hb2⟩;refine⟨_,rfl,?_⟩;replace HB:=zA hb;have HI458:=zA (hi);have aH:=zA (IsS77.ne_blk hi (blk_below (g:=aK) (o:=.cells #[.int .i64 0,.int .i64 0,.slice none 0 0] 26 (0,0)) (zk aC) hb2) (by decide));have cO:=zA (Ne.symm (IsS77.ne_blk hi (blk_below (g:=aK) (o:=.cells #[.int .i64 0,.int .i64 0,.slice none 0 0] 26 (0,0)) (zk aC) hb2) (by decide)));replace aC:=zA (blk_below (g:=aK) (o:=.cells #[.int .i64 0,.int .i64 0,.slice none 0 0] 26 (0,0)) (zk aC) hb2);have aG:=zA (IsS77.ne_blk hi (blk_below (g:=aU) (o:=.cells #[.int .i64 0,.int .i64 0] 28 (0,0)) (zk aJ) hb2) (by decide));have cN:=zA (Ne.symm (IsS77.ne_blk hi (blk_below (g:=aU) (o:=.cells #[.int .i64 0,.int .i64 0] 28 (0,0)) (zk aJ) hb2) (by decide)));replace aJ:=zA (blk_below (g:=aU) (o:=.cells #[.int .i64 0,.int .i64 0] 28 (0,0)) (zk aJ) hb2);have aE:=zA (IsS77.ne_blk hi (blk_below (g:=aA) (o:=.cells #[.int .i64 0,.int .i64 0,.slice none 0 0,.slice none 0 0] 33 (0,0)) (zk aI) hb2) (by decide));have cJ:=zA (Ne.symm (IsS77.ne_blk hi (blk_below (g:=aA) (o:=.cells #[.int .i64 0,.int .i64 0,.slice none 0 0,.slice none 0 0] 33 (0,0)) (zk aI) hb2) (by decide)));replace aI:=zA (blk_below (g:=aA) (o:=.cells #[.int .i64 0,.int .i64 0,.slice none 0 0,.slice none 0 0] 33 (0,0)) (zk aI) hb2);(try clear hb))|((with_reducible refine zgf 23 rfl ?_);refine zgl 20 Try.func23 #[.pointer (some ⟨g458,0,none⟩)] ?_;(with_reducible refine(spec_l10Case.calls k g458 bJ dP dO cU cT cF dX dB dA dW cS cR cQ cE bR bQ w _ ?s1 ?s2 A3.out).mono ?_);(case s1=>exact zI1);(case s2=>exact zB1);rintro e lA ⟨v462,v468,v473,v476,rfl,ho0,ho1,ho2,ho3,hi,hb,hk⟩;refine⟨_,rfl,?_⟩;replace aC:=zkB hk aC cO;replace aJ:=zkB hk aJ cN;replace aI:=zkB hk aI cJ;have bD:=zA (Kd.Q_lower ho0 (below_size zB1));have bK:=zA (Kd.R_lower ho1 (below_size zB1));have bF:=zA (Kd.R_lower ho2 (below_size zB1));have bC:=zA (Kd.R_lower ho3 (below_size zB1));replace HB:=zA hb;replace HI458:=zA (hi);(try clear hb);(try clear ho0);(try clear ho1);(try clear ho2);(try clear ho3))|((with_reducible refine zgd 10 rfl ?_);refine zbx 10 #[.int .i64 0,.int .i64 0,.slice none 0 0] 26 ?_;intro bY hg kZ hbox hb;replace bD:=zA (Kd.Q_below (zQ bD) hb);replace bK:=zRb bK hb;replace bF:=zRb bF hb;replace bC:=zRb bC hb;have aR:=zA hbox;have kF:=zA ((by rw[hg];exact(below_size zB1):w.heap.size≤bY));have bZ:=zA ((by rw[hg];exact(below_size zB1):w.heap.size≤bY));replace HB:=zA (below_step zB1 hb);replace aC:=zlh aC hg hb;obtain⟨cD,aW,aC⟩:=aC;replace aJ:=zlh aJ hg hb;obtain⟨cM,bE,aJ⟩:=aJ;replace aI:=zlh aI hg hb;obtain⟨bV,aN,aI⟩:=aI;have aM:=zA ((by rw[hg];exact Nat.ne_of_lt (IsS77.lt (show IsS77 w _ g458 bJ bR bQ from zI1)):g458≠bY));have cI:=zA ((by rw[hg];exact Nat.ne_of_gt (IsS77.lt (show IsS77 w _ g458 bJ bR bQ from zI1)):bY≠g458));replace HI458:=zA (IsS77.below zI1 hb);clear hb hbox hg)|((with_reducible refine zgd 12 rfl ?_);refine zbx 12 #[.int .i64 0,.int .i64 0] 28 ?_;intro cA hg kY hbox hb;replace bD:=zA (Kd.Q_below (zQ bD) hb);replace bK:=zRb bK hb;replace bF:=zRb bF hb;replace bC:=zRb bC hb;have aY:=zA hbox;have kE:=zA ((by rw[hg];exact(below_size zB1):w.heap.size≤cA));have cP:=zA ((by rw[hg];exact(below_size zB1):w.heap.size≤cA));replace HB:=zA (below_step zB1 hb);replace aC:=zlh aC hg hb;obtain⟨cC,bB,aC⟩:=aC;replace aJ:=zlh aJ hg hb;obtain⟨cL,bL,aJ⟩:=aJ;replace aI:=zlh aI hg hb;obtain⟨bU,aV,aI⟩:=aI;replace aR:=zlh aR hg hb;obtain⟨dM,dK,aR⟩:=aR;have aT:=zA ((by rw[hg];exact Nat.ne_of_lt (IsS77.lt (show IsS77 w _ g458 bJ bR bQ from zI1)):g458≠cA));have cH:=zA ((by rw[hg];exact Nat.ne_of_gt (IsS77.lt (show IsS77 w _ g458 bJ bR bQ from zI1)):cA≠g458));replace HI458:=zA (IsS77.below zI1 hb);clear hb hbox hg)|((with_reducible refine zgd 14 rfl ?_);refine zbx 14 #[.int .i64 0,.int .i64 0,.slice none 0 0,.slice none 0 0] 33 ?_;intro bS hg kX hbox hb;replace bD:=zA (Kd.Q_below (zQ bD) hb);replace bK:=zRb bK hb;replace bF:=zRb bF hb;replace bC:=zRb bC hb;have aX:=zA hbox;have kD:=zA ((by rw[hg];exact(below_size zB1):w.heap.size≤bS));have dG:=zA ((by rw[hg];exact(below_size zB1):w.heap.size≤bS));replace HB:=zA (below_step zB1 hb);replace aC:=zlh aC hg hb;obtain⟨cB,aQ,aC⟩:=aC;replace aJ:=zlh aJ hg hb;obtain⟨cK,bA,aJ⟩:=aJ;replace aI:=zlh aI hg hb;obtain⟨bT,aD,aI⟩:=aI;replace aR:=zlh aR hg hb;obtain⟨dL,dI,aR⟩:=aR;replace aY:=zlh aY hg hb;obtain⟨dJ,dH,aY⟩:=aY;have aZ:=zA ((by rw[hg];exact Nat.ne_of_lt (IsS77.lt (show IsS77 w _ g458 bJ bR bQ from zI1)):g458≠bS));have cG:=zA ((by rw[hg];exact Nat.ne_of_gt (IsS77.lt (show IsS77 w _ g458 bJ bR bQ from zI1)):bS≠g458));replace HI458:=zA (IsS77.below zI1 hb);clear hb hbox hg;have jT:=aW.out;have jE:=cD.out;have jS:=bE.out;have jD:=cM.out;have jR:=aN.out;have jC:=bV.out;have jQ:=dM.out;have jB:=dK.out;have jP:=dL.out;have jA:=dI.out;have jO:=cI.out;have iZ:=aM.out;obtain⟨iM,iL,iK,iD,iC,iB⟩:=ze3 aR;obtain⟨dF,cZ,eA,_⟩:=Kd.Q_slice bD.out;subst eA;have jN:=bB.out;have iY:=cC.out;have jM:=bL.out;have iX:=cL.out;have jL:=aV.out;have iW:=bU.out;have jK:=dJ.out;have iV:=dH.out;have jJ:=cH.out;have iU:=aT.out;obtain⟨iJ,iI,iA,hZ⟩:=ze2 aY;have jI:=aQ.out;have iT:=cB.out;have jH:=bA.out;have iS:=cK.out;have jG:=aD.out;have iR:=bT.out;have jF:=cG.out;have iQ:=aZ.out;obtain⟨iH,iG,iF,iE,hY,hX,hW,hV⟩:=ze4 aX;obtain⟨dE,dC,dZ⟩:=Kd.R_slice bF.out;subst dZ;obtain⟨dD,cY,dY⟩:=Kd.R_slice bC.out;subst dY)|((with_reducible refine zgf 24 rfl ?_);refine zgl 29 Try.func24 #[.pointer (some ⟨g458,0,none⟩),.agg #[.int .i64 cU,.int .i64 cT,.slice dF cF.length cZ],.agg #[.int .i64 cS,.int .i64 cR,.slice dE cQ.length dC,.slice dD cE.length cY]] ?_;(with_reducible refine(spec_l11To.calls k g458 bJ bR bQ cU cT _ _ cF cS cR _ _ cQ _ _ cE dV cX cW w _ ?s1 ?s2 ?s3 ?s4 ?s5 ?s6 ?s7 ?s8 ?s9 ?s10 A4.out).mono ?_);(case s1=>exact zI1);(case s2=>exact zB1);(case s3=>refine(Kd.Q_reads' (e:=3) (base:=w.heap.size) (ok:=fun k_=>True) (n:=cF.length) (c:=cZ) ?_).2.2;exact(zG3 bD aR aY aX));(case s4=>exact(Kd.Q_reads' bD.out).2.1);(case s5=>exact far_slice (IsS77.own_neQ HI458.out bD.out (by decide)));(case s6=>exact Kd.C_foot_own (IsS77.apart (show IsS77 w _ g458 bJ bR bQ from zI1) (zF3 bF aR aY aX) (by decide)) (fun _ h_=>h_.2));(case s7=>exact(Kd.R_reads' bF.out).2.1);(case s8=>refine(Kd.R_reads' (e:=4) (base:=w.heap.size) (ok:=fun k_=>True) (n:=cE.length) (c:=cY) ?_).2.2;exact(zF3 bC aR aY aX));(case s9=>exact(Kd.R_reads' bC.out).2.1);(case s10=>exact far_slice (IsS77.own_ne HI458.out bC.out (by decide)));rintro e iN ⟨rfl,hi,hb,hk⟩;refine⟨_,rfl,?_⟩;replace aC:=zkB hk aC cO;replace aJ:=zkB hk aJ cN;replace aI:=zkB hk aI cJ;replace bD:=zA (Kd.Q_mono (Kd.Q_keep (IsS77.apartQ (show IsS77 w _ g458 bJ bR bQ from zI1) (zG3 bD aR aY aX) (by decide)) hk (fun _ h=>h.2)) (fun _ h=>h.1));replace bK:=zA (Kd.R_mono (Kd.R_keep (IsS77.apart (show IsS77 w _ g458 bJ bR bQ from zI1) (zF3 bK aR aY aX) (by decide)) hk (fun _ h=>h.2)) (fun _ h=>h.1));replace bF:=zA (Kd.R_mono (Kd.R_keep (IsS77.apart (show IsS77 w _ g458 bJ bR bQ from zI1) (zF3 bF aR aY aX) (by decide)) hk (fun _ h=>h.2)) (fun _ h=>h.1));replace bC:=zA (Kd.R_mono (Kd.R_keep (IsS77.apart (show IsS77 w _ g458 bJ bR bQ from zI1) (zF3 bC aR aY aX) (by decide)) hk (fun _ h=>h.2)) (fun _ h=>h.1));replace aR:=zA (KeepBut.blk hk (g':=bY) (o:=.cells #[.int .i64 cU,.int .i64 cT,.slice dF cF.length cZ] 26 (0,0)) (zkp aR) cI.out (by simp));replace aY:=zA (KeepBut.blk hk (g':=cA) (o:=.cells #[.int .i64 dB,.int .i64 dA] 28 (0,0)) (zkp aY) cH.out (by simp));replace aX:=zA (KeepBut.blk hk (g':=bS) (o:=.cells #[.int .i64 cS,.int .i64 cR,.slice dE cQ.length dC,.slice dD cE.length cY] 33 (0,0)) (zkp aX) cG.out (by simp));replace HB:=zA hb;replace HI458:=zA (hi);(try clear hb)))
 replace bD:=zA (Kd.Q_drew bD.out);replace bK:=zA (Kd.R_drew bK.out);replace bF:=zA (Kd.R_drew bF.out);replace bC:=zA (Kd.R_drew bC.out);replace aC:=zA (blk_drew aC.out);replace aJ:=zA (blk_drew aJ.out);replace aI:=zA (blk_drew aI.out);replace aR:=zA (blk_drew aR.out);replace aY:=zA (blk_drew aY.out);replace aX:=zA (blk_drew aX.out);replace HI458:=zA (IsS77.drew HI458.out);replace HB:=zA (below_drew1 HB.out);refine start_ (n:=15) (S:=fun w'=>w'.cell? ⟨bY,0,none⟩=some (.int .i64 cU)∧w'.cell? ⟨bY,1,none⟩=some (.int .i64 cT)∧w'.cell? ⟨bY,2,none⟩=some (.slice dF cF.length cZ)∧w'.cell? ⟨cA,0,none⟩=some (.int .i64 dB)∧w'.cell? ⟨cA,1,none⟩=some (.int .i64 dA)∧w'.cell? ⟨bS,0,none⟩=some (.int .i64 cS)∧w'.cell? ⟨bS,1,none⟩=some (.int .i64 cR)∧w'.cell? ⟨bS,2,none⟩=some (.slice dE cQ.length dC)∧w'.cell? ⟨bS,3,none⟩=some (.slice dD cE.length cY)) (ds:=[]) _ (by kernel_rfl) rfl rfl ⟨zq aR 0,zq aR 1,zq aR 2,zq aY 0,zq aY 1,zq aX 0,zq aX 1,zq aX 2,zq aX 3⟩ (fun hHeld=>?_);refine with_tabW spec_DrawGoStep.tab4 spec_DrawGoStep.bits4 (fun HT_ HW_=>?_);generalize iN.drew=kW at bD bK bF bC aC aJ aI aR aY aX HI458 HB hHeld ⊢;refine zp 1 31 HT_ ?_;refine zp 3 33 HT_ ?_;refine zp 5 35 HT_ ?_;refine zp 6 36 HT_ ?_;refine zt 0 30 HT_ HW_ hHeld ?_;refine zt 2 32 HT_ HW_ hHeld ?_;refine zt 4 34 HT_ HW_ hHeld ?_;refine zo 7 37 HT_ (fun K hK=>?_);refine zgo Try.func25 #[.pointer (some ⟨g458,0,none⟩),.int .i64 3] ?_
 with_reducible refine(spec_l1Once.calls g458 bJ cX cW 3 dU dT dS w _ ?s1 ?s2 A5.out).mono ?_
 (case s1=>exact zI1);(case s2=>exact zB1);rintro e cV ⟨rfl,hi,hb,hk⟩;refine⟨_,rfl,?_⟩;replace aC:=zkB hk aC cO;replace aJ:=zkB hk aJ cN;replace aI:=zkB hk aI cJ;replace bD:=zA (Kd.Q_mono (Kd.Q_keep (IsS77.apartQ (show IsS77 w _ g458 bJ cX cW from zI1) (zQ bD) (by decide)) hk (fun _ h=>h.2)) (fun _ h=>h.1));replace bK:=zA (Kd.R_mono (Kd.R_keep (IsS77.apart (show IsS77 w _ g458 bJ cX cW from zI1) (zR bK) (by decide)) hk (fun _ h=>h.2)) (fun _ h=>h.1));replace bF:=zA (Kd.R_mono (Kd.R_keep (IsS77.apart (show IsS77 w _ g458 bJ cX cW from zI1) (zR bF) (by decide)) hk (fun _ h=>h.2)) (fun _ h=>h.1));replace bC:=zA (Kd.R_mono (Kd.R_keep (IsS77.apart (show IsS77 w _ g458 bJ cX cW from zI1) (zR bC) (by decide)) hk (fun _ h=>h.2)) (fun _ h=>h.1));replace aR:=zkB hk aR cI;replace aY:=zkB hk aY cH;replace aX:=zkB hk aX cG
 replace HB:=zA hb;replace HI458:=zA (hi);(try clear hb);refine hK.out _ _ ⟨zq aR 0,zq aR 1,zq aR 2,zq aY 0,zq aY 1,zq aX 0,zq aX 1,zq aX 2,zq aX 3⟩ (fun hHeld=>?_);clear hK K;refine norm_ zV ?_;refine zon 8 HT_ (fun K hK=>?_);have kR:cV.cell? ⟨aK,0,none⟩=some (.int .i64 0):=zq aC 0;have kC:=blk_frozen aC.out 0;have fV:=bW.out;have fU:=bM.out;have fT:=aW.out;have fS:=bB.out;have fR:=aQ.out;have hU:=bX.out;have hT:=bN.out;have hS:=cD.out;have hR:=cC.out;have hQ:=cB.out;have kQ:cV.cell? ⟨aK,1,none⟩=some (.int .i64 0):=zq aC 1;have kB:=blk_frozen aC.out 1;have fQ:=bW.out;have fP:=bM.out;have fO:=aW.out;have fN:=bB.out;have fM:=aQ.out;have hP:=bX.out;have hO:=bN.out;have hN:=cD.out;have hM:=cC.out;have hJ:=cB.out;have kP:cV.cell? ⟨aK,2,none⟩=some (.slice none 0 0):=zq aC 2;have kA:=blk_frozen aC.out 2;have fL:=bW.out;have fK:=bM.out;have fJ:=aW.out;have fI:=bB.out;have fH:=aQ.out;have hH:=bX.out;have hG:=bN.out;have hF:=cD.out;have hE:=cC.out;have hD:=cB.out;refine skip_ (w1:=?_) (by rfl) rfl ?_ ?_;rotate_left
 ·go_simp
  rfl
 refine hK.out _ _ ⟨(zCF hHeld.1),(zCF hHeld.2.1),(zCF hHeld.2.2.1),(zCF hHeld.2.2.2.1),(zCF hHeld.2.2.2.2.1),(zCF hHeld.2.2.2.2.2.1),(zCF hHeld.2.2.2.2.2.2.1),(zCF hHeld.2.2.2.2.2.2.2.1),(zCF hHeld.2.2.2.2.2.2.2.2)⟩ (fun hHeld=>?_);clear hK K;refine zp 9 3 HT_ ?_;refine zon 10 HT_ (fun K hK=>?_);have kO:cV.cell? ⟨aU,0,none⟩=some (.int .i64 0):=zq aJ 0;have jZ:=blk_frozen aJ.out 0;have fG:=bX.out;have fF:=bO.out;have fE:=bE.out;have fD:=bL.out;have fC:=bA.out;have gZ:=bW.out;have gY:=bP.out;have gX:=cM.out;have gW:=cL.out;have gV:=cK.out;have kN:cV.cell? ⟨aU,1,none⟩=some (.int .i64 0):=zq aJ 1;have jY:=blk_frozen aJ.out 1;have fB:=bX.out;have fA:=bO.out;have eZ:=bE.out;have eY:=bL.out;have eX:=bA.out;have gU:=bW.out;have gT:=bP.out;have gS:=cM.out;have gR:=cL.out;have gQ:=cK.out;refine skip_ (w1:=?_) (by rfl) rfl ?_ ?_;rotate_left
 ·go_simp
  rfl
 refine hK.out _ _ ⟨(zCF hHeld.1),(zCF hHeld.2.1),(zCF hHeld.2.2.1),(zCF hHeld.2.2.2.1),(zCF hHeld.2.2.2.2.1),(zCF hHeld.2.2.2.2.2.1),(zCF hHeld.2.2.2.2.2.2.1),(zCF hHeld.2.2.2.2.2.2.2.1),(zCF hHeld.2.2.2.2.2.2.2.2)⟩ (fun hHeld=>?_);clear hK K;refine zp 11 5 HT_ ?_;refine zon 12 HT_ (fun K hK=>?_);have kM:cV.cell? ⟨aA,0,none⟩=some (.int .i64 0):=zq aI 0;have jX:=blk_frozen aI.out 0;have eW:=bN.out;have eV:=bP.out;have eU:=aN.out;have eT:=aV.out;have eS:=aD.out;have gP:=bM.out;have gO:=bO.out;have gN:=bV.out;have gM:=bU.out;have gL:=bT.out;have kL:cV.cell? ⟨aA,1,none⟩=some (.int .i64 0):=zq aI 1;have jW:=blk_frozen aI.out 1;have eR:=bN.out;have eQ:=bP.out;have eP:=aN.out;have eO:=aV.out;have eN:=aD.out;have gK:=bM.out;have gJ:=bO.out;have gI:=bV.out;have gH:=bU.out;have gG:=bT.out;have kK:cV.cell? ⟨aA,2,none⟩=some (.slice none 0 0):=zq aI 2;have jV:=blk_frozen aI.out 2;have eM:=bN.out;have eL:=bP.out;have eK:=aN.out;have eJ:=aV.out;have eI:=aD.out;have gF:=bM.out;have gE:=bO.out;have gD:=bV.out;have gC:=bU.out;have gB:=bT.out;have kJ:cV.cell? ⟨aA,3,none⟩=some (.slice none 0 0):=zq aI 3;have jU:=blk_frozen aI.out 3;have eH:=bN.out;have eG:=bP.out;have eF:=aN.out;have eE:=aV.out;have eD:=aD.out;have gA:=bM.out;have fZ:=bO.out;have fY:=bV.out;have fX:=bU.out;have fW:=bT.out;refine skip_ (w1:=?_) (by rfl) rfl ?_ ?_;rotate_left
 ·go_simp
  rfl
 refine hK.out _ _ ⟨(zCF hHeld.1),(zCF hHeld.2.1),(zCF hHeld.2.2.1),(zCF hHeld.2.2.2.1),(zCF hHeld.2.2.2.2.1),(zCF hHeld.2.2.2.2.2.1),(zCF hHeld.2.2.2.2.2.2.1),(zCF hHeld.2.2.2.2.2.2.2.1),(zCF hHeld.2.2.2.2.2.2.2.2)⟩ (fun hHeld=>?_);clear hK K;refine zp 13 7 HT_ ?_;refine zp 14 8 HT_ ?_;refine done_ (done_of HT_.out (by kernel_rfl)) ?_
 try go_wp2
 refine bodyPost_ret (results_list (rs:=[.cell 2 26,.tmp 3,.cell 4 28,.tmp 5,.cell 6 33,.tmp 7,.tmp 8]) rfl (by simp) (.cell aK 26 #[.int .i64 cU,.int .i64 cT,.slice dF cF.length cZ] (0,0) _ rfl (zkp aC) Try.underlying26 rfl (by kernel_rfl) (.tmp (.cell aU 28 #[.int .i64 dB,.int .i64 dA] (0,0) _ rfl (zkp aJ) Try.underlying28 rfl (by kernel_rfl) (.tmp (.cell aA 33 #[.int .i64 cS,.int .i64 cR,.slice dE cQ.length dC,.slice dD cE.length cY] (0,0) _ rfl (zkp aI) Try.underlying33 rfl (by kernel_rfl) (.tmp (.tmp .nil)))))))) rfl ?_;exact⟨_,_,_,_,zE,zG3 bD aC aJ aI,zF3 bK aC aJ aI,zF3 bF aC aJ aI,zF3 bC aC aJ aI,zB1⟩

def impl_InRange.f (a0:Int) (a1:Int) (a2:Int):Option (Bool):=if a1≤a0 then(some (decide (a0≤a2))) else(some false)
theorem impl_InRange.calls (a0:Int) (a1:Int) (a2:Int) (r:Bool) (w:World) (h:impl_InRange.f a0 a1 a2=some r) :
  Calls Try.prog 54 #[.int .i64 a0,.int .i64 a1,.int .i64 a2] w fun e w'=>e=.returned (.bool r)∧Drawn0 w w':=by
 have H:=h;clear h;unfold impl_InRange.f at H
 by_cases c4:a1≤a0
 ·rw[if_pos c4] at H;have aA:=decide_eq_true c4;clear c4;obtain rfl:=zI H;go_enter Try.func54,Try.ntmps54;go_wp2;go_ret;exact⟨by first|rfl|(simp;done)|(simp[*];done),by repeat (first|exact Drawn0.refl _|apply Drawn0.step)⟩
 ·rw[if_neg c4] at H;have aA:=decide_eq_false c4;clear c4;obtain rfl:=zI H;go_enter Try.func54,Try.ntmps54;go_wp2;go_ret;exact⟨by first|rfl|(simp;done)|(simp[*];done),by repeat (first|exact Drawn0.refl _|apply Drawn0.step)⟩

def impl_IsRule.f (a0_0:Int) (a0_1:Int):Option (Bool):=(impl_InRange.f a0_1 1 10).bind fun t490=>(if t490=true then((impl_InRange.f a0_0 0 (wrap64 (a0_1-1))).bind fun t491=>(some t491)) else(some false))
theorem impl_IsRule.calls (aC:Int) (aA:Int) (r:Bool) (w:World) (h:impl_IsRule.f aC aA=some r) :
  Calls Try.prog 30 #[.agg #[.int .i64 aC,.int .i64 aA]] w fun e w'=>e=.returned (.bool r)∧Below w.heap.size w w':=by
 have hu28:=Try.underlying28;have HB:=zA (Below.refl w.heap.size w);have H:=h;clear h;unfold impl_IsRule.f at H;obtain⟨aJ,A2,H⟩:=zB H
 by_cases c3:aJ=true
 ·subst c3;rw[if_pos rfl] at H;obtain⟨aI,A4,H⟩:=zB H;obtain rfl:=zI H;go_enter Try.func30,Try.ntmps30
  go_wp2_with (first|((with_reducible refine zgd 1 rfl ?_);refine zbx 1 #[.int .i64 aC,.int .i64 aA] 28 ?_;intro aE hg w5 hbox hb;have aD:=zA hbox;have aH:=zga (w:=w) hg;replace HB:=zbs hb;clear hb hbox hg;obtain⟨aV,aU,aQ,aN⟩:=ze2 aD)|((with_reducible refine zgf 54 rfl ?_);refine zgl 5 Try.func54 #[.int .i64 aA,.int .i64 1,.int .i64 10] ?_;(with_reducible refine(impl_InRange.calls aA 1 10 true _ A2.out).mono ?_);rintro e w' ⟨rfl,⟨nd,rfl⟩⟩;refine⟨_,rfl,?_⟩)|(go_at_call 54;(with_reducible refine(impl_InRange.calls aC 0 (wrap64 (aA-1)) aI _ A4.out).mono ?_);rintro e w' ⟨rfl,⟨nd,rfl⟩⟩))
  go_ret;exact⟨zE,zb⟩
 ·replace c3:=Bool.eq_false_iff.mpr c3;subst c3;rw[if_neg zNo] at H;obtain rfl:=zI H;go_enter Try.func30,Try.ntmps30
  go_wp2_with (first|((with_reducible refine zgd 1 rfl ?_);refine zbx 1 #[.int .i64 aC,.int .i64 aA] 28 ?_;intro aE hg w7 hbox hb;have aD:=zA hbox;have aH:=zga (w:=w) hg;replace HB:=zbs hb;clear hb hbox hg;obtain⟨aT,aR,aM,aK⟩:=ze2 aD)|((with_reducible refine zgf 54 rfl ?_);refine zgl 5 Try.func54 #[.int .i64 aA,.int .i64 1,.int .i64 10] ?_;(with_reducible refine(impl_InRange.calls aA 1 10 false _ A2.out).mono ?_);rintro e w' ⟨rfl,⟨nd,rfl⟩⟩;refine⟨_,rfl,?_⟩))
  go_ret;exact⟨zE,zb⟩

def impl_CountStorms.l0:Nat→Int→List Bool→Int→Int→Option (Int)
  |0,_,_,_,_=>none
  |k+1,x3,x6,x7,x8=>if x8<x7 then(if 0≤x8 then(if x8<(x6.length:Int) then(if rdOf false x6 x8=true then(impl_CountStorms.l0 k (wrap64 (x3+1)) x6 x7 (wrap64 (x8+1))) else(impl_CountStorms.l0 k x3 x6 x7 (wrap64 (x8+1)))) else(none)) else(none)) else(some x3)
def impl_CountStorms.f (k:Nat) (l0:List Bool):Option (Int):=impl_CountStorms.l0 k 0 l0 (l0.length:Int) 0
theorem impl_CountStorms.calls (k:Nat) (A0:Option Addr) (c0:Nat) (l0:List Bool) (r:Int) (w:World) (aM:Kd.C Kd.bool w A0 l0.length l0) (aN:l0.length≤c0) (h:impl_CountStorms.f k l0=some r) :
  Calls Try.prog 31 #[.slice A0 l0.length c0] w fun e w'=>e=.returned (.int .i64 r)∧Drawn0 w w':=by
 have aQ:=zA aM;have aX:=zA aN;clear aM aN;have H:=h;clear h;unfold impl_CountStorms.f at H;have H':=zA H;clear H;go_enter Try.func31,Try.ntmps31;go_wp2
 go_loopg [3,8] k (fun kq v3 v8 w'=>∃ (aC:Int) (aA:Int),v3=.int .i64 aC∧v8=.int .i64 aA∧Aside0 (impl_CountStorms.l0 kq aC l0 (l0.length:Int) aA=some r)∧Aside0 (kq≤k)∧Drawn0 w w')
 case atStart=>exact⟨(0),(0),zr,zr,H',⟨Nat.le_refl _⟩,by repeat (first|exact Drawn0.refl _|apply Drawn0.step)⟩
 case round =>
  clear H';obtain⟨aC,aA,rfl,rfl,HA,HK1,⟨m1,rfl⟩⟩:=hrel
  cases gk with
  |zero=>exact absurd HA.out (by simp[impl_CountStorms.l0])
  |succ k1 =>
   have H:=HA.out;clear HA;simp only[impl_CountStorms.l0] at H
   by_cases c2:aA<(l0.length:Int)
   ·rw[if_pos c2] at H;have aR:=decide_eq_true c2;clear c2;obtain⟨aW,H⟩:=zifD H;obtain⟨aV,H⟩:=zifD H;obtain⟨bq5,hbq5⟩:∃ b_:Bool,b_=(rdOf false l0 aA):=⟨_,rfl⟩
    replace H:(if bq5=true then(impl_CountStorms.l0 k1 (wrap64 (aC+1)) l0 (l0.length:Int) (wrap64 (aA+1))) else(impl_CountStorms.l0 k1 aC l0 (l0.length:Int) (wrap64 (aA+1))))=some r:=by rw[←hbq5] at H;exact H
    have Nbq5:=zA hbq5;clear hbq5
    by_cases c6:bq5=true
    ·subst c6;rw[if_pos rfl] at H;have H':=zA H;clear H;have aE:0≤(aA:Int):=zd;have aD:aA<(l0.length:Int):=zd;obtain⟨aK,aI,aH⟩:=Kd.at_bool aQ.out aA aE aD;(try rw[←Nbq5.out] at aH);cases aI;replace aE:=eq_true aE;replace aD:=eq_true aD;go_wp2
     go_roundg k1
     case measure=>have:=HK1.out;omega
     case rel=>exact⟨(wrap64 (aC+1)),(wrap64 (aA+1)),zr,zr,H',⟨by have:=HK1.out;omega⟩,by repeat (first|exact Drawn0.refl _|apply Drawn0.step)⟩
    ·replace c6:=Bool.eq_false_iff.mpr c6;subst c6;rw[if_neg zNo] at H;have H':=zA H;clear H;have aE:0≤(aA:Int):=zd;have aD:aA<(l0.length:Int):=zd;obtain⟨aK,aI,aH⟩:=Kd.at_bool aQ.out aA aE aD;(try rw[←Nbq5.out] at aH);cases aI;replace aE:=eq_true aE;replace aD:=eq_true aD;go_wp2
     go_roundg k1
     case measure=>have:=HK1.out;omega
     case rel=>exact⟨(aC),(wrap64 (aA+1)),zr,zr,H',⟨by have:=HK1.out;omega⟩,by repeat (first|exact Drawn0.refl _|apply Drawn0.step)⟩
   ·rw[if_neg c2] at H;have aR:=decide_eq_false c2;clear c2;obtain rfl:=zI H;go_wp2;go_ret;exact⟨by first|rfl|(simp;done)|(simp[*];done),by repeat (first|exact Drawn0.refl _|apply Drawn0.step)⟩

def impl_last.f (l0:List Bool) (a1:Int):Option (List Bool):=if 0≤(mx (wrap64 ((l0.length:Int)-a1)) 0) then(if (mx (wrap64 ((l0.length:Int)-a1)) 0)≤(l0.length:Int) then(some (l0.drop ((mx (wrap64 ((l0.length:Int)-a1)) 0):Int).toNat)) else(none)) else(none)
theorem impl_last.calls (P0_:Nat→Prop) (u9000_:Value) (l0:List Bool) (a1:Int) (r:List Bool) (w0 w:World) (hB:Below w0.heap.size w0 w) (ho0:Kd.R Kd.bool 4 w w0.heap.size P0_ u9000_ l0) (h:impl_last.f l0 a1=some r) :
  Calls Try.prog 32 #[u9000_,.int .i64 a1] w fun e w'=>∃ v0_:Value,e=.returned (v0_)∧Kd.Q Kd.bool 4 w' w0.heap.size (fun k_=>(P0_ k_∨w.heap.size≤k_)) v0_ r∧Below w0.heap.size w0 w'∧Kept w w' (fun k_=>P0_ k_):=by
 have aM:=zA (show Kd.R Kd.bool 4 w w0.heap.size (fun k_=>(P0_ k_∨w.heap.size≤k_)) u9000_ l0 from Kd.R_mono ho0 (fun k_ hk=>(.inl hk)));have HK:=zA (Kept.refl w (fun k_=>P0_ k_));have HW0:=zA hB.size;have HB:=zA hB;clear hB;have H:=h;clear h;unfold impl_last.f at H;obtain⟨aA,aE⟩:∃ j_:Int,(mx (wrap64 ((l0.length:Int)-a1)) 0)=j_:=⟨_,rfl⟩
 replace H:(if 0≤(aA) then(if (aA)≤(l0.length:Int) then(some (l0.drop ((aA):Int).toNat)) else(none)) else(none))=some r:=by first|(rw[aE] at H;exact H)|(simp only[aE] at H ⊢;exact H)
 (try (have hji3l:0≤aA:=by(rw[←aE];unfold mx;(repeat' split) <;> omega)));(try (have hji3m:0≤aA:=by omega));have aX:(if (wrap64 ((l0.length:Int)-a1))<0 then 0 else(wrap64 ((l0.length:Int)-a1)))=aA:=aE;obtain⟨c4,H⟩:=zif H;have bB:=eq_true c4;have bA:=decide_eq_true c4;clear c4;obtain⟨c5,H⟩:=zif H;have aZ:=eq_true c5;have aY:=decide_eq_true c5;clear c5;obtain⟨aD,aG⟩:∃ y_:List Bool,y_=(l0.drop ((aA):Int).toNat):=⟨_,rfl⟩
 replace H:(some aD)=some r:=zY aG H
 have Ny493:=zA aG;clear aG;obtain rfl:=zI H;obtain⟨aH,aI,aU⟩:=Kd.R_slice aM.out;subst aU;have q7:((aA):Int)≤((l0.length:Int):Int):=zd;obtain⟨i07,hi07,_,hsz7,_⟩:=info_parts info4;have hcut7:=cut_from (P:=Try.prog) 31 4 .i64 Try.underlying31 hi07 1 hsz7 aH l0.length aI (aA) zd q7;have hr7:=Kd.Q_drop (k:=((aA):Int).toNat) (Kd.Q_of_R aM.out) (by omega);obtain⟨A7,hA7⟩:∃ A1,A1=(if aI=((aA):Int).toNat then aH else(aH:Option Addr).map (·.add (((aA):Int).toNat * 1))):=⟨_,rfl⟩;obtain⟨c7,hc7⟩:∃ c1,c1=aI-((aA):Int).toNat:=⟨_,rfl⟩;have aJ:aD.length=l0.length-((aA):Int).toNat:=(by rw[Ny493.out,List.length_drop]);rw[←Ny493.out] at hr7;rw[←aJ,←hA7,←hc7] at hcut7;replace hr7:Kd.Q Kd.bool 4 w w0.heap.size (fun k_=>(P0_ k_∨w.heap.size≤k_)) (.slice A7 aD.length c7) aD:=(by rw[hA7,hc7,aJ];exact hr7);have HE7:Aside0 ((Value.slice A7 aD.length c7).ownBlock=(.slice aH l0.length aI:Value).ownBlock):=⟨by rw[hA7];split <;> (cases (aH:Option Addr) <;> first|rfl|(simp[Value.ownBlock,Addr.add];done)|(simp only[Option.map,Value.ownBlock,Addr.add];split <;> rfl))⟩;clear aJ hi07 hsz7 aM hA7 hc7;have aN:=zA hr7;clear hr7;replace q7:=eq_true q7;go_enter Try.func32,Try.ntmps32;go_wp2;go_ret;exact⟨_,by first|rfl|(simp[errW_none,errW_some] <;> rfl)|(simp only[←aE];first|rfl|(simp[errW_none,errW_some] <;> rfl))|(simp[*,errW_none,errW_some] <;> rfl),zQ aN,zb,by repeat (first|(with_reducible first|exact HK.out|apply Kept.alloc|apply Kept.drewN|apply Kept.drew)|exact HK.out)⟩

theorem impl_last.callsC (A0:Option Addr) (c0:Nat) (l0:List Bool) (a1:Int) (r:List Bool) (w:World) (aJ:Kd.C Kd.bool w A0 l0.length l0) (aI:l0.length≤c0) (h:impl_last.f l0 a1=some r) :
  Calls Try.prog 32 #[.slice A0 l0.length c0,.int .i64 a1] w fun e w'=>∃ A' c',e=.returned (.slice A' r.length c')∧r.length≤c'∧(∀ w2:World,Kd.C Kd.bool w2 A0 l0.length l0→Kd.C Kd.bool w2 A' r.length r)∧w'=w:=by
 unfold impl_last.f at h
 obtain⟨aC,aD⟩:∃ j_:Int,(mx (wrap64 ((l0.length:Int)-a1)) 0)=j_:=⟨_,rfl⟩
 rw[aD] at h
 have hji3_:(if (wrap64 ((l0.length:Int)-a1))<0 then 0 else(wrap64 ((l0.length:Int)-a1)))=aC:=aD
 obtain⟨c4,h⟩:=zif h
 obtain⟨c5,h⟩:=zif h
 obtain rfl:=Option.some.inj h
 obtain⟨i07,hi07,_,hsz7,_⟩:=info_parts info4
 obtain⟨A7,hcut7,hrd7,hc7⟩:=print_drop_of (P:=Try.prog) Value.bool false 31 4 .i64 Try.underlying31 hi07 hsz7 A0 c0 l0 aC c4 c5 aI
 go_enter Try.func32,Try.ntmps32
 go_wp2
 go_ret
 exact⟨A7,c0-aC.toNat,by first|rfl|(simp;done),by have h_:=hc7;first|exact h_|(rw[List.length_drop] at h_;first|exact h_|omega),fun w2 h2=>by have h_:=Kd.C_of_reads (h1:=fun _=>rfl) (hrd7 w2 (Kd.reads_of_C h2));first|exact h_|(rw[List.length_drop] at h_;exact h_),rfl⟩
def impl_MayStorm.f (k:Nat) (a0_0:Int) (a0_1:Int) (l1:List Bool):Option (Bool):=(impl_IsRule.f a0_0 a0_1).bind fun t519=>(if t519=true then((impl_last.f l1 (wrap64 (a0_1-1))).bind fun t520=>((impl_CountStorms.f k t520).bind fun t521=>(some (decide (t521<a0_0))))) else(some false))
def impl_MayStorm.T1:Bool × List (List Nat × List Nat):=(true,[([],[]),([0],[0]),([1,1],[1]),([2],[2]),([2],[2]),([4,2],[2,4]),([5,2],[2,5]),([3,6,2,2],[2,3,6]),([7,7,2],[2,7]),([2],[2]),([9,2],[2,9]),([8,10,2],[2,8,10]),([2,11],[2,11]),([12,8,0,1,2,3,4,5,6,7,8,9,10,11,12],[12])])
def impl_MayStorm.B1:List Nat:=[0,1,3,7,7,23,55,127,255,7,519,2047,4095,8191]
theorem impl_MayStorm.tab1:rtab .any (opsOf Try.f8 1)=impl_MayStorm.T1:=by kernel_rfl
theorem impl_MayStorm.bits1:waitsOk impl_MayStorm.T1.2 impl_MayStorm.B1=true:=by kernel_rfl
theorem impl_MayStorm.calls (k:Nat) (aD:Int) (aC:Int) (A1:Option Addr) (c1:Nat) (l1:List Bool) (r:Bool) (w:World) (aY:Kd.C Kd.bool w A1 l1.length l1) (aZ:l1.length≤c1) (h:impl_MayStorm.f k aD aC l1=some r) :
  Calls Try.prog 8 #[.agg #[.int .i64 aD,.int .i64 aC],.slice A1 l1.length c1] w fun e w'=>e=.returned (.bool r)∧Below w.heap.size w w':=by
 have hu38:=Try.underlying28
 have HR1:=zA aY
 have HC1:=zA aZ
 clear aY aZ
 have HB:=zA (Below.refl w.heap.size w)
 have H:((impl_IsRule.f aD aC).bind fun t519=>(if t519=true then((impl_last.f l1 (wrap64 (aC-1))).bind fun t520=>((impl_CountStorms.f k t520).bind fun t521=>(some (decide (t521<aD))))) else(some false)))=some r:=h
 clear h
 replace H:=Option.bind_eq_some_iff.mp H
 obtain⟨t519,A30,H⟩:=H
 replace H:(if t519=true then((impl_last.f l1 (wrap64 (aC-1))).bind fun t520=>((impl_CountStorms.f k t520).bind fun t521=>(some (decide (t521<aD))))) else(some false))=some r:=H
 have A3:=zA A30
 clear A30
 by_cases c4:t519=true
 ·subst c4
  have H1:((impl_last.f l1 (wrap64 (aC-1))).bind fun t520=>((impl_CountStorms.f k t520).bind fun t521=>(some (decide (t521<aD)))))=some r:=by rw[if_pos rfl] at H;exact H
  clear H
  have H:=H1
  clear H1
  obtain⟨aN,hji5⟩:∃ j_:Int,(wrap64 (aC-1))=j_:=⟨_,rfl⟩
  replace H:((impl_last.f l1 (aN)).bind fun t520=>((impl_CountStorms.f k t520).bind fun t521=>(some (decide (t521<aD)))))=some r:=by first|(rw[hji5] at H;exact H)|(simp only[hji5] at H ⊢;exact H)
  (try rw[hji5] at A3)
  have aQ:(IntKind.i64.wrap (aC-1))=aN:=(i64_w _).trans hji5
  obtain⟨t520,A7,H⟩:=zB H
  replace H:=Option.bind_eq_some_iff.mp H
  obtain⟨t521,A80,H⟩:=H
  replace H:(some (decide (t521<aD)))=some r:=H
  have A8:=zA A80
  clear A80
  obtain rfl:=zI H
  go_enter Try.func8,Try.ntmps8
  try go_wp2_with (first|((with_reducible refine zgd 2 rfl ?_);refine box_event ?hg (N:=2) ?hd (cs:=#[.int .i64 aD,.int .i64 aC]) (t:=28) ?hr ?_;(case hd=>rfl);(case hg=>rfl);(case hr=>first|(go_simp;done)|(go_simp;rfl));intro aE hg w9 hbox hb;have aH:=zA (below_step (by repeat (first|(with_reducible first|exact HB.out|apply below_alloc|apply pw_below_drewN|apply below_drew1)|exact HB.out)) hb);have aG:=zA hbox;have aM:=zA ((by rw[hg];exact(below_size (by repeat (first|(with_reducible first|exact HB.out|apply below_alloc|apply pw_below_drewN|apply below_drew1)|exact HB.out))):w.heap.size≤aE));have aK:=zA ((by rw[hg];exact(below_size (by repeat (first|(with_reducible first|exact HB.out|apply below_alloc|apply pw_below_drewN|apply below_drew1)|exact HB.out))):w.heap.size≤aE));clear HB;have HB:=aH;have aA:=aG;have aW:=aM;have aI:=aK;clear aH aG aM aK;clear hb hbox hg))
  have aH:=zA (blk_drew aA.out)
  have aG:=zA (below_drew1 HB.out)
  clear aA
  clear HB
  have aA:=aH
  have HB:=aG
  clear aH aG
  refine start_ (n:=14) (S:=fun w'=>w'.cell? ⟨aE,0,none⟩=some (.int .i64 aD)∧w'.cell? ⟨aE,1,none⟩=some (.int .i64 aC)) (ds:=[]) #[false,false,false,false,false,false,false,false,false,false,false,false,false,false] (by kernel_rfl) rfl rfl ⟨(blk_cell aA.out 0).trans rfl,(blk_cell aA.out 1).trans rfl⟩ (fun hHeld=>?_);refine with_tabW impl_MayStorm.tab1 impl_MayStorm.bits1 (fun HT_ HW_=>?_)
  generalize w9.drew=bH at aA HB hHeld ⊢
  refine take_ (i:=0) (N:=some 5) (v:=?_) (a':=?_) #[true,false,false,false,false,false,false,false,false,false,false,false,false,false] rfl rfl (take_ofW HT_.out HW_.out (by kernel_rfl)) (fun _ _ _ h=>h) (Or.inl ⟨by rfl,?_⟩) hHeld ?_ ?_
  rotate_left
  ·rintro w' ⟨s0,s1⟩
   go_simp
   with_reducible rfl
  rotate_left
  ·simp only[Act.put,List.setIfInBounds_toArray,List.set_cons_zero,List.set_cons_succ,i64_w,i32_w]
   rfl
  refine one_ (i:=1) (N:=some 6) #[true,true,false,false,false,false,false,false,false,false,false,false,false,false] rfl rfl (one_of HT_.out (by kernel_rfl)) (by decide) (fun K hK=>?_)
  refine goes_ Try.func30 (by kernel_rfl) rfl #[.agg #[.int .i64 aD,.int .i64 aC]] (by rfl) rfl rfl (by(try simp only[List.map_toArray,List.map_cons,List.map_nil]);first|done|rfl|(simp only[List.length_drop,List.length_take];rfl)) ?_
  with_reducible refine(impl_IsRule.calls aD aC true _ A3.out).mono ?_
  rintro e bG ⟨rfl,hb⟩
  refine⟨_,rfl,?_⟩
  have aH:=zA (blk_below (g:=aE) (o:=.cells #[.int .i64 aD,.int .i64 aC] 28 (0,0)) (by(with_reducible repeat (first|refine blk_drewN ?_ _|refine blk_drew ?_|refine blk_alloc ?_ _));exact aA.out) hb)
  have aG:=zA (below_step (by repeat (first|(with_reducible first|exact HB.out|apply below_alloc|apply pw_below_drewN|apply below_drew1|refine below_set ?_ aI.out)|exact HB.out)) hb)
  clear aA
  clear HB
  have aA:=aH
  have HB:=aG
  clear aH aG
  (try clear hb)
  (try clear hb2)
  (try clear hk)
  (try clear hi)
  refine hK.out _ _ ⟨(blk_cell aA.out 0).trans rfl,(blk_cell aA.out 1).trans rfl⟩ (fun hHeld=>?_)
  clear hK K
  refine norm_ (a':=?_) ?_ ?_
  rotate_left
  ·show Act.put _ (some 6) _=_
   simp only[Act.put,List.setIfInBounds_toArray,List.set_cons_zero,List.set_cons_succ,i64_w,i32_w]
   rfl
  refine pure_ (i:=2) (N:=some 7) (v:=?_) (a':=?_) #[true,true,true,false,false,false,false,false,false,false,false,false,false,false] rfl rfl (any_of HT_.out (by kernel_rfl)) (fun _ _ _ h=>h) (Or.inl ⟨by rfl,?_⟩) ?_ ?_
  rotate_left
  ·intro w'
   go_simp
   with_reducible rfl
  rotate_left
  ·simp only[Act.put,List.setIfInBounds_toArray,List.set_cons_zero,List.set_cons_succ,i64_w,i32_w]
   rfl
  refine pure_ (i:=3) (N:=some 8) (v:=?_) (a':=?_) #[true,true,true,true,false,false,false,false,false,false,false,false,false,false] rfl rfl (any_of HT_.out (by kernel_rfl)) (fun _ _ _ h=>h) (Or.inl ⟨by rfl,?_⟩) ?_ ?_
  rotate_left
  ·intro w'
   go_simp
   with_reducible rfl
  rotate_left
  ·simp only[Act.put,List.setIfInBounds_toArray,List.set_cons_zero,List.set_cons_succ,i64_w,i32_w]
   rfl
  refine pure_ (i:=4) (N:=some 9) (v:=?_) (a':=?_) #[true,true,true,true,true,false,false,false,false,false,false,false,false,false] rfl rfl (any_of HT_.out (by kernel_rfl)) (fun _ _ _ h=>h) (Or.inl ⟨by rfl,?_⟩) ?_ ?_
  rotate_left
  ·intro w'
   go_simp
   with_reducible rfl
  rotate_left
  ·simp only[Act.put,List.setIfInBounds_toArray,List.set_cons_zero,List.set_cons_succ,i64_w,i32_w]
   rfl
  refine pure_ (i:=9) (N:=some 14) (v:=?_) (a':=?_) #[true,true,true,true,true,false,false,false,false,true,false,false,false,false] rfl rfl (any_of HT_.out (by kernel_rfl)) (fun _ _ _ h=>h) (Or.inl ⟨by rfl,?_⟩) ?_ ?_
  rotate_left
  ·intro w'
   go_simp
   with_reducible rfl
  rotate_left
  ·simp only[Act.put,List.setIfInBounds_toArray,List.set_cons_zero,List.set_cons_succ,i64_w,i32_w]
   rfl
  refine take_ (i:=5) (N:=some 10) (v:=?_) (a':=?_) #[true,true,true,true,true,true,false,false,false,true,false,false,false,false] rfl rfl (take_ofW HT_.out HW_.out (by kernel_rfl)) (fun _ _ _ h=>h) (Or.inl ⟨by rfl,?_⟩) hHeld ?_ ?_
  rotate_left
  ·rintro w' ⟨s0,s1⟩
   go_simp
   with_reducible rfl
  rotate_left
  ·simp only[Act.put,List.setIfInBounds_toArray,List.set_cons_zero,List.set_cons_succ,i64_w,i32_w]
   rfl
  refine pure_ (i:=6) (N:=some 11) (v:=?_) (a':=?_) #[true,true,true,true,true,true,true,false,false,true,false,false,false,false] rfl rfl (any_of HT_.out (by kernel_rfl)) (fun _ _ _ h=>h) (Or.inl ⟨by rfl,?_⟩) ?_ ?_
  rotate_left
  ·intro w'
   go_simp
   with_reducible rfl
  rotate_left
  ·simp only[Act.put,List.setIfInBounds_toArray,List.set_cons_zero,List.set_cons_succ,i64_w,i32_w]
   rfl
  refine take_ (i:=10) (N:=some 15) (v:=?_) (a':=?_) #[true,true,true,true,true,true,true,false,false,true,true,false,false,false] rfl rfl (take_ofW HT_.out HW_.out (by kernel_rfl)) (fun _ _ _ h=>h) (Or.inl ⟨by rfl,?_⟩) hHeld ?_ ?_
  rotate_left
  ·rintro w' ⟨s0,s1⟩
   go_simp
   with_reducible rfl
  rotate_left
  ·simp only[Act.put,List.setIfInBounds_toArray,List.set_cons_zero,List.set_cons_succ,i64_w,i32_w]
   rfl
  refine one_ (i:=7) (N:=some 12) #[true,true,true,true,true,true,true,true,false,true,true,false,false,false] rfl rfl (one_of HT_.out (by kernel_rfl)) (by decide) (fun K hK=>?_)
  refine goes_ Try.func32 (by kernel_rfl) rfl #[.slice A1 l1.length c1,.int .i64 aN] (by rfl) rfl rfl (by(try simp only[List.map_toArray,List.map_cons,List.map_nil]);first|done|rfl|(simp only[hji5];rfl)|(simp only[aQ];rfl)) ?_
  with_reducible refine(impl_last.callsC A1 c1 l1 aN t520 _ (Kd.C_below HR1.out HB.out) HC1.out A7.out).mono ?_
  rintro e w' ⟨bC,bB,rfl,hc12,hrd12,rfl⟩
  refine⟨_,rfl,?_⟩
  have aU:=zA (hrd12 _ HR1.out);have aV:=zA hc12;clear hrd12 hc12
  refine hK.out _ _ ⟨(blk_cell aA.out 0).trans rfl,(blk_cell aA.out 1).trans rfl⟩ (fun hHeld=>?_)
  clear hK K
  refine norm_ (a':=?_) ?_ ?_
  rotate_left
  ·show Act.put _ (some 12) _=_
   simp only[Act.put,List.setIfInBounds_toArray,List.set_cons_zero,List.set_cons_succ,i64_w,i32_w]
   rfl
  refine one_ (i:=8) (N:=some 13) #[true,true,true,true,true,true,true,true,true,true,true,false,false,false] rfl rfl (one_of HT_.out (by kernel_rfl)) (by decide) (fun K hK=>?_)
  refine goes_ Try.func31 (by kernel_rfl) rfl #[.slice bC t520.length bB] (by rfl) rfl rfl (by(try simp only[List.map_toArray,List.map_cons,List.map_nil]);first|done|(rw[show t520.length=(l1.length-(aN).toNat) from List.length_drop] <;> rfl)|(simp only[hji5];rfl)|rfl|(simp only[List.length_drop,List.length_take];rfl)) ?_
  with_reducible refine(impl_CountStorms.calls k _ _ t520 t521 _ ?s1 ?s2 A8.out).mono ?_
  (case s1=>repeat (first|exact(Kd.C_below aU.out HB.out)|(with_reducible refine Kd.C_alloc ?_ _)|(with_reducible refine Kd.C_drewN ?_ _)|(with_reducible refine Kd.C_drew ?_)))
  (case s2=>exact aV.out)
  rintro e w' ⟨rfl,⟨nd,rfl⟩⟩
  refine⟨_,rfl,?_⟩
  refine hK.out _ _ ⟨(blk_cell aA.out 0).trans rfl,(blk_cell aA.out 1).trans rfl⟩ (fun hHeld=>?_)
  clear hK K
  refine norm_ (a':=?_) ?_ ?_
  rotate_left
  ·show Act.put _ (some 13) _=_
   simp only[Act.put,List.setIfInBounds_toArray,List.set_cons_zero,List.set_cons_succ,i64_w,i32_w]
   rfl
  refine pure_ (i:=11) (N:=some 16) (v:=?_) (a':=?_) #[true,true,true,true,true,true,true,true,true,true,true,true,false,false] rfl rfl (any_of HT_.out (by kernel_rfl)) (fun _ _ _ h=>h) (Or.inl ⟨by rfl,?_⟩) ?_ ?_
  rotate_left
  ·intro w'
   go_simp
   with_reducible rfl
  rotate_left
  ·simp only[Act.put,List.setIfInBounds_toArray,List.set_cons_zero,List.set_cons_succ,i64_w,i32_w]
   rfl
  refine pure_ (i:=12) (N:=some 17) (v:=?_) (a':=?_) #[true,true,true,true,true,true,true,true,true,true,true,true,true,false] rfl rfl (any_of HT_.out (by kernel_rfl)) (fun _ _ _ h=>h) (Or.inl ⟨by rfl,?_⟩) ?_ ?_
  rotate_left
  ·intro w'
   go_simp
   with_reducible rfl
  rotate_left
  ·simp only[Act.put,List.setIfInBounds_toArray,List.set_cons_zero,List.set_cons_succ,i64_w,i32_w]
   rfl
  refine pure_ (i:=13) (N:=some 4) (v:=?_) (a':=?_) #[true,true,true,true,true,true,true,true,true,true,true,true,true,true] rfl rfl (any_of HT_.out (by kernel_rfl)) (fun _ _ _ h=>h) (Or.inl ⟨by rfl,?_⟩) ?_ ?_
  rotate_left
  ·intro w'
   go_simp
   with_reducible rfl
  rotate_left
  ·simp only[Act.put,List.setIfInBounds_toArray,List.set_cons_zero,List.set_cons_succ,i64_w,i32_w]
   rfl
  refine done_ (done_of HT_.out (by kernel_rfl)) ?_
  try go_wp2
  go_ret
  exact⟨by first|rfl|(simp[errW_none,errW_some] <;> rfl)|(simp only[←hji5];first|rfl|(simp[errW_none,errW_some] <;> rfl))|(simp[*,errW_none,errW_some] <;> rfl),by repeat (first|(with_reducible first|exact HB.out|apply below_alloc|apply pw_below_drewN|apply below_drew1|refine below_set ?_ aI.out)|exact HB.out)⟩
 ·replace c4:=Bool.eq_false_iff.mpr c4
  subst c4
  have H1:(some false)=some r:=by rw[if_neg zNo] at H;exact H
  clear H
  have H:=H1
  clear H1
  obtain rfl:=zI H
  go_enter Try.func8,Try.ntmps8
  try go_wp2_with (first|((with_reducible refine zgd 2 rfl ?_);refine box_event ?hg (N:=2) ?hd (cs:=#[.int .i64 aD,.int .i64 aC]) (t:=28) ?hr ?_;(case hd=>rfl);(case hg=>rfl);(case hr=>first|(go_simp;done)|(go_simp;rfl));intro aE hg bA hbox hb;have aH:=zA (below_step (by repeat (first|(with_reducible first|exact HB.out|apply below_alloc|apply pw_below_drewN|apply below_drew1)|exact HB.out)) hb);have aG:=zA hbox;have aM:=zA ((by rw[hg];exact(below_size (by repeat (first|(with_reducible first|exact HB.out|apply below_alloc|apply pw_below_drewN|apply below_drew1)|exact HB.out))):w.heap.size≤aE));have aK:=zA ((by rw[hg];exact(below_size (by repeat (first|(with_reducible first|exact HB.out|apply below_alloc|apply pw_below_drewN|apply below_drew1)|exact HB.out))):w.heap.size≤aE));clear HB;have HB:=aH;have aA:=aG;have aW:=aM;have aI:=aK;clear aH aG aM aK;clear hb hbox hg))
  have aH:=zA (blk_drew aA.out)
  have aG:=zA (below_drew1 HB.out)
  clear aA
  clear HB
  have aA:=aH
  have HB:=aG
  clear aH aG
  refine start_ (n:=14) (S:=fun w'=>w'.cell? ⟨aE,0,none⟩=some (.int .i64 aD)∧w'.cell? ⟨aE,1,none⟩=some (.int .i64 aC)) (ds:=[]) #[false,false,false,false,false,false,false,false,false,false,false,false,false,false] (by kernel_rfl) rfl rfl ⟨(blk_cell aA.out 0).trans rfl,(blk_cell aA.out 1).trans rfl⟩ (fun hHeld=>?_);refine with_tabW impl_MayStorm.tab1 impl_MayStorm.bits1 (fun HT_ HW_=>?_)
  generalize bA.drew=bF at aA HB hHeld ⊢
  refine take_ (i:=0) (N:=some 5) (v:=?_) (a':=?_) #[true,false,false,false,false,false,false,false,false,false,false,false,false,false] rfl rfl (take_ofW HT_.out HW_.out (by kernel_rfl)) (fun _ _ _ h=>h) (Or.inl ⟨by rfl,?_⟩) hHeld ?_ ?_
  rotate_left
  ·rintro w' ⟨s0,s1⟩
   go_simp
   with_reducible rfl
  rotate_left
  ·simp only[Act.put,List.setIfInBounds_toArray,List.set_cons_zero,List.set_cons_succ,i64_w,i32_w]
   rfl
  refine one_ (i:=1) (N:=some 6) #[true,true,false,false,false,false,false,false,false,false,false,false,false,false] rfl rfl (one_of HT_.out (by kernel_rfl)) (by decide) (fun K hK=>?_)
  refine goes_ Try.func30 (by kernel_rfl) rfl #[.agg #[.int .i64 aD,.int .i64 aC]] (by rfl) rfl rfl (by(try simp only[List.map_toArray,List.map_cons,List.map_nil]);first|done|rfl|(simp only[List.length_drop,List.length_take];rfl)) ?_
  with_reducible refine(impl_IsRule.calls aD aC false _ A3.out).mono ?_
  rintro e bE ⟨rfl,hb⟩
  refine⟨_,rfl,?_⟩
  have aH:=zA (blk_below (g:=aE) (o:=.cells #[.int .i64 aD,.int .i64 aC] 28 (0,0)) (by(with_reducible repeat (first|refine blk_drewN ?_ _|refine blk_drew ?_|refine blk_alloc ?_ _));exact aA.out) hb)
  have aG:=zA (below_step (by repeat (first|(with_reducible first|exact HB.out|apply below_alloc|apply pw_below_drewN|apply below_drew1|refine below_set ?_ aI.out)|exact HB.out)) hb)
  clear aA
  clear HB
  have aA:=aH
  have HB:=aG
  clear aH aG
  (try clear hb)
  (try clear hb2)
  (try clear hk)
  (try clear hi)
  refine hK.out _ _ ⟨(blk_cell aA.out 0).trans rfl,(blk_cell aA.out 1).trans rfl⟩ (fun hHeld=>?_)
  clear hK K
  refine norm_ (a':=?_) ?_ ?_
  rotate_left
  ·show Act.put _ (some 6) _=_
   simp only[Act.put,List.setIfInBounds_toArray,List.set_cons_zero,List.set_cons_succ,i64_w,i32_w]
   rfl
  refine pure_ (i:=2) (N:=some 7) (v:=?_) (a':=?_) #[true,true,true,false,false,false,false,false,false,false,false,false,false,false] rfl rfl (any_of HT_.out (by kernel_rfl)) (fun _ _ _ h=>h) (Or.inl ⟨by rfl,?_⟩) ?_ ?_
  rotate_left
  ·intro w'
   go_simp
   with_reducible rfl
  rotate_left
  ·simp only[Act.put,List.setIfInBounds_toArray,List.set_cons_zero,List.set_cons_succ,i64_w,i32_w]
   rfl
  refine pure_ (i:=3) (N:=some 8) (v:=undef) (a':=?_) #[true,true,true,true,false,false,false,false,false,false,false,false,false,false] rfl rfl (any_of HT_.out (by kernel_rfl)) (fun _ _ _ h=>h) (Or.inr ⟨by rfl,rfl⟩) ?_ ?_
  rotate_left
  ·simp only[Act.put,List.setIfInBounds_toArray,List.set_cons_zero,List.set_cons_succ,i64_w,i32_w]
   rfl
  refine pure_ (i:=4) (N:=some 9) (v:=undef) (a':=?_) #[true,true,true,true,true,false,false,false,false,false,false,false,false,false] rfl rfl (any_of HT_.out (by kernel_rfl)) (fun _ _ _ h=>h) (Or.inr ⟨by rfl,rfl⟩) ?_ ?_
  rotate_left
  ·simp only[Act.put,List.setIfInBounds_toArray,List.set_cons_zero,List.set_cons_succ,i64_w,i32_w]
   rfl
  refine pure_ (i:=5) (N:=some 10) (v:=undef) (a':=?_) #[true,true,true,true,true,true,false,false,false,false,false,false,false,false] rfl rfl (any_of HT_.out (by kernel_rfl)) (fun _ _ _ h=>h) (Or.inr ⟨by rfl,rfl⟩) ?_ ?_
  rotate_left
  ·simp only[Act.put,List.setIfInBounds_toArray,List.set_cons_zero,List.set_cons_succ,i64_w,i32_w]
   rfl
  refine pure_ (i:=6) (N:=some 11) (v:=undef) (a':=?_) #[true,true,true,true,true,true,true,false,false,false,false,false,false,false] rfl rfl (any_of HT_.out (by kernel_rfl)) (fun _ _ _ h=>h) (Or.inr ⟨by rfl,rfl⟩) ?_ ?_
  rotate_left
  ·simp only[Act.put,List.setIfInBounds_toArray,List.set_cons_zero,List.set_cons_succ,i64_w,i32_w]
   rfl
  refine pure_ (i:=7) (N:=some 12) (v:=undef) (a':=?_) #[true,true,true,true,true,true,true,true,false,false,false,false,false,false] rfl rfl (any_of HT_.out (by kernel_rfl)) (fun _ _ _ h=>h) (Or.inr ⟨by rfl,rfl⟩) ?_ ?_
  rotate_left
  ·simp only[Act.put,List.setIfInBounds_toArray,List.set_cons_zero,List.set_cons_succ,i64_w,i32_w]
   rfl
  refine pure_ (i:=8) (N:=some 13) (v:=undef) (a':=?_) #[true,true,true,true,true,true,true,true,true,false,false,false,false,false] rfl rfl (any_of HT_.out (by kernel_rfl)) (fun _ _ _ h=>h) (Or.inr ⟨by rfl,rfl⟩) ?_ ?_
  rotate_left
  ·simp only[Act.put,List.setIfInBounds_toArray,List.set_cons_zero,List.set_cons_succ,i64_w,i32_w]
   rfl
  refine pure_ (i:=9) (N:=some 14) (v:=undef) (a':=?_) #[true,true,true,true,true,true,true,true,true,true,false,false,false,false] rfl rfl (any_of HT_.out (by kernel_rfl)) (fun _ _ _ h=>h) (Or.inr ⟨by rfl,rfl⟩) ?_ ?_
  rotate_left
  ·simp only[Act.put,List.setIfInBounds_toArray,List.set_cons_zero,List.set_cons_succ,i64_w,i32_w]
   rfl
  refine pure_ (i:=10) (N:=some 15) (v:=undef) (a':=?_) #[true,true,true,true,true,true,true,true,true,true,true,false,false,false] rfl rfl (any_of HT_.out (by kernel_rfl)) (fun _ _ _ h=>h) (Or.inr ⟨by rfl,rfl⟩) ?_ ?_
  rotate_left
  ·simp only[Act.put,List.setIfInBounds_toArray,List.set_cons_zero,List.set_cons_succ,i64_w,i32_w]
   rfl
  refine pure_ (i:=11) (N:=some 16) (v:=undef) (a':=?_) #[true,true,true,true,true,true,true,true,true,true,true,true,false,false] rfl rfl (any_of HT_.out (by kernel_rfl)) (fun _ _ _ h=>h) (Or.inr ⟨by rfl,rfl⟩) ?_ ?_
  rotate_left
  ·simp only[Act.put,List.setIfInBounds_toArray,List.set_cons_zero,List.set_cons_succ,i64_w,i32_w]
   rfl
  refine pure_ (i:=12) (N:=some 17) (v:=?_) (a':=?_) #[true,true,true,true,true,true,true,true,true,true,true,true,true,false] rfl rfl (any_of HT_.out (by kernel_rfl)) (fun _ _ _ h=>h) (Or.inl ⟨by rfl,?_⟩) ?_ ?_
  rotate_left
  ·intro w'
   go_simp
   with_reducible rfl
  rotate_left
  ·simp only[Act.put,List.setIfInBounds_toArray,List.set_cons_zero,List.set_cons_succ,i64_w,i32_w]
   rfl
  refine pure_ (i:=13) (N:=some 4) (v:=?_) (a':=?_) #[true,true,true,true,true,true,true,true,true,true,true,true,true,true] rfl rfl (any_of HT_.out (by kernel_rfl)) (fun _ _ _ h=>h) (Or.inl ⟨by rfl,?_⟩) ?_ ?_
  rotate_left
  ·intro w'
   go_simp
   with_reducible rfl
  rotate_left
  ·simp only[Act.put,List.setIfInBounds_toArray,List.set_cons_zero,List.set_cons_succ,i64_w,i32_w]
   rfl
  refine done_ (done_of HT_.out (by kernel_rfl)) ?_
  try go_wp2
  go_ret
  exact⟨zE,by repeat (first|(with_reducible first|exact HB.out|apply below_alloc|apply pw_below_drewN|apply below_drew1|refine below_set ?_ aI.out)|exact HB.out)⟩

def impl_allIn.l0:Nat→Int→Int→List Int→Int→Int→Option (Bool)
  |0,_,_,_,_,_=>none
  |k+1,x1,x2,x9,x10,x11=>if x11<x10 then(if 0≤x11 then(if x11<(x9.length:Int) then((impl_InRange.f (rd x9 x11) x1 x2).bind fun t501=>(if t501=true then(impl_allIn.l0 k x1 x2 x9 x10 (wrap64 (x11+1))) else(some false))) else(none)) else(none)) else(some true)
def impl_allIn.f (k:Nat) (l0:List Int) (a1:Int) (a2:Int):Option (Bool):=impl_allIn.l0 k a1 a2 l0 (l0.length:Int) 0
theorem impl_allIn.calls (k:Nat) (A0:Option Addr) (c0:Nat) (l0:List Int) (a1:Int) (a2:Int) (r:Bool) (w:World) (aK:Kd.C (Kd.int .i64) w A0 l0.length l0) (aM:l0.length≤c0) (h:impl_allIn.f k l0 a1 a2=some r) :
  Calls Try.prog 72 #[.slice A0 l0.length c0,.int .i64 a1,.int .i64 a2] w fun e w'=>e=.returned (.bool r)∧Drawn0 w w':=by
 have aN:=zA aK;have bA:=zA aM;clear aK aM;have H:=h;clear h;unfold impl_allIn.f at H;have H':=zA H;clear H;go_enter Try.func72,Try.ntmps72;go_wp2
 go_loopg [11] k (fun kq v11 w'=>∃ (aA:Int),v11=.int .i64 aA∧Aside0 (impl_allIn.l0 kq a1 a2 l0 (l0.length:Int) aA=some r)∧Aside0 (kq≤k)∧Drawn0 w w')
 case atStart=>exact⟨(0),zr,H',⟨Nat.le_refl _⟩,by repeat (first|exact Drawn0.refl _|apply Drawn0.step)⟩
 case round =>
  clear H';obtain⟨aA,rfl,HA,HK1,⟨m1,rfl⟩⟩:=hrel
  cases gk with
  |zero=>exact absurd HA.out (by simp[impl_allIn.l0])
  |succ k1 =>
   have H:=HA.out;clear HA;simp only[impl_allIn.l0] at H
   by_cases c4:aA<(l0.length:Int)
   ·rw[if_pos c4] at H;have aU:=decide_eq_true c4;clear c4;obtain⟨aZ,H⟩:=zifD H;obtain⟨aY,H⟩:=zifD H;obtain⟨aQ,A7,H⟩:=zB H
    by_cases c8:aQ=true
    ·subst c8;rw[if_pos rfl] at H;have H':=zA H;clear H;have aT:=zT (0≤(aA:Int));have aR:=zT (aA<(l0.length:Int));obtain⟨aJ,aD,aH⟩:=Kd.at_int aN.out aA zd zd;cases aD
     go_wp2_with (first|((with_reducible refine zgf 54 rfl ?_);refine zgl 18 Try.func54 #[.int .i64 (rd l0 aA),.int .i64 a1,.int .i64 a2] ?_;(with_reducible refine(impl_InRange.calls (rd l0 aA) a1 a2 true _ A7.out).mono ?_);rintro e w' ⟨rfl,⟨nd,rfl⟩⟩;refine⟨_,rfl,?_⟩))
     go_roundg k1
     case measure=>have:=HK1.out;omega
     case rel=>exact⟨(wrap64 (aA+1)),zr,H',⟨by have:=HK1.out;omega⟩,by repeat (first|exact Drawn0.refl _|apply Drawn0.step)⟩
    ·replace c8:=Bool.eq_false_iff.mpr c8;subst c8;rw[if_neg zNo] at H;obtain rfl:=zI H;have aT:=zT (0≤(aA:Int));have aR:=zT (aA<(l0.length:Int));obtain⟨aJ,aD,aH⟩:=Kd.at_int aN.out aA zd zd;cases aD
     go_wp2_with (first|((with_reducible refine zgf 54 rfl ?_);refine zgl 18 Try.func54 #[.int .i64 (rd l0 aA),.int .i64 a1,.int .i64 a2] ?_;(with_reducible refine(impl_InRange.calls (rd l0 aA) a1 a2 false _ A7.out).mono ?_);rintro e w' ⟨rfl,⟨nd,rfl⟩⟩;refine⟨_,rfl,?_⟩))
     go_ret;exact⟨by first|rfl|(simp;done)|(simp[*];done),by repeat (first|exact Drawn0.refl _|apply Drawn0.step)⟩
   ·rw[if_neg c4] at H;have aU:=decide_eq_false c4;clear c4;obtain rfl:=zI H;go_wp2;go_ret;exact⟨by first|rfl|(simp;done)|(simp[*];done),by repeat (first|exact Drawn0.refl _|apply Drawn0.step)⟩

def impl_IsLand.f (k:Nat) (a0_0:Int) (a0_1:Int) (l0_2:List Int):Option (Bool):=(impl_InRange.f a0_0 1 8).bind fun t503=>(if t503=true then((impl_InRange.f a0_1 1 8).bind fun t504=>(if t504=true then(if (l0_2.length:Int)=(wrap64 (a0_0 * a0_1)) then((impl_allIn.f k l0_2 0 2).bind fun t505=>(some t505)) else(some false)) else(some false))) else(some false))
theorem impl_IsLand.calls (k:Nat) (aA:Int) (aD:Int) (aH:Option Addr) (aG:Nat) (aC:List Int) (r:Bool) (w:World) (aK:Kd.C (Kd.int .i64) w aH aC.length aC) (aM:aC.length≤aG) (h:impl_IsLand.f k aA aD aC=some r) :
  Calls Try.prog 57 #[.agg #[.int .i64 aA,.int .i64 aD,.slice aH aC.length aG]] w fun e w'=>e=.returned (.bool r)∧Below w.heap.size w w':=by
 have hu26:=Try.underlying26;have aR:=zA aK;have aT:=zA aM;clear aK aM;have HB:=zA (Below.refl w.heap.size w);have H:=h;clear h;unfold impl_IsLand.f at H;obtain⟨aX,A2,H⟩:=zB H
 by_cases c3:aX=true
 ·subst c3;rw[if_pos rfl] at H;obtain⟨aW,A4,H⟩:=zB H
  by_cases c5:aW=true
  ·subst c5;rw[if_pos rfl] at H
   by_cases c6:(aC.length:Int)=(wrap64 (aA * aD))
   ·rw[if_pos c6] at H;have aZ:((aC.length:Int)==(wrap64 (aA * aD)))=true:=beq_iff_eq.mpr c6;have aY:((aC.length:Int) != (wrap64 (aA * aD)))=false:=bne_eq_false_iff_eq.mpr c6;clear c6;obtain⟨aV,A7,H⟩:=zB H;obtain rfl:=zI H;go_enter Try.func57,Try.ntmps57
    go_wp2_with (first|((with_reducible refine zgd 1 rfl ?_);(try (refine gate_guard (by rfl) ?_;dsimp only));refine zbx 1 #[.int .i64 aA,.int .i64 aD,.slice aH aC.length aG] 26 ?_;intro aI hg w8 hbox hb;have aE:=zA hbox;have aJ:=zga (w:=w) hg;replace HB:=zbs hb;clear hb hbox hg;obtain⟨bY,bX,bW,bV,bU,bT⟩:=ze3 aE)|((with_reducible refine zgf 54 rfl ?_);refine zgl 5 Try.func54 #[.int .i64 aA,.int .i64 1,.int .i64 8] ?_;(with_reducible refine(impl_InRange.calls aA 1 8 true _ A2.out).mono ?_);rintro e w' ⟨rfl,⟨nd,rfl⟩⟩;refine⟨_,rfl,?_⟩)|(go_at_call 54;(with_reducible refine(impl_InRange.calls aD 1 8 true _ A4.out).mono ?_);rintro e w' ⟨rfl,⟨nd,rfl⟩⟩)|(go_at_call 72;(with_reducible refine(impl_allIn.calls k _ _ aC 0 2 aV _ ?s1 ?s2 A7.out).mono ?_);(case s1=>exact zCb aR);(case s2=>exact aT.out);rintro e w' ⟨rfl,⟨nd,rfl⟩⟩))
    go_ret;exact⟨zE,zb⟩
   ·rw[if_neg c6] at H;have aZ:((aC.length:Int)==(wrap64 (aA * aD)))=false:=beq_eq_false_iff_ne.mpr c6;have aY:((aC.length:Int) != (wrap64 (aA * aD)))=true:=bne_iff_ne.mpr c6;obtain rfl:=zI H;go_enter Try.func57,Try.ntmps57
    go_wp2_with (first|((with_reducible refine zgd 1 rfl ?_);(try (refine gate_guard (by rfl) ?_;dsimp only));refine zbx 1 #[.int .i64 aA,.int .i64 aD,.slice aH aC.length aG] 26 ?_;intro aI hg cC hbox hb;have aE:=zA hbox;have aJ:=zga (w:=w) hg;replace HB:=zbs hb;clear hb hbox hg;obtain⟨bS,bR,bQ,bJ,bI,bH⟩:=ze3 aE)|((with_reducible refine zgf 54 rfl ?_);refine zgl 5 Try.func54 #[.int .i64 aA,.int .i64 1,.int .i64 8] ?_;(with_reducible refine(impl_InRange.calls aA 1 8 true _ A2.out).mono ?_);rintro e w' ⟨rfl,⟨nd,rfl⟩⟩;refine⟨_,rfl,?_⟩)|(go_at_call 54;(with_reducible refine(impl_InRange.calls aD 1 8 true _ A4.out).mono ?_);rintro e w' ⟨rfl,⟨nd,rfl⟩⟩))
    go_ret;exact⟨zE,zb⟩
  ·replace c5:=Bool.eq_false_iff.mpr c5;subst c5;rw[if_neg zNo] at H;obtain rfl:=zI H;go_enter Try.func57,Try.ntmps57
   go_wp2_with (first|((with_reducible refine zgd 1 rfl ?_);(try (refine gate_guard (by rfl) ?_;dsimp only));refine zbx 1 #[.int .i64 aA,.int .i64 aD,.slice aH aC.length aG] 26 ?_;intro aI hg cB hbox hb;have aE:=zA hbox;have aJ:=zga (w:=w) hg;replace HB:=zbs hb;clear hb hbox hg;obtain⟨bP,bO,bN,bG,bF,bE⟩:=ze3 aE)|((with_reducible refine zgf 54 rfl ?_);refine zgl 5 Try.func54 #[.int .i64 aA,.int .i64 1,.int .i64 8] ?_;(with_reducible refine(impl_InRange.calls aA 1 8 true _ A2.out).mono ?_);rintro e w' ⟨rfl,⟨nd,rfl⟩⟩;refine⟨_,rfl,?_⟩)|(go_at_call 54;(with_reducible refine(impl_InRange.calls aD 1 8 false _ A4.out).mono ?_);rintro e w' ⟨rfl,⟨nd,rfl⟩⟩))
   go_ret;exact⟨zE,zb⟩
 ·replace c3:=Bool.eq_false_iff.mpr c3;subst c3;rw[if_neg zNo] at H;obtain rfl:=zI H;go_enter Try.func57,Try.ntmps57
  go_wp2_with (first|((with_reducible refine zgd 1 rfl ?_);(try (refine gate_guard (by rfl) ?_;dsimp only));refine zbx 1 #[.int .i64 aA,.int .i64 aD,.slice aH aC.length aG] 26 ?_;intro aI hg cA hbox hb;have aE:=zA hbox;have aJ:=zga (w:=w) hg;replace HB:=zbs hb;clear hb hbox hg;obtain⟨bM,bL,bK,bD,bC,bB⟩:=ze3 aE)|((with_reducible refine zgf 54 rfl ?_);refine zgl 5 Try.func54 #[.int .i64 aA,.int .i64 1,.int .i64 8] ?_;(with_reducible refine(impl_InRange.calls aA 1 8 false _ A2.out).mono ?_);rintro e w' ⟨rfl,⟨nd,rfl⟩⟩;refine⟨_,rfl,?_⟩))
  go_ret;exact⟨zE,zb⟩

def impl_IsCell.f (k:Nat) (a0_0:Int) (a0_1:Int) (l0_2:List Int) (a1:Int):Option (Bool):=(impl_IsLand.f k a0_0 a0_1 l0_2).bind fun t507=>(if t507=true then((impl_InRange.f a1 0 (wrap64 ((l0_2.length:Int)-1))).bind fun t508=>(some t508)) else(some false))
theorem impl_IsCell.calls (k:Nat) (aE:Int) (aD:Int) (aH:Option Addr) (aG:Nat) (aA:List Int) (a1:Int) (r:Bool) (w:World) (aI:Kd.C (Kd.int .i64) w aH aA.length aA) (aJ:aA.length≤aG) (h:impl_IsCell.f k aE aD aA a1=some r) :
  Calls Try.prog 35 #[.agg #[.int .i64 aE,.int .i64 aD,.slice aH aA.length aG],.int .i64 a1] w fun e w'=>e=.returned (.bool r)∧Below w.heap.size w w':=by
 have hu26:=Try.underlying26;have aK:=zA aI;have aM:=zA aJ;clear aI aJ;have HB:=zA (Below.refl w.heap.size w);have H:=h;clear h;unfold impl_IsCell.f at H;obtain⟨aU,A3,H⟩:=zB H
 by_cases c4:aU=true
 ·subst c4;rw[if_pos rfl] at H;obtain⟨aT,A5,H⟩:=zB H;obtain rfl:=zI H;go_enter Try.func35,Try.ntmps35
  go_wp2_with (first|((with_reducible refine zgd 2 rfl ?_);(try (refine gate_guard (by rfl) ?_;dsimp only));refine zbx 2 #[.int .i64 aE,.int .i64 aD,.slice aH aA.length aG] 26 ?_;intro aN hg w6 hbox hb;have aC:=zA hbox;have aR:=zga (w:=w) hg;replace HB:=zbs hb;clear hb hbox hg;obtain⟨bN,bM,bL,bH,bG,bF⟩:=ze3 aC)|((with_reducible refine zgf 57 rfl ?_);refine zgl 6 Try.func57 #[.agg #[.int .i64 aE,.int .i64 aD,.slice aH aA.length aG]] ?_;(with_reducible refine(impl_IsLand.calls k aE aD _ _ aA true _ ?s1 ?s2 A3.out).mono ?_);(case s1=>exact zCb aK);(case s2=>exact aM.out);rintro e w8 ⟨rfl,hb⟩;refine⟨_,rfl,?_⟩;replace aC:=zkb aC hb;replace HB:=zbs hb;(try clear hb);obtain⟨bK,bJ,bI,bE,bD,bC⟩:=ze3 aC)|(go_at_call 54;(with_reducible refine(impl_InRange.calls a1 0 (wrap64 ((aA.length:Int)-1)) aT _ A5.out).mono ?_);rintro e w' ⟨rfl,⟨nd,rfl⟩⟩))
  go_ret;exact⟨zE,zb⟩
 ·replace c4:=Bool.eq_false_iff.mpr c4;subst c4;rw[if_neg zNo] at H;obtain rfl:=zI H;go_enter Try.func35,Try.ntmps35
  go_wp2_with (first|((with_reducible refine zgd 2 rfl ?_);(try (refine gate_guard (by rfl) ?_;dsimp only));refine zbx 2 #[.int .i64 aE,.int .i64 aD,.slice aH aA.length aG] 26 ?_;intro aN hg bR hbox hb;have aC:=zA hbox;have aR:=zga (w:=w) hg;replace HB:=zbs hb;clear hb hbox hg;obtain⟨bB,bA,aZ,aY,aX,aW⟩:=ze3 aC)|((with_reducible refine zgf 57 rfl ?_);refine zgl 6 Try.func57 #[.agg #[.int .i64 aE,.int .i64 aD,.slice aH aA.length aG]] ?_;(with_reducible refine(impl_IsLand.calls k aE aD _ _ aA false _ ?s1 ?s2 A3.out).mono ?_);(case s1=>exact zCb aK);(case s2=>exact aM.out);rintro e bQ ⟨rfl,hb⟩;refine⟨_,rfl,?_⟩;replace aC:=zkb aC hb;replace HB:=zbs hb;(try clear hb)))
  go_ret;exact⟨zE,zb⟩

def impl_IsOpen.f (k:Nat) (a0_0:Int) (a0_1:Int) (l0_2:List Int) (a1:Int):Option (Bool):=(impl_IsCell.f k a0_0 a0_1 l0_2 a1).bind fun t510=>(if t510=true then(if 0≤a1 then(if a1<(l0_2.length:Int) then(some ((rd l0_2 a1) != 2)) else(none)) else(none)) else(some false))
theorem impl_IsOpen.calls (k:Nat) (aE:Int) (aD:Int) (aH:Option Addr) (aG:Nat) (aA:List Int) (a1:Int) (r:Bool) (w:World) (aM:Kd.C (Kd.int .i64) w aH aA.length aA) (aN:aA.length≤aG) (h:impl_IsOpen.f k aE aD aA a1=some r) :
  Calls Try.prog 36 #[.agg #[.int .i64 aE,.int .i64 aD,.slice aH aA.length aG],.int .i64 a1] w fun e w'=>e=.returned (.bool r)∧Below w.heap.size w w':=by
 have hu26:=Try.underlying26;have aK:=zA aM;have aQ:=zA aN;clear aM aN;have HB:=zA (Below.refl w.heap.size w);have H:=h;clear h;unfold impl_IsOpen.f at H;obtain⟨aV,A3,H⟩:=zB H
 by_cases c4:aV=true
 ·subst c4;rw[if_pos rfl] at H;obtain⟨bU,H⟩:=zifD H;obtain⟨bT,H⟩:=zifD H;obtain rfl:=zI H;go_enter Try.func36,Try.ntmps36
  go_wp2_with (first|((with_reducible refine zgd 2 rfl ?_);refine zbx 2 #[.int .i64 aE,.int .i64 aD,.slice aH aA.length aG] 26 ?_;intro aR hg w7 hbox hb;have aC:=zA hbox;have aU:=zga (w:=w) hg;replace HB:=zbs hb;clear hb hbox hg;obtain⟨bO,bN,bM,bL,bK,bJ⟩:=ze3 aC)|((with_reducible refine zgf 35 rfl ?_);refine zgl 7 Try.func35 #[.agg #[.int .i64 aE,.int .i64 aD,.slice aH aA.length aG],.int .i64 a1] ?_;(with_reducible refine(impl_IsCell.calls k aE aD _ _ aA a1 true _ ?s1 ?s2 A3.out).mono ?_);(case s1=>exact zCb aK);(case s2=>exact aQ.out);rintro e w9 ⟨rfl,hb⟩;refine⟨_,rfl,?_⟩;replace aC:=zkb aC hb;replace HB:=zbs hb;(try clear hb);obtain⟨bI,bH,bG,bC,bB,bA⟩:=ze3 aC;have bS:=zT (0≤(a1:Int));have bR:=zT (a1<(aA.length:Int));obtain⟨bQ,aW,aI⟩:=Kd.at_int aK.out a1 zd zd;cases aW;replace aI:=zC HB aI))
  go_ret;exact⟨zE,zb⟩
 ·replace c4:=Bool.eq_false_iff.mpr c4;subst c4;rw[if_neg zNo] at H;obtain rfl:=zI H;go_enter Try.func36,Try.ntmps36
  go_wp2_with (first|((with_reducible refine zgd 2 rfl ?_);refine zbx 2 #[.int .i64 aE,.int .i64 aD,.slice aH aA.length aG] 26 ?_;intro aR hg bW hbox hb;have aC:=zA hbox;have aU:=zga (w:=w) hg;replace HB:=zbs hb;clear hb hbox hg;obtain⟨bF,bE,bD,aZ,aY,aX⟩:=ze3 aC)|((with_reducible refine zgf 35 rfl ?_);refine zgl 7 Try.func35 #[.agg #[.int .i64 aE,.int .i64 aD,.slice aH aA.length aG],.int .i64 a1] ?_;(with_reducible refine(impl_IsCell.calls k aE aD _ _ aA a1 false _ ?s1 ?s2 A3.out).mono ?_);(case s1=>exact zCb aK);(case s2=>exact aQ.out);rintro e bV ⟨rfl,hb⟩;refine⟨_,rfl,?_⟩;replace aC:=zkb aC hb;replace HB:=zbs hb;(try clear hb)))
  go_ret;exact⟨zE,zb⟩

def impl_size.f (a0:Int):Option (Int):=some (mx a0 (wrap64 (-a0)))
theorem impl_size.calls (a0:Int) (r:Int) (w:World) (h:impl_size.f a0=some r) :
  Calls Try.prog 58 #[.int .i64 a0] w fun e w'=>e=.returned (.int .i64 r)∧Below w.heap.size w w':=by
 have HB:=zA (Below.refl w.heap.size w);have H:=h;clear h;unfold impl_size.f at H;obtain⟨aD,aA⟩:∃ j_:Int,(mx a0 (wrap64 (-a0)))=j_:=⟨_,rfl⟩
 replace H:(some aD)=some r:=by first|(rw[aA] at H;exact H)|(simp only[aA] at H ⊢;exact H)
 have aE:(if a0<(wrap64 (-a0)) then(wrap64 (-a0)) else a0)=aD:=aA;obtain rfl:=zI H;go_enter Try.func58,Try.ntmps58;go_wp2;go_ret;exact⟨by first|rfl|(simp[errW_none,errW_some] <;> rfl)|(simp only[←aA];first|rfl|(simp[errW_none,errW_some] <;> rfl))|(simp[*,errW_none,errW_some] <;> rfl),zb⟩

def impl_Apart.j0:Nat→Int→Int→Bool→Int→Int→List Int→Option (Int)
  |0,_,_,_,_,_,_=>none
  |k+1,x1,x2,x16,x513000,x513001,x513002=>if x16=true then(some (-1)) else(if x513000=0 then(none) else((impl_size.f (wrap64 ((Int.tmod x1 x513000)-(Int.tmod x2 x513000)))).bind fun t515=>((impl_size.f (wrap64 ((wrap64 (Int.tdiv x1 x513000))-(wrap64 (Int.tdiv x2 x513000))))).bind fun t516=>(some (wrap64 (t515+t516))))))
def impl_Apart.f (k:Nat) (a0_0:Int) (a0_1:Int) (l0_2:List Int) (a1:Int) (a2:Int):Option (Int):=(impl_IsCell.f k a0_0 a0_1 l0_2 a1).bind fun t513=>(if t513=true then((impl_IsCell.f k a0_0 a0_1 l0_2 a2).bind fun t514=>(impl_Apart.j0 k a1 a2 (!t514) a0_0 a0_1 l0_2)) else(impl_Apart.j0 k a1 a2 true a0_0 a0_1 l0_2))
def impl_Apart.T3:Bool × List (List Nat × List Nat):=(true,[([],[]),([],[]),([1],[1]),([0,2],[0,2]),([],[]),([],[]),([5],[5]),([4,6],[4,6]),([3,7],[3,7]),([8],[8]),([],[]),([],[]),([11],[11]),([10,12],[10,12]),([],[]),([],[]),([15],[15]),([14,16],[14,16]),([13,17],[13,17]),([18,9],[18]),([9,19],[9,19]),([20,19,0,1,2,3,4,5,6,7,8,9,10,11,12,13,14,15,16,17,18,19,20],[20])])
def impl_Apart.B3:List Nat:=[0,0,2,7,0,0,32,112,255,511,0,0,2048,7168,0,0,32768,114688,261120,524287,1048575,2097151]
theorem impl_Apart.tab3:rtab .any (opsOf Try.f37 3)=impl_Apart.T3:=by kernel_rfl
theorem impl_Apart.bits3:waitsOk impl_Apart.T3.2 impl_Apart.B3=true:=by kernel_rfl
theorem impl_Apart.calls (k:Nat) (aC:Int) (aE:Int) (aH:Option Addr) (aG:Nat) (aD:List Int) (a1:Int) (a2:Int) (r:Int) (w:World) (aR:Kd.C (Kd.int .i64) w aH aD.length aD) (aT:aD.length≤aG) (h:impl_Apart.f k aC aE aD a1 a2=some r) :
  Calls Try.prog 37 #[.agg #[.int .i64 aC,.int .i64 aE,.slice aH aD.length aG],.int .i64 a1,.int .i64 a2] w fun e w'=>e=.returned (.int .i64 r)∧Below w.heap.size w w':=by
 have hu26:=Try.underlying26;have aM:=zA aR;have aN:=zA aT;clear aR aT;have HB:=zA (Below.refl w.heap.size w);have H:=h;clear h;unfold impl_Apart.f at H;have bP:=zA H;clear H;go_enter Try.func37,Try.ntmps37
 go_upto_region 1 with (first|((with_reducible refine zgd 3 rfl ?_);refine zbx 3 #[.int .i64 aC,.int .i64 aE,.slice aH aD.length aG] 26 ?_;intro aJ hg w5 hbox hb;have aA:=zA hbox;have bY:=zga (w:=w) hg;replace HB:=zbs hb;clear hb hbox hg))
 (try simp only[Act.put,List.setIfInBounds_toArray,List.set_cons_zero,List.set_cons_succ])
 go_cut [16] (fun v16 wc=>∃ (kq:Nat) (aI:Bool),v16=.bool aI∧Aside0 (impl_Apart.j0 kq a1 a2 aI aC aE aD=some r)∧Aside0 (kq≤k)∧Aside0 (wc.heap[aJ]?=some (.cells #[.int .i64 aC,.int .i64 aE,(.slice aH aD.length aG)] 26 (0,0)))∧Aside0 (Below w.heap.size w wc))
 case first =>
  have H:=bP.out;clear bP;obtain⟨bS,A6,H⟩:=zB H
  by_cases c7:bS=true
  ·subst c7;rw[if_pos rfl] at H;obtain⟨bH,A8,H⟩:=zB H;have H':=zA H;clear H;obtain⟨bN,bM,bL,bK,bJ,bI⟩:=ze3 aA
   go_wp2_with (first|((with_reducible refine zgf 35 rfl ?_);refine zgl 9 Try.func35 #[.agg #[.int .i64 aC,.int .i64 aE,.slice aH aD.length aG],.int .i64 a1] ?_;(with_reducible refine(impl_IsCell.calls k aC aE _ _ aD a1 true _ ?s1 ?s2 A6.out).mono ?_);(case s1=>exact zCb aM);(case s2=>exact aN.out);rintro e cF ⟨rfl,hb⟩;refine⟨_,rfl,?_⟩;replace aA:=zkb aA hb;replace HB:=zbs hb;(try clear hb);obtain⟨bG,bF,bE,bA,aZ,aY⟩:=ze3 aA)|(go_at_call 35;(with_reducible refine(impl_IsCell.calls k aC aE _ _ aD a2 bH _ ?s1 ?s2 A8.out).mono ?_);(case s1=>exact zCb aM);(case s2=>exact aN.out);rintro e cE ⟨rfl,hb⟩;replace aA:=zkb aA hb;replace HB:=zbs hb;(try clear hb)))
   go_meet
   case rel=>exact⟨_,(!bH),zr,H',⟨by first|omega|exact Nat.le_refl _⟩,⟨zk aA⟩,⟨zb⟩⟩
  ·replace c7:=Bool.eq_false_iff.mpr c7;subst c7;rw[if_neg zNo] at H;have H':=zA H;clear H;obtain⟨bD,bC,bB,aX,aW,aV⟩:=ze3 aA
   go_wp2_with (first|((with_reducible refine zgf 35 rfl ?_);refine zgl 9 Try.func35 #[.agg #[.int .i64 aC,.int .i64 aE,.slice aH aD.length aG],.int .i64 a1] ?_;(with_reducible refine(impl_IsCell.calls k aC aE _ _ aD a1 false _ ?s1 ?s2 A6.out).mono ?_);(case s1=>exact zCb aM);(case s2=>exact aN.out);rintro e cD ⟨rfl,hb⟩;refine⟨_,rfl,?_⟩;replace aA:=zkb aA hb;replace HB:=zbs hb;(try clear hb)))
   go_meet
   case rel=>exact⟨_,(true),zr,H',⟨by first|omega|exact Nat.le_refl _⟩,⟨zk aA⟩,⟨zb⟩⟩
 case rest =>
  clear bP;(try clear c7);(try clear bG);(try clear bF);(try clear bE);(try clear bD);(try clear bC);(try clear bB);(try clear bN);(try clear bM);(try clear bL);(try clear bA);(try clear aZ);(try clear aY);(try clear aX);(try clear aW);(try clear aV);(try clear bK);(try clear bJ);(try clear bI);obtain⟨kq,aI,rfl,HA,HJ3,aA,HB⟩:=hcut;cases kq with
  |zero=>exact absurd HA.out (by simp[impl_Apart.j0])
  |succ kj3 =>
   have H:=HA.out;clear HA;simp only[impl_Apart.j0] at H
   by_cases aU:aI=true
   ·subst aU;rw[if_pos rfl] at H;obtain rfl:=zI H;go_wp2;go_ret;exact⟨zE,zb⟩
   ·replace aU:=Bool.eq_false_iff.mpr aU;subst aU;rw[if_neg zNo] at H
    by_cases c16:aC=0
    ·rw[if_pos c16] at H;exact absurd H (by simp)
    ·rw[if_neg c16] at H;have bX:(aC==0)=false:=beq_eq_false_iff_ne.mpr c16;have bW:(aC != 0)=true:=bne_iff_ne.mpr c16;obtain⟨bR,bV,H⟩:=zB H;obtain⟨bQ,bU,H⟩:=zB H;obtain rfl:=zI H
     try go_wp2
     replace aA:=zA (blk_drew aA.out);replace HB:=zA (below_drew1 HB.out);refine start_ (n:=22) (S:=fun w'=>w'.cell? ⟨aJ,0,none⟩=some (.int .i64 aC)∧w'.cell? ⟨aJ,1,none⟩=some (.int .i64 aE)∧w'.cell? ⟨aJ,2,none⟩=some (.slice aH aD.length aG)) (ds:=[]) _ (by kernel_rfl) rfl rfl ⟨zq aA 0,zq aA 1,zq aA 2⟩ (fun hHeld=>?_);refine with_tabW impl_Apart.tab3 impl_Apart.bits3 (fun HT_ HW_=>?_);generalize wc.drew=cC at aA HB hHeld ⊢;refine zp 0 17 HT_ ?_;refine zp 1 18 HT_ ?_;refine zp 4 21 HT_ ?_;refine zp 5 22 HT_ ?_;refine zp 10 27 HT_ ?_;refine zp 11 28 HT_ ?_;refine zp 14 31 HT_ ?_;refine zp 15 32 HT_ ?_;refine zt 2 19 HT_ HW_ hHeld ?_;refine zp 3 20 HT_ ?_;refine zt 6 23 HT_ HW_ hHeld ?_;refine zp 7 24 HT_ ?_;refine zp 8 25 HT_ ?_;refine zt 12 29 HT_ HW_ hHeld ?_;refine zp 13 30 HT_ ?_;refine zt 16 33 HT_ HW_ hHeld ?_;refine zp 17 34 HT_ ?_;refine zp 18 35 HT_ ?_;refine zo 9 26 HT_ (fun K hK=>?_);refine zgo Try.func58 #[.int .i64 (wrap64 ((Int.tmod a1 aC)-(Int.tmod a2 aC)))] ?_
     with_reducible refine(impl_size.calls (wrap64 ((Int.tmod a1 aC)-(Int.tmod a2 aC))) bR _ bV.out).mono ?_
     rintro e cB ⟨rfl,hb⟩;refine⟨_,rfl,?_⟩;replace aA:=zkb aA hb;replace HB:=zbs hb;(try clear hb);refine hK.out _ _ ⟨zq aA 0,zq aA 1,zq aA 2⟩ (fun hHeld=>?_);clear hK K;refine norm_ zV ?_;refine zo 19 36 HT_ (fun K hK=>?_);refine zgo Try.func58 #[.int .i64 (wrap64 ((wrap64 (Int.tdiv a1 aC))-(wrap64 (Int.tdiv a2 aC))))] ?_
     with_reducible refine(impl_size.calls (wrap64 ((wrap64 (Int.tdiv a1 aC))-(wrap64 (Int.tdiv a2 aC)))) bQ _ bU.out).mono ?_
     rintro e cA ⟨rfl,hb⟩;refine⟨_,rfl,?_⟩;replace aA:=zkb aA hb;replace HB:=zbs hb;(try clear hb);refine hK.out _ _ ⟨zq aA 0,zq aA 1,zq aA 2⟩ (fun hHeld=>?_);clear hK K;refine norm_ zV ?_;refine zp 20 37 HT_ ?_;refine zp 21 6 HT_ ?_;refine done_ (done_of HT_.out (by kernel_rfl)) ?_
     try go_wp2
     go_ret;exact⟨zE,zb⟩

/-! #### clear within a row of the call's own; a slice of a row, read in the row itself -/
def rs (x0 x4:List Int) (i:Int):Int:=rd x0 ((x0.length:Int)-(x4.length:Int)+i)
theorem rs_cell {w:World} {e base n c m L:Nat} {ok:Nat→Prop} {ad:Addr} {A:Option Addr} {x0 y:List Int} (HO:Kd.R (Kd.int .i64) e w base ok (.slice (some ad) n c) x0)
  (hA:A=if c=m then some ad else((some ad):Option Addr).map (·.add (m * 1))) (hy:y.length=L-m) (hL:L=x0.length) (hm:m≤L) (i:Int) (h0:0≤i) (hi:i<(y.length:Int)) :
  ∃ ad',A=some ad'∧w.cell? (ad'.add i.toNat)=some (.int .i64 (rs x0 y i)):=by
 obtain⟨hn,hc,hC⟩:=Kd.R_reads' HO
 obtain⟨ad2,e2,hx⟩:=Kd.at_int hC ((m:Int)+i) (by omega) (by omega)
 injection e2 with e2
 subst e2
 refine⟨ad.add m,?_,?_⟩
 ·rw[hA,if_neg (by omega)];simp
 ·rw[Addr.add_add,show m+i.toNat=((m:Int)+i).toNat by omega,hx]
  unfold rs
  rw[show (x0.length:Int)-(y.length:Int)+i=(m:Int)+i by omega]
def putAllC:Nat→List Int→List Int→List Int
  |_,[],y=>y
  |o,v :: r,y=>putAllC (o+1) r (y.set o v)
theorem putAllC_eq:∀ (vs:List Int) (o:Nat) (y:List Int),o+vs.length≤y.length→putAllC o vs y=y.take o++vs++y.drop (o+vs.length)
  |[],o,y,h=>by simp[putAllC]
  |v :: r,o,y,h=>by
    simp only[List.length_cons] at h
    rw[putAllC,putAllC_eq r (o+1) (y.set o v) (by simp;omega)]
    rw[List.take_set,List.drop_set]
    have h1:o<y.length:=by omega
    rw[if_pos (by omega),List.take_succ_eq_append_getElem h1,List.length_cons,show o+1+r.length=o+(r.length+1) by omega]
    congr 1
    rw[List.set_append_right _ _ (by simp;omega)]
    simp[Nat.min_eq_left (Nat.le_of_lt h1)]
theorem setCells_R {e base g n cap:Nat} {ok:Nat→Prop}:∀ (vs:List Int) (o:Nat) (W:World) (xs:List Int),(Kd.int .i64).R e W base ok (.slice (some ⟨g,0,none⟩) n cap) xs →
    (Kd.int .i64).R e (W.setCells g o (vs.map (Value.int .i64))) base ok (.slice (some ⟨g,0,none⟩) n cap) (putAllC o vs xs)∧W.grownBy (W.setCells g o (vs.map (Value.int .i64))) (some g)
  |[],o,W,xs,h=>⟨h,World.grownBy.refl _ _⟩
  |v :: r,o,W,xs,h=>by
    obtain⟨h1,h2⟩:=Kd.R_putg h (o:Int) v
    rw[Int.toNat_natCast] at h1 h2
    obtain⟨h3,h4⟩:=setCells_R r (o+1) _ _ h1
    exact⟨h3,h2.trans h4⟩
theorem run_clearS {P:Program} {W:World} {t e ty:TypeId} {base n cap:Nat} {ok:Nat→Prop} {xs:List Int} {ad:Addr} (ht:P.underlying t=some (.slice e)) (hz:∀ w,(zeroValue e).run P w=.ok (.int .i64 0) w)
  (h:(Kd.int .i64).R e W base ok (.slice (some ad) n cap) xs) (k:Nat) (hk:k≤xs.length) (A:Option Addr) (hA:k<xs.length→A=some (ad.add k)) (c:Nat) :
  ∃ W1,(Builtin.clear_ #[t] ty #[.slice A (xs.length-k) c]).run P W=.ok (.tuple #[]) W1∧(Kd.int .i64).R e W1 base ok (.slice (some ad) n cap) (xs.take k++List.replicate (xs.length-k) 0)∧W.grownBy W1 (Value.slice (some ad) n cap).ownBlock:=by
 by_cases hlt:k<xs.length
 ·obtain⟨g,cap',hv,_,_,_⟩:=Kd.R_form h (by omega)
  injection hv with h1 h2 h3
  injection h1 with h1
  subst h1
  obtain rfl:=hA hlt
  obtain⟨hn,hc,_⟩:=Kd.R_reads' h
  have hr:=Lib.run_clear_slice (P:=P) W t e ty (.int .i64 0) ht hz rfl rfl g k (xs.length-k) c (by omega)
   (fun j hj=>by
    have h2:=(Kd.R_celln 0 h ((k+j:Nat):Int) (by omega) (by omega)).1
    rw[Int.toNat_natCast] at h2
    rw[h2];rfl)
   (fun j hj=>by
    have h2:=(Kd.R_celln 0 h ((k+j:Nat):Int) (by omega) (by omega)).2
    rwa [Int.toNat_natCast] at h2)
  obtain⟨h3,h4⟩:=setCells_R (List.replicate (xs.length-k) 0) k W xs h
  rw[List.map_replicate] at h3 h4
  rw[add_plain]
  refine⟨_,hr,?_,h4⟩
  have e0:xs.drop (k+(xs.length-k))=[]:=List.drop_eq_nil_of_le (by omega)
  rw[putAllC_eq _ _ _ (by rw[List.length_replicate];omega),List.length_replicate,e0,List.append_nil] at h3
  exact h3
 ·have e1:xs.length-k=0:=by omega
  refine⟨W,?_,?_,World.grownBy.refl _ _⟩
  ·rw[e1]
   cases A <;> simp[Builtin.clear_,run_underlying ht]
  ·rw[e1,List.replicate_zero,List.append_nil,List.take_of_length_le (by omega)]
   exact h
theorem drop_at {P:Program} (t e:TypeId) {i:TypeInfo} (ht:P.underlying t=some (.slice e)) (hi:P.info? e=some i) (hsz:i.size=1) (ad:Addr) (n c:Nat) (j:Int) (h0:0≤j) (hm:j≤n) (hc:n≤c) :
  ∃ A':Option Addr,(∀ W:World,(Instr.slice t (.slice (some ad) n c) (some (.int .i64 j)) none none).run P W=.ok (.slice A' (n-j.toNat) (c-j.toNat)) W)∧(j<n→A'=some (ad.add j.toNat)):=by
 have hel:P.elem t=e:=by simp[Program.elem,ht]
 have hu:P.underlying t=some (.slice (P.elem t)):=by rw[hel];exact ht
 refine⟨if c=j.toNat then some ad else some (ad.add j.toNat),fun W=>?_,fun h=>?_⟩
 ·rw[run_slice_l W t _ n c hu .i64 j h0 (by omega),hel]
  simp[sizeOf,typeInfo,hi,hsz,sliced,Result.andThen]
 ·rw[if_neg (by omega)]
theorem clear_step {P:Program} {ops:Array Oper} {rest:List Oper} {o:Oper} {a:Act} {Q:Exit→Act→World→Prop} {W W1:World} {t ty:TypeId} {u:Value} (hr:(Builtin.clear_ #[t] ty #[u]).run P W=.ok (.tuple #[]) W1) (s:Operand)
  (hgd:o.guard=none) (hty:o.type=ty) (ho:o.op=.call { callee:=.builtin .clear,args:=#[s],argTypes:=#[t] }) (hd:o.dst=none) (hs:a.eval s=u)
  (h:wpList P ops Q rest a W1):wpList P ops Q (o :: rest) a W:=by
 refine wpList_plain hgd fun K hK=>?_
 subst hty
 unfold Oper.wp execOp
 simp only[ho,resolve,invoke,builtin,Sem.run_bind,Sem.run_pure,Result.andThen_ok,List.map_toArray,List.map_cons,List.map_nil,hs,hr]
 refine hK _ _ ?_
 rw[hd]
 exact h
theorem growB {w0 W W1:World} {row:Option Nat} (HB:Below w0.heap.size w0 W) (g:W.grownBy W1 row) (hr:∀ k,row=some k→w0.heap.size≤k):Below w0.heap.size w0 W1:=HB.grown g HB.size hr
theorem take_zero_ (xs:List Int) (k m:Nat) (h:k≤xs.length):(xs.take k++List.replicate m 0).take k=xs.take k:=by
 rw[List.take_append_of_le_length (by rw[List.length_take];omega),List.take_take,Nat.min_self]
theorem zero3 (w:World):(zeroValue 3).run Try.prog w=.ok (.int .i64 0) w:=by kernel_rfl
mutual
def slices_Compact_int_int.l0:Nat→List Int→Int→Option (List Int)
  |0,_,_=>none
  |k+1,x0,x3=>if x3<(x0.length:Int) then(if 0≤x3 then(if 0≤(wrap64 (x3-1)) then(if (wrap64 (x3-1))<(x0.length:Int) then(if (rd x0 x3)=(rd x0 (wrap64 (x3-1))) then(if x3≤(x0.length:Int) then(slices_Compact_int_int.l1 k x0 x3 (x0.drop (x3:Int).toNat) 1) else(none)) else(slices_Compact_int_int.l0 k x0 (wrap64 (x3+1)))) else(none)) else(none)) else(none)) else(some x0)
def slices_Compact_int_int.l1:Nat→List Int→Int→List Int→Int→Option (List Int)
  |0,_,_,_,_=>none
  |k+1,x0,x3,x4,x5=>if x5<(x4.length:Int) then(if 0≤x5 then(if 0≤(wrap64 (x5-1)) then(if (wrap64 (x5-1))<(x4.length:Int) then(if (rs x0 x4 x5)=(rs x0 x4 (wrap64 (x5-1))) then(slices_Compact_int_int.l1 k x0 x3 x4 (wrap64 (x5+1))) else(if 0≤x3 then(if x3<(x0.length:Int) then(slices_Compact_int_int.l1 k (x0.set (x3:Int).toNat (rs x0 x4 x5)) (wrap64 (x3+1)) x4 (wrap64 (x5+1))) else(none)) else(none))) else(none)) else(none)) else(none)) else(if 0≤x3 then(if x3≤(x0.length:Int) then(some (x0.take (x3:Int).toNat)) else(none)) else(none))
end
def slices_Compact_int_int.f (k:Nat) (l0:List Int):Option (List Int):=if (l0.length:Int)<2 then(some l0) else(slices_Compact_int_int.l0 k l0 1)
theorem slices_Compact_int_int.calls (k:Nat) (P0_:Nat→Prop) (u9000_:Value) (l0:List Int) (r:List Int) (w0 w:World) (hB:Below w0.heap.size w0 w) (ho0:Kd.R (Kd.int .i64) 3 w w0.heap.size P0_ u9000_ l0) (h:slices_Compact_int_int.f k l0=some r) :
  Calls Try.prog 38 #[u9000_] w fun e w'=>∃ v0_:Value,e=.returned (v0_)∧Kd.R (Kd.int .i64) 3 w' w0.heap.size (fun k_=>(P0_ k_∨w.heap.size≤k_)) v0_ r∧Below w0.heap.size w0 w'∧Kept w w' (fun k_=>P0_ k_):=by
 have aZ:=zA (show Kd.R (Kd.int .i64) 3 w w0.heap.size (fun k_=>(P0_ k_∨w.heap.size≤k_)) u9000_ l0 from Kd.R_mono ho0 (fun k_ hk=>(.inl hk)))
 have HK:=zA (Kept.refl w (fun k_=>P0_ k_))
 have HW0:=zA hB.size
 have HB:=zA hB
 clear hB
 have H:(if (l0.length:Int)<2 then(some l0) else(slices_Compact_int_int.l0 k l0 1))=some r:=h
 clear h
 by_cases c2:(l0.length:Int)<2
 ·rw[if_pos c2] at H
  have aX:decide ((l0.length:Int)<2)=true:=decide_eq_true c2
  have c2b1:decide (l0.length<2)=true:=decide_eq_true (by omega)
  clear c2
  obtain rfl:=zI H
  obtain⟨Ao3,co3,eo3⟩:=Kd.R_slice aZ.out
  subst eo3
  go_enter Try.func38,Try.ntmps38
  go_wp2
  repeat (go_quiet (fail);try go_wp2)
  go_ret
  exact⟨_,zE,by(with_reducible repeat (first|apply Kd.R_alloc|apply Kd.R_drewN|apply Kd.R_drew));exact aZ.out,by repeat (first|(with_reducible first|exact HB.out|apply below_alloc|apply pw_below_drewN|apply below_drew1)|exact HB.out),by repeat (first|(with_reducible first|exact HK.out|apply Kept.alloc|apply Kept.drewN|apply Kept.drew)|exact HK.out)⟩
 ·rw[if_neg c2] at H
  have aX:decide ((l0.length:Int)<2)=false:=decide_eq_false c2
  have c2b1:decide (l0.length<2)=false:=decide_eq_false (by omega)
  clear c2
  have H':=zA H
  clear H
  obtain⟨Ao4,aQ,eo4⟩:=Kd.R_slice aZ.out
  subst eo4
  go_enter Try.func38,Try.ntmps38
  go_wp2
  repeat (go_quiet (fail);try go_wp2)
  go_loopg [3] k (fun kq v3 w'=>∃ (aC:List Int) (aD:Int),v3=.int .i64 aD∧Aside0 (slices_Compact_int_int.l0 kq aC aD=some r)∧Aside0 (kq≤k)∧Aside0 (Kd.R (Kd.int .i64) 3 w' w0.heap.size (fun k_=>(P0_ k_∨w.heap.size≤k_)) (.slice Ao4 l0.length aQ) aC)∧Aside0 (Kept w w' (fun k_=>P0_ k_))∧Aside0 (Below w0.heap.size w0 w'))
  case atStart=>exact⟨(l0),(1),(by first|rfl|(simp;done)|(simp[*];done)),H',⟨Nat.le_refl _⟩,⟨by(with_reducible repeat (first|apply Kd.R_alloc|apply Kd.R_drewN|apply Kd.R_drew));exact aZ.out⟩,⟨by repeat (first|(with_reducible first|exact HK.out|apply Kept.alloc|apply Kept.drewN|apply Kept.drew)|exact HK.out)⟩,⟨by repeat (first|(with_reducible first|exact HB.out|apply below_alloc|apply pw_below_drewN|apply below_drew1)|exact HB.out)⟩⟩
  case round =>
   clear H'
   try clear c2
   try clear aX
   try clear c2b1
   try clear p2
   obtain⟨aC,aD,rfl,HA,HK1,aA,HK,HB⟩:=hrel
   have hl0_1:=(Kd.R_reads' aA.out).1
   rw[hl0_1] at aA
   (try simp only[hl0_1])
   cases gk with
   |zero=>exact absurd HA.out (by simp[slices_Compact_int_int.l0])
   |succ k1 =>
    have H:=HA.out
    clear HA
    simp only[slices_Compact_int_int.l0] at H
    by_cases c5:aD<(aC.length:Int)
    ·rw[if_pos c5] at H
     have bD:decide (aD<(aC.length:Int))=true:=decide_eq_true c5
     clear c5
     by_cases c6:0≤aD
     ·rw[if_pos c6] at H
      have c6b0:decide (0≤aD)=true:=decide_eq_true c6
      clear c6
      obtain⟨aK,hji7⟩:∃ j_:Int,(wrap64 (aD-1))=j_:=⟨_,rfl⟩
      replace H:(if 0≤(aK) then(if (aK)<(aC.length:Int) then(if (rd aC aD)=(rd aC (aK)) then(if aD≤(aC.length:Int) then(slices_Compact_int_int.l1 k1 aC aD (aC.drop (aD:Int).toNat) 1) else(none)) else(slices_Compact_int_int.l0 k1 aC (wrap64 (aD+1)))) else(none)) else(none))=some r:=by first|(rw[hji7] at H;exact H)|(simp only[hji7] at H ⊢;exact H)
      have bJ:(IntKind.i64.wrap (aD-1))=aK:=(i64_w _).trans hji7
      by_cases c8:0≤(aK)
      ·rw[if_pos c8] at H
       have c8b0:decide (0≤(aK))=true:=decide_eq_true c8
       clear c8
       by_cases c9:(aK)<(aC.length:Int)
       ·rw[if_pos c9] at H
        have c9b0:decide ((aK)<(aC.length:Int))=true:=decide_eq_true c9
        clear c9
        by_cases c10:(rd aC aD)=(rd aC (aK))
        ·rw[if_pos c10] at H
         have aY:((rd aC aD)==(rd aC (aK)))=true:=beq_iff_eq.mpr c10
         have c10b1:((rd aC aD) != (rd aC (aK)))=false:=bne_eq_false_iff_eq.mpr c10
         clear c10
         have c11b0:=eq_true (of_decide_eq_true (by first|(with_reducible assumption)|assumption):0≤aD)
         by_cases c12:aD≤(aC.length:Int)
         ·rw[if_pos c12] at H
          have c12b0:=eq_true c12
          have c12b1:decide (aD≤(aC.length:Int))=true:=decide_eq_true c12
          clear c12
          obtain⟨aG,hy429⟩:∃ y_:List Int,y_=(aC.drop (aD:Int).toNat):=⟨_,rfl⟩
          replace H:(slices_Compact_int_int.l1 k1 aC aD aG 1)=some r:=zY hy429 H
          have Ny429:=zA hy429
          clear hy429
          have H':=zA H
          clear H
          have p427:0≤(aD:Int):=of_decide_eq_true (by first|(with_reducible assumption)|assumption)
          have q427:aD<(aC.length:Int):=of_decide_eq_true (by first|(with_reducible assumption)|assumption)
          obtain⟨ad427,e427,hx427_0⟩:=Kd.at_int (Kd.R_reads' aA.out).2.2 aD p427 q427
          cases e427
          replace p427:=eq_true p427
          replace q427:=eq_true q427
          have p428:0≤((aK):Int):=of_decide_eq_true (by first|(with_reducible assumption)|assumption)
          have q428:(aK)<(aC.length:Int):=of_decide_eq_true (by first|(with_reducible assumption)|assumption)
          obtain⟨ad428,e428,hx428_0⟩:=Kd.at_int (Kd.R_reads' aA.out).2.2 (aK) p428 q428
          obtain rfl:ad427=ad428:=(by injection e428)
          replace p428:=eq_true p428
          replace q428:=eq_true q428
          have q13:(aD:Int)≤((aC.length:Int):Int):=of_decide_eq_true (by first|(with_reducible assumption)|assumption)
          obtain⟨i013,hi013,_,hsz13,_⟩:=info_parts info3
          obtain⟨goA,coA,eoA,gbA,glA,clA,HGA⟩:=Kd.R_form aA.out (by have h1_:=of_eq_true p427;have h2_:=of_eq_true q427;omega);injection eoA with ea_ en_ ec_;injection ea_ with ea_;subst ea_;subst ec_;clear en_ gbA glA clA HGA;simp only[add_plain] at hx427_0 hx428_0
          have hroom13:aC.length≤aQ:=(Kd.R_reads' aA.out).2.1
          have hC13:Kd.C (Kd.int .i64) _ (some ⟨goA,0,none⟩) aC.length aC:=(Kd.R_reads' aA.out).2.2
          have q013:(0:Int)≤(aD:Int):=of_decide_eq_true (by first|(with_reducible assumption)|assumption)
          have hcut13:=cut_from (P:=Try.prog) 24 3 .i64 Try.underlying24 hi013 1 hsz13 (some ⟨goA,0,none⟩) aC.length aQ aD q013 q13
          have hr13:=Kd.C_drop (m:=(aD:Int).toNat) (c:=aQ) hC13 (by omega) hroom13
          obtain⟨bI,hA13⟩:∃ A1,A1=(if aQ=(aD:Int).toNat then(some ⟨goA,0,none⟩) else((some ⟨goA,0,none⟩):Option Addr).map (·.add ((aD:Int).toNat * 1))):=⟨_,rfl⟩
          obtain⟨c13,hc13⟩:∃ c1,c1=aQ-(aD:Int).toNat:=⟨_,rfl⟩
          have hy13:aG.length=aC.length-(aD:Int).toNat:=(by rw[Ny429.out,List.length_drop] <;> omega)
          rw[show (aC).drop (aD:Int).toNat=aG from Ny429.out.symm] at hr13
          replace hr13:Kd.C (Kd.int .i64) _ bI aG.length aG:=(by rw[hA13];exact hr13)
          rw[←hy13,←hA13,←hc13] at hcut13
          have bK:=zA hr13
          have HC432:=zA (show aG.length≤c13 from by rw[hy13,hc13];exact Nat.sub_le_sub_right hroom13 _)
          clear hr13 hC13 hroom13 hi013 hsz13 hc13
          have KY13:=zA hy13
          have KA13:=zA hA13
          clear hy13 hA13
          have KL13:=zA (show (aD:Int).toNat≤aC.length from by omega)
          replace q13:=eq_true q13
          go_wp2
          repeat (go_quiet (fail);try go_wp2)
          go_loopg [3,5] k1 (fun kq v3 v5 w'=>∃ (aE:List Int) (aH:Int) (aI:Int),v3=.int .i64 aH∧v5=.int .i64 aI∧Aside0 (slices_Compact_int_int.l1 kq aE aH aG aI=some r)∧Aside0 (kq≤k1)∧Aside0 (Kd.R (Kd.int .i64) 3 w' w0.heap.size (fun k_=>(P0_ k_∨w.heap.size≤k_)) (.slice (some ⟨goA,0,none⟩) aC.length aQ) aE)∧Aside0 (Kept w w' (fun k_=>P0_ k_))∧Aside0 (Below w0.heap.size w0 w'))
          case atStart=>exact⟨(aC),(aD),(1),(by first|rfl|(simp;done)|(simp[*];done)),(by first|rfl|(simp;done)|(simp[*];done)),H',⟨Nat.le_refl _⟩,⟨by(try simp only[hl0_1]);(with_reducible repeat (first|apply Kd.R_alloc|apply Kd.R_drewN|apply Kd.R_drew));exact aA.out⟩,⟨by repeat (first|(with_reducible first|exact HK.out|apply Kept.alloc|apply Kept.drewN|apply Kept.drew)|exact HK.out)⟩,⟨by repeat (first|(with_reducible first|exact HB.out|apply below_alloc|apply pw_below_drewN|apply below_drew1)|exact HB.out)⟩⟩
          case round =>
           clear H'
           try clear c1
           try clear q1
           try clear c2
           try clear aX
           try clear c2b1
           try clear p2
           try clear p4
           try clear q4
           try clear hx4
           try clear c5
           try clear bD
           try clear c6
           try clear c6b0
           try clear p6
           try clear c7
           try clear c8
           try clear c8b0
           try clear c9
           try clear c9b0
           try clear c10
           try clear aY
           try clear c10b1
           try clear c11
           try clear c11b0
           try clear c12
           try clear c12b0
           try clear c12b1
           try clear c13
           try clear q13
           try clear hx427_0
           try clear hx428_0
           try clear p2
           try clear p427
           try clear p428
           try clear q013
           try clear q13
           try clear q427
           try clear q428
           obtain⟨aE,aH,aI,rfl,rfl,HA,HK2,aA,HK,HB⟩:=hrel
           have hl0_2:=(Kd.R_reads' aA.out).1
           rw[hl0_2] at aA
           (try simp only[hl0_2])
           cases gk with
           |zero=>exact absurd HA.out (by simp[slices_Compact_int_int.l1])
           |succ k2 =>
            have H:=HA.out
            clear HA
            simp only[slices_Compact_int_int.l1] at H
            by_cases c14:aI<(aG.length:Int)
            ·rw[if_pos c14] at H
             have bF:decide (aI<(aG.length:Int))=true:=decide_eq_true c14
             clear c14
             by_cases c15:0≤aI
             ·rw[if_pos c15] at H
              have c15b0:decide (0≤aI)=true:=decide_eq_true c15
              clear c15
              obtain⟨aJ,hji16⟩:∃ j_:Int,(wrap64 (aI-1))=j_:=⟨_,rfl⟩
              replace H:(if 0≤(aJ) then(if (aJ)<(aG.length:Int) then(if (rs aE aG aI)=(rs aE aG (aJ)) then(slices_Compact_int_int.l1 k2 aE aH aG (wrap64 (aI+1))) else(if 0≤aH then(if aH<(aE.length:Int) then(slices_Compact_int_int.l1 k2 (aE.set (aH:Int).toNat (rs aE aG aI)) (wrap64 (aH+1)) aG (wrap64 (aI+1))) else(none)) else(none))) else(none)) else(none))=some r:=by first|(rw[hji16] at H;exact H)|(simp only[hji16] at H ⊢;exact H)
              have bH:(IntKind.i64.wrap (aI-1))=aJ:=(i64_w _).trans hji16
              by_cases c17:0≤(aJ)
              ·rw[if_pos c17] at H
               have c17b0:decide (0≤(aJ))=true:=decide_eq_true c17
               clear c17
               by_cases c18:(aJ)<(aG.length:Int)
               ·rw[if_pos c18] at H
                have c18b0:decide ((aJ)<(aG.length:Int))=true:=decide_eq_true c18
                clear c18
                by_cases c19:(rs aE aG aI)=(rs aE aG (aJ))
                ·rw[if_pos c19] at H
                 have bE:((rs aE aG aI)==(rs aE aG (aJ)))=true:=beq_iff_eq.mpr c19
                 have c19b1:((rs aE aG aI) != (rs aE aG (aJ)))=false:=bne_eq_false_iff_eq.mpr c19
                 clear c19
                 have H':=zA H
                 clear H
                 have p433:0≤(aI:Int):=of_decide_eq_true (by first|(with_reducible assumption)|assumption)
                 have q433:aI<(aG.length:Int):=of_decide_eq_true (by first|(with_reducible assumption)|assumption)
                 obtain⟨ad433,e433,hx433_0⟩:=rs_cell aA.out KA13.out KY13.out hl0_2 KL13.out aI p433 q433
                 cases e433
                 replace p433:=eq_true p433
                 replace q433:=eq_true q433
                 have p434:0≤((aJ):Int):=of_decide_eq_true (by first|(with_reducible assumption)|assumption)
                 have q434:(aJ)<(aG.length:Int):=of_decide_eq_true (by first|(with_reducible assumption)|assumption)
                 obtain⟨ad434,e434,hx434_0⟩:=rs_cell aA.out KA13.out KY13.out hl0_2 KL13.out (aJ) p434 q434
                 obtain rfl:ad433=ad434:=(by injection e434)
                 replace p434:=eq_true p434
                 replace q434:=eq_true q434
                 go_wp2
                 repeat (go_quiet (fail);try go_wp2)
                 (try simp only[←hl0_2])
                 go_roundg k2
                 case measure=>have:=HK1.out;have:=HK2.out;omega
                 case rel=>exact⟨(aE),(aH),(wrap64 (aI+1)),(by first|rfl|(simp;done)|(simp[*];done)),(by first|rfl|(simp;done)|(simp[*];done)),H',⟨by have:=HK1.out;have:=HK2.out;omega⟩,⟨by(try simp only[hl0_1]);(try simp only[hl0_2]);(with_reducible repeat (first|apply Kd.R_alloc|apply Kd.R_drewN|apply Kd.R_drew));exact aA.out⟩,⟨by repeat (first|(with_reducible first|exact HK.out|apply Kept.alloc|apply Kept.drewN|apply Kept.drew)|exact HK.out)⟩,⟨by repeat (first|(with_reducible first|exact HB.out|apply below_alloc|apply pw_below_drewN|apply below_drew1)|exact HB.out)⟩⟩
                ·rw[if_neg c19] at H
                 have bE:((rs aE aG aI)==(rs aE aG (aJ)))=false:=beq_eq_false_iff_ne.mpr c19
                 have c19b1:((rs aE aG aI) != (rs aE aG (aJ)))=true:=bne_iff_ne.mpr c19
                 by_cases c20:0≤aH
                 ·rw[if_pos c20] at H
                  have c20b0:decide (0≤aH)=true:=decide_eq_true c20
                  clear c20
                  by_cases c21:aH<(aE.length:Int)
                  ·rw[if_pos c21] at H
                   have c21b0:decide (aH<(aE.length:Int))=true:=decide_eq_true c21
                   clear c21
                   obtain⟨aV,hy436⟩:∃ y_:List Int,y_=(aE.set (aH:Int).toNat (rs aE aG aI)):=⟨_,rfl⟩
                   replace H:(slices_Compact_int_int.l1 k2 aV (wrap64 (aH+1)) aG (wrap64 (aI+1)))=some r:=zY hy436 H
                   have Ny436:=zA hy436
                   clear hy436
                   have H':=zA H
                   clear H
                   have p433:0≤(aI:Int):=of_decide_eq_true (by first|(with_reducible assumption)|assumption)
                   have q433:aI<(aG.length:Int):=of_decide_eq_true (by first|(with_reducible assumption)|assumption)
                   obtain⟨ad433,e433,hx433_0⟩:=rs_cell aA.out KA13.out KY13.out hl0_2 KL13.out aI p433 q433
                   cases e433
                   replace p433:=eq_true p433
                   replace q433:=eq_true q433
                   have p434:0≤((aJ):Int):=of_decide_eq_true (by first|(with_reducible assumption)|assumption)
                   have q434:(aJ)<(aG.length:Int):=of_decide_eq_true (by first|(with_reducible assumption)|assumption)
                   obtain⟨ad434,e434,hx434_0⟩:=rs_cell aA.out KA13.out KY13.out hl0_2 KL13.out (aJ) p434 q434
                   obtain rfl:ad433=ad434:=(by injection e434)
                   replace p434:=eq_true p434
                   replace q434:=eq_true q434
                   have p435:0≤(aI:Int):=of_decide_eq_true (by first|(with_reducible assumption)|assumption)
                   have q435:aI<(aG.length:Int):=of_decide_eq_true (by first|(with_reducible assumption)|assumption)
                   obtain⟨ad435,e435,hx435_0⟩:=rs_cell aA.out KA13.out KY13.out hl0_2 KL13.out aI p435 q435
                   obtain rfl:ad433=ad435:=(by injection e435)
                   replace p435:=eq_true p435
                   replace q435:=eq_true q435
                   have p22:0≤(aH:Int):=of_decide_eq_true (by first|(with_reducible assumption)|assumption)
                   have q22:(aH:Int)<((aE.length:Int):Int):=of_decide_eq_true (by first|(with_reducible assumption)|assumption)
                   obtain⟨go22,co22,eo22,gb22,gl22,cl22,HG22⟩:=Kd.R_form aA.out (by omega)
                   injection eo22 with ea_ en_ ec_;injection ea_ with ea_;injection ea_ with eb_ _ _;subst eb_;subst ec_;clear en_
                   have GB22:=zA gb22
                   have GG22:=zA HG22
                   clear gb22 gl22 HG22
                   have HMgo22:=zA (show (P0_ goA∨w.heap.size≤goA) from (aA.out.1 _ rfl))
                   (first|simp only[add_plain] at hx427_0|skip)
                   (first|simp only[add_plain] at hx428_0|skip)
                   obtain⟨aW,hf22_0⟩:=Kd.R_celln 0 aA.out (aH:Int) p22 q22
                   replace p22:=eq_true p22
                   replace q22:=eq_true q22
                   have HP23:=Kd.R_putg aA.out (aH:Int) (rs aE aG aI)
                   go_wp2_with (first|((with_reducible refine gate_store (t:=3) (p:=51) rfl ?_);(try (rw[drewN_self wr];generalize hq_:World.drewN wr _=wr;have aR:=zA (Kd.R_at hq_ aA.out);have aN:=zA (kept_at hq_ HK.out);have aM:=zA (below_at hq_ HB.out);clear hq_ aA HK HB;have aA:=aR;have HK:=aN;have HB:=aM;clear aR aN aM;have HP23:=Kd.R_putg aA.out (aH:Int) (rs aE aG aI);obtain⟨aW,hf22_0⟩:=Kd.R_celln 0 aA.out (aH:Int) (of_eq_true p22) (of_eq_true q22)));refine store_event (t:=3) (p:=51) (v:=?vo_w24) (w1:=(wr.setCell ⟨goA,(aH:Int).toNat,none⟩ (.int .i64 (rs aE aG aI)))) ?hg ?ho ?hn ?hr ?_;(case ho=>rfl);(case hg=>rfl);(case hn=>rfl);(case hr=>first|(go_simp;done)|(go_simp;rfl));intro aU hw;have hg:wr.grownBy aU (some goA):=(by rw[hw];exact HP23.2);have hp_:Kd.R (Kd.int .i64) 3 aU w0.heap.size (fun k_=>(P0_ k_∨w.heap.size≤k_)) (.slice (some ⟨goA,0,none⟩) aE.length aQ) aV:=(by rw[hw,Ny436.out];exact HP23.1);clear HP23;have aR:=zA hp_;have aN:=zA ((by rw[hw];exact below_set (HB.out) GB22.out:Below w0.heap.size w0 aU));have aM:=zA (Kept.of_grown (S:=(fun k_=>P0_ k_)) hg (by repeat (first|(with_reducible first|exact HK.out|apply Kept.alloc|apply Kept.drewN|apply Kept.drew)|exact HK.out)) (fun k_ e_=>(aA.out.1 k_ e_)));clear aA;clear HB;clear HK;have aA:=aR;have HB:=aN;have HK:=aM;clear aR aN aM;clear hg hw hp_))
                   repeat (go_quiet (fail);try go_wp2_with (first|((with_reducible refine gate_store (t:=3) (p:=51) rfl ?_);(try (rw[drewN_self wr];generalize hq_:World.drewN wr _=wr;have aR:=zA (Kd.R_at hq_ aA.out);have aN:=zA (kept_at hq_ HK.out);have aM:=zA (below_at hq_ HB.out);clear hq_ aA HK HB;have aA:=aR;have HK:=aN;have HB:=aM;clear aR aN aM;have HP23:=Kd.R_putg aA.out (aH:Int) (rs aE aG aI);obtain⟨aW,hf22_0⟩:=Kd.R_celln 0 aA.out (aH:Int) (of_eq_true p22) (of_eq_true q22)));refine store_event (t:=3) (p:=51) (v:=?vo_w24) (w1:=(wr.setCell ⟨goA,(aH:Int).toNat,none⟩ (.int .i64 (rs aE aG aI)))) ?hg ?ho ?hn ?hr ?_;(case ho=>rfl);(case hg=>rfl);(case hn=>rfl);(case hr=>first|(go_simp;done)|(go_simp;rfl));intro aU hw;have hg:wr.grownBy aU (some goA):=(by rw[hw];exact HP23.2);have hp_:Kd.R (Kd.int .i64) 3 aU w0.heap.size (fun k_=>(P0_ k_∨w.heap.size≤k_)) (.slice (some ⟨goA,0,none⟩) aE.length aQ) aV:=(by rw[hw,Ny436.out];exact HP23.1);clear HP23;have aR:=zA hp_;have aN:=zA ((by rw[hw];exact below_set (HB.out) GB22.out:Below w0.heap.size w0 aU));have aM:=zA (Kept.of_grown (S:=(fun k_=>P0_ k_)) hg (by repeat (first|(with_reducible first|exact HK.out|apply Kept.alloc|apply Kept.drewN|apply Kept.drew)|exact HK.out)) (fun k_ e_=>(aA.out.1 k_ e_)));clear aA;clear HB;clear HK;have aA:=aR;have HB:=aN;have HK:=aM;clear aR aN aM;clear hg hw hp_)))
                   (try simp only[←hl0_2])
                   go_roundg k2
                   case measure=>have:=HK1.out;have:=HK2.out;omega
                   case rel=>exact⟨(aV),(wrap64 (aH+1)),(wrap64 (aI+1)),(by first|rfl|(simp;done)|(simp[*];done)),(by first|rfl|(simp;done)|(simp[*];done)),H',⟨by have:=HK1.out;have:=HK2.out;omega⟩,⟨by(try simp only[hl0_1]);(try simp only[hl0_2]);(with_reducible repeat (first|apply Kd.R_alloc|apply Kd.R_drewN|apply Kd.R_drew));exact aA.out⟩,⟨by repeat (first|(with_reducible first|exact HK.out|apply Kept.alloc|apply Kept.drewN|apply Kept.drew)|exact HK.out)⟩,⟨by repeat (first|(with_reducible first|exact HB.out|apply below_alloc|apply pw_below_drewN|apply below_drew1)|exact HB.out)⟩⟩
                  ·rw[if_neg c21] at H
                   exact absurd H (by simp)
                 ·rw[if_neg c20] at H
                  exact absurd H (by simp)
               ·rw[if_neg c18] at H
                exact absurd H (by simp)
              ·rw[if_neg c17] at H
               exact absurd H (by simp)
             ·rw[if_neg c15] at H
              exact absurd H (by simp)
            ·rw[if_neg c14] at H
             have bF:decide (aI<(aG.length:Int))=false:=decide_eq_false c14
             clear c14
             by_cases c25:0≤aH
             ·rw[if_pos c25] at H
              have c25b0:=eq_true c25
              have c25b1:decide (0≤aH)=true:=decide_eq_true c25
              clear c25
              by_cases c26:aH≤(aE.length:Int)
              ·rw[if_pos c26] at H
               have c26b0:=eq_true c26
               have c26b1:decide (aH≤(aE.length:Int))=true:=decide_eq_true c26
               clear c26
               have c26z_:=of_decide_eq_true c26b1;have c25z_:=of_decide_eq_true c25b1;have hcc_:=(Kd.R_reads' aA.out).2.1
               obtain⟨i0k,hi0k,_,hsz0k,_⟩:=info_parts info3
               obtain⟨Ac_,hcutc_,hac_⟩:=drop_at (P:=Try.prog) 24 3 Try.underlying24 hi0k hsz0k ⟨goA,0,none⟩ aE.length aQ aH c25z_ c26z_ hcc_
               have RUNC_:=zA (fun (w_:World) (h_:Kd.R (Kd.int .i64) 3 w_ w0.heap.size (fun k_=>(P0_ k_∨w.heap.size≤k_)) (.slice (some ⟨goA,0,none⟩) aE.length aQ) aE)=>run_clearS (P:=Try.prog) (t:=24) (e:=3) (ty:=0) Try.underlying24 zero3 h_ aH.toNat (by omega) Ac_ (fun hlt_=>hac_ (by omega)) (aQ-aH.toNat))
               clear hi0k hsz0k hac_ hcc_
               obtain⟨bA,hy437⟩:∃ y_:List Int,y_=(aE.take (aH:Int).toNat):=⟨_,rfl⟩
               replace H:(some bA)=some r:=zY hy437 H
               have Ny437:=zA hy437
               clear hy437
               obtain rfl:=zI H
               have bB:(aH:Int)≤((aE.length:Int):Int):=of_decide_eq_true (by first|(with_reducible assumption)|assumption)
               obtain⟨i027,hi027,_,hsz27,_⟩:=info_parts info3
               have hcut27:=cut_to (P:=Try.prog) 24 3 .i64 Try.underlying24 hi027 (some ⟨goA,0,none⟩) aE.length aQ aH (of_decide_eq_true (by first|(with_reducible assumption)|assumption)) bB (Kd.R_reads' aA.out).2.1
               have c26n_:aH.toNat≤aE.length:=by omega
               obtain⟨wc_,e_,r_,g_⟩:=RUNC_.out wr aA.out;have EE_:=zA e_;have aN:=zA (growB HB.out g_ (Kd.R_base aA.out));have aM:=zA (Kept.of_grown (S:=(fun k_=>P0_ k_)) g_ HK.out (fun k_ e_=>aA.out.1 k_ e_));clear aA HB HK RUNC_;have aA:=zA r_;have HB:=aN;have HK:=aM;clear e_ r_ g_ aN aM;have hr27:=Kd.R_take (m:=(aH:Int).toNat) aA.out (by rw[List.length_append,List.length_take];omega);have bC:bA.length=(aH:Int).toNat:=(by rw[Ny437.out,List.length_take];omega);rw[take_zero_ aE _ _ c26n_,←Ny437.out] at hr27;rw[←bC] at hr27 hcut27;clear bC hi027 hsz27 aA;have bG:=zA hr27;clear hr27;replace bB:=eq_true bB
               go_wp2_with (first|((with_reducible refine gate_builtin (b:=.clear) (xs:=#[.tmp 56]) rfl ?_);refine clear_step EE_.out (.tmp 56) (by rfl) (by rfl) (by rfl) (by rfl) (by rfl) ?_))
               repeat (go_quiet (fail);try go_wp2)
               go_ret
               exact⟨_,by first|rfl|(simp[errW_none,errW_some] <;> rfl)|(simp only[←hji7];first|rfl|(simp[errW_none,errW_some] <;> rfl))|(simp[*,errW_none,errW_some] <;> rfl),by(with_reducible repeat (first|apply Kd.R_alloc|apply Kd.R_drewN|apply Kd.R_drew));exact bG.out,by repeat (first|(with_reducible first|exact HB.out|apply below_alloc|apply pw_below_drewN|apply below_drew1)|exact HB.out),by repeat (first|(with_reducible first|exact HK.out|apply Kept.alloc|apply Kept.drewN|apply Kept.drew)|exact HK.out)⟩
              ·rw[if_neg c26] at H
               exact absurd H (by simp)
             ·rw[if_neg c25] at H
              exact absurd H (by simp)
         ·rw[if_neg c12] at H
          exact absurd H (by simp)
        ·rw[if_neg c10] at H
         have aY:((rd aC aD)==(rd aC (aK)))=false:=beq_eq_false_iff_ne.mpr c10
         have c10b1:((rd aC aD) != (rd aC (aK)))=true:=bne_iff_ne.mpr c10
         have H':=zA H
         clear H
         have p427:0≤(aD:Int):=of_decide_eq_true (by first|(with_reducible assumption)|assumption)
         have q427:aD<(aC.length:Int):=of_decide_eq_true (by first|(with_reducible assumption)|assumption)
         obtain⟨ad427,e427,hx427_0⟩:=Kd.at_int (Kd.R_reads' aA.out).2.2 aD p427 q427
         cases e427
         replace p427:=eq_true p427
         replace q427:=eq_true q427
         have p428:0≤((aK):Int):=of_decide_eq_true (by first|(with_reducible assumption)|assumption)
         have q428:(aK)<(aC.length:Int):=of_decide_eq_true (by first|(with_reducible assumption)|assumption)
         obtain⟨ad428,e428,hx428_0⟩:=Kd.at_int (Kd.R_reads' aA.out).2.2 (aK) p428 q428
         obtain rfl:ad427=ad428:=(by injection e428)
         replace p428:=eq_true p428
         replace q428:=eq_true q428
         go_wp2
         repeat (go_quiet (fail);try go_wp2)
         (try simp only[←hl0_1])
         go_roundg k1
         case measure=>have:=HK1.out;omega
         case rel=>exact⟨(aC),(wrap64 (aD+1)),(by first|rfl|(simp;done)|(simp[*];done)),H',⟨by have:=HK1.out;omega⟩,⟨by(try simp only[hl0_1]);(with_reducible repeat (first|apply Kd.R_alloc|apply Kd.R_drewN|apply Kd.R_drew));exact aA.out⟩,⟨by repeat (first|(with_reducible first|exact HK.out|apply Kept.alloc|apply Kept.drewN|apply Kept.drew)|exact HK.out)⟩,⟨by repeat (first|(with_reducible first|exact HB.out|apply below_alloc|apply pw_below_drewN|apply below_drew1)|exact HB.out)⟩⟩
       ·rw[if_neg c9] at H
        exact absurd H (by simp)
      ·rw[if_neg c8] at H
       exact absurd H (by simp)
     ·rw[if_neg c6] at H
      exact absurd H (by simp)
    ·rw[if_neg c5] at H
     have bD:decide (aD<(aC.length:Int))=false:=decide_eq_false c5
     clear c5
     obtain rfl:=zI H
     go_wp2
     repeat (go_quiet (fail);try go_wp2)
     go_ret
     exact⟨_,zE,by(with_reducible repeat (first|apply Kd.R_alloc|apply Kd.R_drewN|apply Kd.R_drew));exact aA.out,by repeat (first|(with_reducible first|exact HB.out|apply below_alloc|apply pw_below_drewN|apply below_drew1)|exact HB.out),by repeat (first|(with_reducible first|exact HK.out|apply Kept.alloc|apply Kept.drewN|apply Kept.drew)|exact HK.out)⟩

def impl_Near.l0:Nat→Int→List Int→List Int→Int→Int→Int→Int→List Int→Option (List Int)
  |0,_,_,_,_,_,_,_,_=>none
  |k+1,x1,x5,x25,x26,x27,x531000,x531001,x531002=>if x27<x26 then(if 0≤x27 then(if x27<(x25.length:Int) then((impl_IsOpen.f k x531000 x531001 x531002 (rd x25 x27)).bind fun t542=>(if t542=true then((impl_Apart.f k x531000 x531001 x531002 x1 (rd x25 x27)).bind fun t543=>(if t543=1 then(if x5.length<17592186044416 then(impl_Near.l0 k x1 (x5++[rd x25 x27]) x25 x26 (wrap64 (x27+1)) x531000 x531001 x531002) else(none)) else(impl_Near.l0 k x1 x5 x25 x26 (wrap64 (x27+1)) x531000 x531001 x531002))) else(impl_Near.l0 k x1 x5 x25 x26 (wrap64 (x27+1)) x531000 x531001 x531002))) else(none)) else(none)) else((slices_Compact_int_int.f k x5).bind fun t538=>(some t538))
def impl_Near.f (k:Nat) (a0_0:Int) (a0_1:Int) (l0_2:List Int) (a1:Int):Option (List Int):=(impl_IsCell.f k a0_0 a0_1 l0_2 a1).bind fun t531=>(if t531=true then((some (([wrap64 (a1-a0_0),wrap64 (a1-1),wrap64 (a1+1),wrap64 (a1+a0_0)]:List Int):List Int)).bind fun y535=>(impl_Near.l0 k a1 (([]:List Int)) y535 (y535.length:Int) 0 a0_0 a0_1 l0_2)) else(some ([]:List Int)))
theorem impl_Near.calls (k:Nat) (aD:Int) (aI:Int) (aQ:Option Addr) (aN:Nat) (aH:List Int) (a1:Int) (r:List Int) (w:World) (bH:Kd.C (Kd.int .i64) w aQ aH.length aH) (bI:aH.length≤aN) (h:impl_Near.f k aD aI aH a1=some r) :
  Calls Try.prog 15 #[.agg #[.int .i64 aD,.int .i64 aI,.slice aQ aH.length aN],.int .i64 a1] w fun e w'=>∃ v0_:Value,e=.returned (v0_)∧Kd.R (Kd.int .i64) 3 w' w.heap.size (fun _=>True) v0_ r∧Below w.heap.size w w':=by
 have hu26:=Try.underlying26;have aR:=zA bH;have aT:=zA bI;clear bH bI;have HB:=zA (Below.refl w.heap.size w);have H:=h;clear h;unfold impl_Near.f at H;obtain⟨cN,A3,H⟩:=zB H
 by_cases c4:cN=true
 ·subst c4;rw[if_pos rfl] at H;obtain⟨bD,bA⟩:∃ y_:List Int,y_=(([]:List Int)):=⟨_,rfl⟩
  replace H:((some (([wrap64 (a1-aD),wrap64 (a1-1),wrap64 (a1+1),wrap64 (a1+aD)]:List Int):List Int)).bind fun aE=>(impl_Near.l0 k a1 bD aE (aE.length:Int) 0 aD aI aH))=some r:=zY bA H
  have Ny532:=zA bA;clear bA;obtain⟨aE,aZ⟩:∃ y_:List Int,y_=(([wrap64 (a1-aD),wrap64 (a1-1),wrap64 (a1+1),wrap64 (a1+aD)]:List Int)):=⟨_,rfl⟩
  replace H:(impl_Near.l0 k a1 bD aE (aE.length:Int) 0 aD aI aH)=some r:=zY aZ H
  have Ny535:=zA aZ;clear aZ;have H':=zA H;clear H;go_enter Try.func15,Try.ntmps15
  go_wp2_with (first|((with_reducible refine zgd 2 rfl ?_);refine zbx 2 #[.int .i64 aD,.int .i64 aI,.slice aQ aH.length aN] 26 ?_;intro bJ hg w5 hbox hb;have aA:=zA hbox;have cJ:=zga (w:=w) hg;replace HB:=zbs hb;clear hb hbox hg;obtain⟨cA,bZ,bY,bX,bW,bV⟩:=ze3 aA)|((with_reducible refine zgf 35 rfl ?_);refine zgl 10 Try.func35 #[.agg #[.int .i64 aD,.int .i64 aI,.slice aQ aH.length aN],.int .i64 a1] ?_;(with_reducible refine(impl_IsCell.calls k aD aI _ _ aH a1 true _ ?s1 ?s2 A3.out).mono ?_);(case s1=>exact zCb aR);(case s2=>exact aT.out);rintro e w7 ⟨rfl,hb⟩;refine⟨_,rfl,?_⟩;replace aA:=zkb aA hb;replace HB:=zbs hb;(try clear hb))|((with_reducible refine zgd 12 rfl ?_);refine Kd.R_lit (Kd.int .i64) _ 3 ?hg (N:=12) ?hd (xs:=([]:List Int)) (inner:=[]) (ok:=fun _=>True) (okp:=fun _=>True) ?hr ?hp (fun _ hk=>hk) trivial (Below.refl _ _) (Nat.le_refl _) (by simp) ?_;(case hd=>rfl);(case hg=>rfl);(case hr=>first|(go_simp;done)|(go_simp;rfl));(case hp=>exact(Reps.none _ _));intro v533 w8 ho9 hb hg_ hnew_;clear hg_ hnew_;(first|rw[←Ny532.out] at ho9|(simp only[Int.reduceToNat] at ho9;rw[←Ny532.out] at ho9));have aV:=zA (Kd.R_lower ho9 (below_size zb));replace aA:=zkb aA hb;replace HB:=zbs hb;clear hb ho9;obtain⟨bR,bQ,bP,bO,bN,bM⟩:=ze3 aA)|((with_reducible refine zgd 25 rfl ?_);refine Kd.R_lit (Kd.int .i64) _ 3 ?hg (N:=25) ?hd (xs:=([wrap64 (a1-aD),wrap64 (a1-1),wrap64 (a1+1),wrap64 (a1+aD)]:List Int)) (inner:=[.int .i64 (wrap64 (a1-aD)),.int .i64 (wrap64 (a1-1)),.int .i64 (wrap64 (a1+1)),.int .i64 (wrap64 (a1+aD))]) (ok:=fun _=>True) (okp:=fun _=>True) ?hr ?hp (fun _ hk=>hk) trivial (Below.refl _ _) (Nat.le_refl _) (by simp) ?_;(case hd=>rfl);(case hg=>rfl);(case hr=>first|(go_simp;done)|(go_simp;rfl));(case hp=>exact(Reps.one (show Kd.M (Kd.int .i64) _ _ _ (wrap64 (a1-aD)) [.int .i64 (wrap64 (a1-aD))] from rfl) (Reps.one (show Kd.M (Kd.int .i64) _ _ _ (wrap64 (a1-1)) [.int .i64 (wrap64 (a1-1))] from rfl) (Reps.one (show Kd.M (Kd.int .i64) _ _ _ (wrap64 (a1+1)) [.int .i64 (wrap64 (a1+1))] from rfl) (Reps.one (show Kd.M (Kd.int .i64) _ _ _ (wrap64 (a1+aD)) [.int .i64 (wrap64 (a1+aD))] from rfl) (Reps.none _ _))))));intro v536 eN ho12 hb hg_ hnew_;clear hg_ hnew_;(first|rw[←Ny535.out] at ho12|(simp only[Int.reduceToNat] at ho12;rw[←Ny535.out] at ho12));have bL:=zA (Kd.R_lower (Kd.R_new' ho12 (Kd.R_lt (zR aV))) (below_size zb));replace aV:=zA (Kd.R_elder' (zR aV) (Kd.R_base ho12) hb);replace aA:=zkb aA hb;replace HB:=zbs hb;clear hb ho12;obtain⟨bG,bB,cP⟩:=Kd.R_slice bL.out;subst cP))
  go_loopg [5,27] k (fun kq v5 v27 w'=>∃ (aM:List Int) (aC:Int),v27=.int .i64 aC∧Aside0 (impl_Near.l0 kq a1 aM aE (aE.length:Int) aC aD aI aH=some r)∧Aside0 (kq≤k)∧Aside0 (Kd.R (Kd.int .i64) 3 w' w.heap.size (fun k_=>some k_≠((.slice bG aE.length bB):Value).ownBlock) v5 aM)∧Aside0 (Kd.R (Kd.int .i64) 3 w' w.heap.size (fun k_=>some k_≠(v5:Value).ownBlock) (.slice bG aE.length bB) aE)∧Aside0 (w'.heap[bJ]?=some (.cells #[.int .i64 aD,.int .i64 aI,(.slice aQ aH.length aN)] 26 (0,0)))∧Aside0 (Below w.heap.size w w'))
  case atStart=>exact⟨(bD),(0),zr,H',⟨Nat.le_refl _⟩,⟨by(with_reducible repeat (first|apply Kd.R_alloc|apply Kd.R_drewN|apply Kd.R_drew));exact Kd.R_mono aV.out (fun _ hk=>hk.2)⟩,⟨by(with_reducible repeat (first|apply Kd.R_alloc|apply Kd.R_drewN|apply Kd.R_drew));exact Kd.R_mono bL.out (fun _ hk=>hk.2)⟩,⟨zk aA⟩,⟨zb⟩⟩
  case round =>
   clear H';(try clear c4);(try clear bR);(try clear bQ);(try clear bP);(try clear cA);(try clear bZ);(try clear bY);(try clear bO);(try clear bN);(try clear bM);(try clear bX);(try clear bW);(try clear bV);obtain⟨aM,aC,rfl,HA,HK1,aJ,aG,aA,HB⟩:=hrel
   cases gk with
   |zero=>exact absurd HA.out (by simp[impl_Near.l0])
   |succ k1 =>
    have H:=HA.out;clear HA;simp only[impl_Near.l0] at H
    by_cases c14:aC<(aE.length:Int)
    ·rw[if_pos c14] at H;have cF:=decide_eq_true c14;clear c14;obtain⟨eD,H⟩:=zifD H;obtain⟨eC,H⟩:=zifD H;obtain⟨cL,cC,H⟩:=zB H
     by_cases bK:cL=true
     ·subst bK;rw[if_pos rfl] at H;obtain⟨aU,cK,H⟩:=zB H
      by_cases c20:aU=1
      ·rw[if_pos c20] at H;have cE:(aU==1)=true:=beq_iff_eq.mpr c20;have cD:(aU != 1)=false:=bne_eq_false_iff_eq.mpr c20;clear c20;obtain⟨cG,H⟩:=zifA H;obtain⟨bS,aY⟩:∃ y_:List Int,y_=(aM++[rd aE aC]):=⟨_,rfl⟩
       replace H:(impl_Near.l0 k1 a1 bS aE (aE.length:Int) (wrap64 (aC+1)) aD aI aH)=some r:=zY aY H
       have Ny544:=zA aY;clear aY;have H':=zA H;clear H;have bU:=zT (0≤(aC:Int));have bT:=zT (aC<(aE.length:Int));obtain⟨bC,aW,aX⟩:=Kd.at_int (Kd.R_reads' aG.out).2.2 aC zd zd;cases aW;obtain⟨dZ,dY,dX,dH,dG,dF⟩:=ze3 aA
       go_wp2_with (first|((with_reducible refine zgf 36 rfl ?_);refine zgl 33 Try.func36 #[.agg #[.int .i64 aD,.int .i64 aI,.slice aQ aH.length aN],.int .i64 (rd aE aC)] ?_;(with_reducible refine(impl_IsOpen.calls k1 aD aI _ _ aH (rd aE aC) true _ ?s1 ?s2 cC.out).mono ?_);(case s1=>exact zCb aR);(case s2=>exact aT.out);rintro e eM ⟨rfl,hb⟩;refine⟨_,rfl,?_⟩;replace aJ:=zRb aJ hb;replace aG:=zRb aG hb;replace aA:=zkb aA hb;replace HB:=zbs hb;(try clear hb);obtain⟨dW,dV,dU,dE,dD,dC⟩:=ze3 aA)|(go_at_call 37;(with_reducible refine(impl_Apart.calls k1 aD aI _ _ aH a1 (rd aE aC) aU _ ?s1 ?s2 cK.out).mono ?_);(case s1=>exact zCb aR);(case s2=>exact aT.out);rintro e eL ⟨rfl,hb⟩;replace aJ:=zRb aJ hb;replace aG:=zRb aG hb;replace aA:=zkb aA hb;replace HB:=zbs hb;(try clear hb))|((with_reducible refine gate_builtin (b:=.append) (xs:=#[.tmp 41,.tmp 43]) rfl ?_);at_builtin;refine Kd.R_append (Kd.int .i64) (w0:=w) w.heap.size rfl (.tmp 41) (.tmp 43) 24 3 (.int .i64 0) 8 rfl Try.underlying24 info3 rfl (by decide) (by omega) u5 aM (rd aE aC) [.int .i64 (rd aE aC)] (fun k_=>some k_≠(.slice (some bC) aE.length bB:Value).ownBlock) (fun _=>False) rfl rfl ?aP (fun _ hk=>hk.elim) ?aF ?aO ?aB ?aS ?aL ?_;(case aP=>exact rfl);(case aB=>exact zb);(case aF=>exact(fun k_ hk=>Kd.fresh' (Kd.R_lt (zR aG)) k_ hk));(case aO=>exact(zR aJ));(case aS=>exact(below_size zb));(case aL=>have:=cG.out;omega);intro v545 eK ho hb hg hat;rw[←Ny544.out] at ho;replace aG:=zA (Kd.R_after (ok:=(fun _=>True)) (by(with_reducible repeat (first|apply Kd.R_alloc|apply Kd.R_drewN|apply Kd.R_drew));exact Kd.R_mono aG.out (fun _ hk=>⟨trivial,hk⟩)) hg hat);replace aA:=zgr aA hg (Kd.R_ne aJ.out aA.out (by decide));replace HB:=zA hb;have cH:=zA ho;clear aJ;clear ho hb hg hat))
       go_roundg k1
       case measure=>have:=HK1.out;omega
       case rel=>exact⟨(bS),(wrap64 (aC+1)),zr,H',⟨by have:=HK1.out;omega⟩,⟨zR cH⟩,⟨by(with_reducible repeat (first|apply Kd.R_alloc|apply Kd.R_drewN|apply Kd.R_drew));exact Kd.R_mono aG.out (fun _ hk=>hk.2)⟩,⟨zk aA⟩,⟨zb⟩⟩
      ·rw[if_neg c20] at H;have cE:(aU==1)=false:=beq_eq_false_iff_ne.mpr c20;have cD:(aU != 1)=true:=bne_iff_ne.mpr c20;have H':=zA H;clear H;have bU:=zT (0≤(aC:Int));have bT:=zT (aC<(aE.length:Int));obtain⟨bC,aW,aX⟩:=Kd.at_int (Kd.R_reads' aG.out).2.2 aC zd zd;cases aW;obtain⟨dT,dS,dR,dB,dA,cZ⟩:=ze3 aA
       go_wp2_with (first|((with_reducible refine zgf 36 rfl ?_);refine zgl 33 Try.func36 #[.agg #[.int .i64 aD,.int .i64 aI,.slice aQ aH.length aN],.int .i64 (rd aE aC)] ?_;(with_reducible refine(impl_IsOpen.calls k1 aD aI _ _ aH (rd aE aC) true _ ?s1 ?s2 cC.out).mono ?_);(case s1=>exact zCb aR);(case s2=>exact aT.out);rintro e eJ ⟨rfl,hb⟩;refine⟨_,rfl,?_⟩;replace aJ:=zRb aJ hb;replace aG:=zRb aG hb;replace aA:=zkb aA hb;replace HB:=zbs hb;(try clear hb);obtain⟨dQ,dP,dO,cY,cX,cW⟩:=ze3 aA)|(go_at_call 37;(with_reducible refine(impl_Apart.calls k1 aD aI _ _ aH a1 (rd aE aC) aU _ ?s1 ?s2 cK.out).mono ?_);(case s1=>exact zCb aR);(case s2=>exact aT.out);rintro e eI ⟨rfl,hb⟩;replace aJ:=zRb aJ hb;replace aG:=zRb aG hb;replace aA:=zkb aA hb;replace HB:=zbs hb;(try clear hb)))
       go_roundg k1
       case measure=>have:=HK1.out;omega
       case rel=>exact⟨(aM),(wrap64 (aC+1)),zr,H',⟨by have:=HK1.out;omega⟩,⟨zR aJ⟩,⟨zR aG⟩,⟨zk aA⟩,⟨zb⟩⟩
     ·replace bK:=Bool.eq_false_iff.mpr bK;subst bK;rw[if_neg zNo] at H;have H':=zA H;clear H;have bU:=zT (0≤(aC:Int));have bT:=zT (aC<(aE.length:Int));obtain⟨bC,aW,aX⟩:=Kd.at_int (Kd.R_reads' aG.out).2.2 aC zd zd;cases aW;obtain⟨dN,dM,dL,cV,cU,cT⟩:=ze3 aA
      go_wp2_with (first|((with_reducible refine zgf 36 rfl ?_);refine zgl 33 Try.func36 #[.agg #[.int .i64 aD,.int .i64 aI,.slice aQ aH.length aN],.int .i64 (rd aE aC)] ?_;(with_reducible refine(impl_IsOpen.calls k1 aD aI _ _ aH (rd aE aC) false _ ?s1 ?s2 cC.out).mono ?_);(case s1=>exact zCb aR);(case s2=>exact aT.out);rintro e eH ⟨rfl,hb⟩;refine⟨_,rfl,?_⟩;replace aJ:=zRb aJ hb;replace aG:=zRb aG hb;replace aA:=zkb aA hb;replace HB:=zbs hb;(try clear hb)))
      go_roundg k1
      case measure=>have:=HK1.out;omega
      case rel=>exact⟨(aM),(wrap64 (aC+1)),zr,H',⟨by have:=HK1.out;omega⟩,⟨zR aJ⟩,⟨zR aG⟩,⟨zk aA⟩,⟨zb⟩⟩
    ·rw[if_neg c14] at H;have cF:=decide_eq_false c14;clear c14;obtain⟨cM,eA,H⟩:=zB H;obtain rfl:=zI H;obtain⟨bF,bE,cO⟩:=Kd.R_slice aJ.out;subst cO
     go_wp2_with (first|((with_reducible refine zgf 38 rfl ?_);refine zgl 47 Try.func38 #[.slice bF aM.length bE] ?_;(with_reducible refine(slices_Compact_int_int.calls k1 (fun k_=>some k_=(.slice bF aM.length bE:Value).ownBlock) (.slice bF aM.length bE) aM cM w _ ?s1 ?s2 eA.out).mono ?_);(case s1=>exact zb);(case s2=>exact Kd.R_tight rfl aJ.out);rintro e eG ⟨v539,rfl,ho0,hb,hkp⟩;refine⟨_,rfl,?_⟩;replace aA:=zA (blk_kept (zk aA) hkp (fun hs_=>(fun e_=>(Kd.R_ne aJ.out aA.out (by decide)) e_) hs_));have cI:=zA (Kd.R_mono (ok':=fun k_=>some k_≠(.slice bG aE.length bB:Value).ownBlock) ho0 (fun k_ hk_=>Or.elim hk_ (fun hs_=>fun e_=>(((aG.out).1 k_ e_.symm)) hs_) (fun hn_=>(Kd.fresh' (Kd.R_lt (zR aG)) k_ hn_))));replace aG:=zA (Kd.R_mono (ok':=fun k_=>some k_≠(v539:Value).ownBlock) (Kd.R_keptB (aG.out) hkp (fun k_ hk_ hs_=>(hk_) hs_)) (fun k_ hk_=>fun e_=>Or.elim (ho0.1 k_ e_.symm) (fun hs_=>hk_.2.1 hs_) (fun hn_=>Nat.not_le.2 hk_.2.2 hn_)));replace HB:=zA hb;clear aJ;(try clear hb);(try clear hkp);(try clear ho0)))
     go_ret;exact⟨_,zE,by(with_reducible repeat (first|apply Kd.R_alloc|apply Kd.R_drewN|apply Kd.R_drew));exact Kd.R_mono cI.out (fun _ hk=>trivial),zb⟩
 ·replace c4:=Bool.eq_false_iff.mpr c4;subst c4;rw[if_neg zNo] at H;obtain rfl:=zI H;go_enter Try.func15,Try.ntmps15
  go_wp2_with (first|((with_reducible refine zgd 2 rfl ?_);refine zbx 2 #[.int .i64 aD,.int .i64 aI,.slice aQ aH.length aN] 26 ?_;intro bJ hg eF hbox hb;have aA:=zA hbox;have cJ:=zga (w:=w) hg;replace HB:=zbs hb;clear hb hbox hg;obtain⟨dK,dJ,dI,cS,cR,cQ⟩:=ze3 aA)|((with_reducible refine zgf 35 rfl ?_);refine zgl 10 Try.func35 #[.agg #[.int .i64 aD,.int .i64 aI,.slice aQ aH.length aN],.int .i64 a1] ?_;(with_reducible refine(impl_IsCell.calls k aD aI _ _ aH a1 false _ ?s1 ?s2 A3.out).mono ?_);(case s1=>exact zCb aR);(case s2=>exact aT.out);rintro e eE ⟨rfl,hb⟩;refine⟨_,rfl,?_⟩;replace aA:=zkb aA hb;replace HB:=zbs hb;(try clear hb)))
  go_ret;exact⟨_,zE,by first|exact Kd.R_nil _ _ _ _ _|exact Kd.N_nil _ _ _ _ _|exact Kd.V_nil _ _ _ _ _|exact Kd.Q_nil _ _ _ _ _|exact Kd.S_nil _ _ _ _ _,zb⟩

mutual
def impl_distances.l0:Nat→List Int→List Int→Int→Int→Int→Int→List Int→Option (List Int)
  |0,_,_,_,_,_,_,_=>none
  |k+1,x1,x5,x15,x16,x548000,x548001,x548002=>if x16<x15 then(if x5.length<17592186044416 then(impl_distances.l0 k x1 (x5++[(-1)]) x15 (wrap64 (x16+1)) x548000 x548001 x548002) else(none)) else(impl_distances.l1 k x5 (([]:List Int)) x1 (x1.length:Int) 0 x548000 x548001 x548002)
def impl_distances.l1:Nat→List Int→List Int→List Int→Int→Int→Int→Int→List Int→Option (List Int)
  |0,_,_,_,_,_,_,_,_=>none
  |k+1,x5,x6,x23,x24,x25,x548000,x548001,x548002=>if x25<x24 then(if 0≤x25 then(if x25<(x23.length:Int) then((impl_IsOpen.f k x548000 x548001 x548002 (rd x23 x25)).bind fun t558=>(if t558=true then(if 0≤(rd x23 x25) then(if (rd x23 x25)<(x5.length:Int) then(if (rd x5 (rd x23 x25))<0 then(if x6.length<17592186044416 then(impl_distances.l1 k (x5.set ((rd x23 x25):Int).toNat 0) (x6++[rd x23 x25]) x23 x24 (wrap64 (x25+1)) x548000 x548001 x548002) else(none)) else(impl_distances.l1 k x5 x6 x23 x24 (wrap64 (x25+1)) x548000 x548001 x548002)) else(none)) else(none)) else(impl_distances.l1 k x5 x6 x23 x24 (wrap64 (x25+1)) x548000 x548001 x548002))) else(none)) else(none)) else(impl_distances.l2 k x5 x6 x548000 x548001 x548002)
def impl_distances.l2:Nat→List Int→List Int→Int→Int→List Int→Option (List Int)
  |0,_,_,_,_,_=>none
  |k+1,x5,x6,x548000,x548001,x548002=>if (x6.length:Int)>0 then(if 0<(x6.length:Int) then(if 1≤(x6.length:Int) then((impl_Near.f k x548000 x548001 x548002 (rd x6 0)).bind fun t568=>(impl_distances.l3 k x5 (x6.drop (1:Int).toNat) (rd x6 0) t568 (t568.length:Int) 0 x548000 x548001 x548002)) else(none)) else(none)) else(some x5)
def impl_distances.l3:Nat→List Int→List Int→Int→List Int→Int→Int→Int→Int→List Int→Option (List Int)
  |0,_,_,_,_,_,_,_,_,_=>none
  |k+1,x5,x6,x9,x57,x58,x59,x548000,x548001,x548002=>if x59<x58 then(if 0≤x59 then(if x59<(x57.length:Int) then(if 0≤(rd x57 x59) then(if (rd x57 x59)<(x5.length:Int) then(if (rd x5 (rd x57 x59))<0 then(if 0≤x9 then(if x9<(x5.length:Int) then(if x6.length<17592186044416 then(impl_distances.l3 k (x5.set ((rd x57 x59):Int).toNat (wrap64 ((rd x5 x9)+1))) (x6++[rd x57 x59]) x9 x57 x58 (wrap64 (x59+1)) x548000 x548001 x548002) else(none)) else(none)) else(none)) else(impl_distances.l3 k x5 x6 x9 x57 x58 (wrap64 (x59+1)) x548000 x548001 x548002)) else(none)) else(none)) else(none)) else(none)) else(impl_distances.l2 k x5 x6 x548000 x548001 x548002)
end
def impl_distances.f (k:Nat) (a0_0:Int) (a0_1:Int) (l0_2:List Int) (l1:List Int):Option (List Int):=impl_distances.l0 k l1 (([]:List Int)) (l0_2.length:Int) 0 a0_0 a0_1 l0_2
theorem impl_distances.calls (k:Nat) (aK:Int) (aJ:Int) (aW:Option Addr) (aV:Nat) (aH:List Int) (A1:Option Addr) (c1:Nat) (l1:List Int) (r:List Int) (w:World) (dT:Kd.C (Kd.int .i64) w aW aH.length aH) (dU:aH.length≤aV) (fW:Kd.C (Kd.int .i64) w A1 l1.length l1) (fX:l1.length≤c1) (h:impl_distances.f k aK aJ aH l1=some r) :
  Calls Try.prog 43 #[.agg #[.int .i64 aK,.int .i64 aJ,.slice aW aH.length aV],.slice A1 l1.length c1] w fun e w'=>∃ v0_:Value,e=.returned (v0_)∧Kd.R (Kd.int .i64) 3 w' w.heap.size (fun _=>True) v0_ r∧Below w.heap.size w w':=by
 have hu26:=Try.underlying26;have bP:=zA dT;have bR:=zA dU;clear dT dU;have fC:=zA fW;have hV:=zA fX;clear fW fX;have HB:=zA (Below.refl w.heap.size w);have H:=h;clear h;unfold impl_distances.f at H;obtain⟨eS,dD⟩:∃ y_:List Int,y_=(([]:List Int)):=⟨_,rfl⟩
 replace H:(impl_distances.l0 k l1 eS (aH.length:Int) 0 aK aJ aH)=some r:=zY dD H
 have Ny548:=zA dD;clear dD;have H':=zA H;clear H;go_enter Try.func43,Try.ntmps43
 go_wp2_with (first|((with_reducible refine zgd 2 rfl ?_);refine zbx 2 #[.int .i64 aK,.int .i64 aJ,.slice aW aH.length aV] 26 ?_;intro bO hg w3 hbox hb;have aA:=zA hbox;have gV:=zga (w:=w) hg;replace HB:=zbs hb;clear hb hbox hg)|((with_reducible refine zgd 12 rfl ?_);refine Kd.R_lit (Kd.int .i64) _ 3 ?hg (N:=12) ?hd (xs:=([]:List Int)) (inner:=[]) (ok:=fun _=>True) (okp:=fun _=>True) ?hr ?hp (fun _ hk=>hk) trivial (Below.refl _ _) (Nat.le_refl _) (by simp) ?_;(case hd=>rfl);(case hg=>rfl);(case hr=>first|(go_simp;done)|(go_simp;rfl));(case hp=>exact(Reps.none _ _));intro v549 w4 ho5 hb hg_ hnew_;clear hg_ hnew_;(first|rw[←Ny548.out] at ho5|(simp only[Int.reduceToNat] at ho5;rw[←Ny548.out] at ho5));have fT:=zA (Kd.R_lower ho5 (below_size zb));replace aA:=zkb aA hb;replace HB:=zbs hb;clear hb ho5;obtain⟨bK,bJ,bI,bH,bG,bF⟩:=ze3 aA))
 go_loopg [5,16] k (fun kq v5 v16 w'=>∃ (bC:List Int) (aZ:Int),v16=.int .i64 aZ∧Aside0 (impl_distances.l0 kq l1 bC (aH.length:Int) aZ aK aJ aH=some r)∧Aside0 (kq≤k)∧Aside0 (Kd.R (Kd.int .i64) 3 w' w.heap.size (fun _=>True) v5 bC)∧Aside0 (w'.heap[bO]?=some (.cells #[.int .i64 aK,.int .i64 aJ,(.slice aW aH.length aV)] 26 (0,0)))∧Aside0 (Below w.heap.size w w'))
 case atStart=>exact⟨(eS),(0),zr,H',⟨Nat.le_refl _⟩,⟨zR fT⟩,⟨zk aA⟩,⟨zb⟩⟩
 case round =>
  clear H';(try clear c1);(try clear bK);(try clear bJ);(try clear bI);(try clear bH);(try clear bG);(try clear bF);obtain⟨bC,aZ,rfl,HA,HK1,aC,aA,HB⟩:=hrel
  cases gk with
  |zero=>exact absurd HA.out (by simp[impl_distances.l0])
  |succ k1 =>
   have H:=HA.out;clear HA;simp only[impl_distances.l0] at H
   by_cases c7:aZ<(aH.length:Int)
   ·rw[if_pos c7] at H;have dG:=decide_eq_true c7;clear c7;obtain⟨gM,H⟩:=zifA H;obtain⟨eR,dC⟩:∃ y_:List Int,y_=(bC++[(-1)]):=⟨_,rfl⟩
    replace H:(impl_distances.l0 k1 l1 eR (aH.length:Int) (wrap64 (aZ+1)) aK aJ aH)=some r:=zY dC H
    have Ny551:=zA dC;clear dC;have H':=zA H;clear H
    go_wp2_with (first|((with_reducible refine gate_builtin (b:=.append) (xs:=#[.tmp 18,.tmp 19]) rfl ?_);at_builtin;refine Kd.R_append (Kd.int .i64) (w0:=w) w.heap.size rfl (.tmp 18) (.tmp 19) 24 3 (.int .i64 0) 8 rfl Try.underlying24 info3 rfl (by decide) (by omega) u5 bC (-1) [.int .i64 (-1)] (fun _=>True) (fun _=>False) rfl rfl ?aP (fun _ hk=>hk.elim) ?aF ?aO ?aB ?aS ?aL ?_;(case aP=>exact rfl);(case aB=>exact zb);(case aF=>exact(fun _ _=>trivial));(case aO=>exact(zR aC));(case aS=>exact(below_size zb));(case aL=>have:=gM.out;omega);intro v552 w9 ho hb hg hat;rw[←Ny551.out] at ho;replace aA:=zgr aA hg (Kd.R_ne aC.out aA.out (by decide));replace HB:=zA hb;have fS:=zA ho;clear aC;clear ho hb hg hat))
    go_roundg k1
    case measure=>have:=HK1.out;omega
    case rel=>exact⟨(eR),(wrap64 (aZ+1)),zr,H',⟨by have:=HK1.out;omega⟩,⟨zR fS⟩,⟨zk aA⟩,⟨zb⟩⟩
   ·rw[if_neg c7] at H;have dG:=decide_eq_false c7;clear c7;obtain⟨eQ,dB⟩:∃ y_:List Int,y_=(([]:List Int)):=⟨_,rfl⟩
    replace H:(impl_distances.l1 k1 bC eQ l1 (l1.length:Int) 0 aK aJ aH)=some r:=zY dB H
    have Ny554:=zA dB;clear dB;have H':=zA H;clear H
    go_wp2_with (first|((with_reducible refine zgd 22 rfl ?_);refine Kd.R_lit (Kd.int .i64) _ 3 ?hg (N:=22) ?hd (xs:=([]:List Int)) (inner:=[]) (ok:=fun _=>True) (okp:=fun _=>True) ?hr ?hp (fun _ hk=>hk) trivial (Below.refl _ _) (Nat.le_refl _) (by simp) ?_;(case hd=>rfl);(case hg=>rfl);(case hr=>first|(go_simp;done)|(go_simp;rfl));(case hp=>exact(Reps.none _ _));intro v555 hU ho11 hb hg_ hnew_;clear hg_ hnew_;(first|rw[←Ny554.out] at ho11|(simp only[Int.reduceToNat] at ho11;rw[←Ny554.out] at ho11));have fR:=zA (Kd.R_lower (Kd.R_new' ho11 (Kd.R_lt (zR aC))) (below_size zb));replace aC:=zA (Kd.R_elder' (zR aC) (Kd.R_base ho11) hb);replace aA:=zkb aA hb;replace HB:=zbs hb;clear hb ho11))
    go_loopg [6,25] k1 (fun kq v6 v25 w'=>∃ (aT:List Int) (aX:List Int) (aD:Int),v25=.int .i64 aD∧Aside0 (impl_distances.l1 kq aT aX l1 (l1.length:Int) aD aK aJ aH=some r)∧Aside0 (kq≤k1)∧Aside0 (Kd.R (Kd.int .i64) 3 w' w.heap.size (fun k_=>some k_≠(v6:Value).ownBlock) u5 aT)∧Aside0 (Kd.Q (Kd.int .i64) 3 w' w.heap.size (fun k_=>some k_≠(u5:Value).ownBlock) v6 aX)∧Aside0 (w'.heap[bO]?=some (.cells #[.int .i64 aK,.int .i64 aJ,(.slice aW aH.length aV)] 26 (0,0)))∧Aside0 (Below w.heap.size w w'))
    case atStart=>exact⟨(bC),(eQ),(0),zr,H',⟨Nat.le_refl _⟩,⟨by(with_reducible repeat (first|apply Kd.R_alloc|apply Kd.R_drewN|apply Kd.R_drew));exact Kd.R_mono aC.out (fun _ hk=>hk.2)⟩,⟨Kd.Q_of_R (by(with_reducible repeat (first|apply Kd.R_alloc|apply Kd.R_drewN|apply Kd.R_drew));exact Kd.R_mono fR.out (fun _ hk=>hk.2))⟩,⟨zk aA⟩,⟨zb⟩⟩
    case round =>
     clear H';(try clear c1);(try clear c7);(try clear dG);(try clear c8);(try clear bK);(try clear bJ);(try clear bI);(try clear bH);(try clear bG);(try clear bF);obtain⟨aT,aX,aD,rfl,HA,HK2,aC,aM,aA,HB⟩:=hrel
     cases gk with
     |zero=>exact absurd HA.out (by simp[impl_distances.l1])
     |succ k2 =>
      have H:=HA.out;clear HA;simp only[impl_distances.l1] at H
      by_cases c12:aD<(l1.length:Int)
      ·rw[if_pos c12] at H;have dI:=decide_eq_true c12;clear c12;obtain⟨eC,H⟩:=zifD H;obtain⟨eB,H⟩:=zifD H;obtain⟨fY,fE,H⟩:=zB H
       by_cases cP:fY=true
       ·subst cP;rw[if_pos rfl] at H;obtain⟨eA,H⟩:=zifD H;obtain⟨dZ,H⟩:=zifD H
        by_cases c19:(rd aT (rd l1 aD))<0
        ·rw[if_pos c19] at H;have dH:=decide_eq_true c19;clear c19;obtain⟨cR,dA⟩:∃ y_:List Int,y_=(aT.set ((rd l1 aD):Int).toNat 0):=⟨_,rfl⟩
         replace H:(if aX.length<17592186044416 then(impl_distances.l1 k2 cR (aX++[rd l1 aD]) l1 (l1.length:Int) (wrap64 (aD+1)) aK aJ aH) else(none))=some r:=zY dA H
         have Ny560:=zA dA;clear dA;obtain⟨fO,H⟩:=zifA H;obtain⟨eP,cZ⟩:∃ y_:List Int,y_=(aX++[rd l1 aD]):=⟨_,rfl⟩
         replace H:(impl_distances.l1 k2 cR eP l1 (l1.length:Int) (wrap64 (aD+1)) aK aJ aH)=some r:=zY cZ H
         have Ny561:=zA cZ;clear cZ;have H':=zA H;clear H;have cV:=zT (0≤(aD:Int));have cT:=zT (aD<(l1.length:Int));obtain⟨eE,bV,aR⟩:=Kd.at_int fC.out aD zd zd;cases bV;replace aR:=zC HB aR;obtain⟨cO,cN,cM,cF,cE,cD⟩:=ze3 aA
         go_wp2_with (first|((with_reducible refine zgf 36 rfl ?_);refine zgl 31 Try.func36 #[.agg #[.int .i64 aK,.int .i64 aJ,.slice aW aH.length aV],.int .i64 (rd l1 aD)] ?_;(with_reducible refine(impl_IsOpen.calls k2 aK aJ _ _ aH (rd l1 aD) true _ ?s1 ?s2 fE.out).mono ?_);(case s1=>exact zCb bP);(case s2=>exact bR.out);rintro e fV ⟨rfl,hb⟩;refine⟨_,rfl,?_⟩;replace aC:=zRb aC hb;replace aM:=zA (Kd.Q_below (zQ aM) hb);replace aA:=zkb aA hb;replace HB:=zbs hb;(try clear hb);obtain⟨hO,dF,gJ⟩:=Kd.R_slice aC.out;subst gJ;have dN:=zT (0≤((rd l1 aD):Int));have dM:=zT ((rd l1 aD)<(aT.length:Int));obtain⟨fM,dR,bA⟩:=Kd.at_int (Kd.R_reads' aC.out).2.2 (rd l1 aD) zd zd;cases dR;have bU:0≤((rd l1 aD):Int):=zd;have bT:((rd l1 aD):Int)<((aT.length:Int):Int):=zd;obtain⟨go20,hF,fA,eY,gl20,cl20,HG20⟩:=Kd.R_form aC.out (by omega);(first|cases fA|(injection fA with ea_ en_ ec_;(first|subst ea_|(injection ea_ with ea_;subst ea_));subst ec_;clear en_));have GB20:=zA eY;have GG20:=zA HG20;clear eY gl20 HG20;(first|simp only[add_plain] at bA|skip);obtain⟨dK,hf20_0⟩:=Kd.R_celln 0 aC.out ((rd l1 aD):Int) bU bT;replace bU:=eq_true bU;replace bT:=eq_true bT;obtain⟨hy25_,hz25_⟩:=Kd.R_celln 0 aC.out ((rd l1 aD):Int) zd zd;have HP25:=Kd.R_putg aC.out ((rd l1 aD):Int) 0)|((with_reducible refine gate_store (t:=3) (p:=41) rfl ?_);refine store_event (t:=3) (p:=41) (v:=?vo_w26) (w1:=(fV.setCell ⟨go20,((rd l1 aD):Int).toNat,none⟩ (.int .i64 0))) ?hg ?ho ?hn ?hr ?_;(case ho=>rfl);(case hg=>rfl);(case hn=>rfl);(case hr=>first|(go_simp;done)|(go_simp;rfl));intro eU hw;have hg:fV.grownBy eU (some go20):=(by rw[hw];exact HP25.2);have hp_:Kd.R (Kd.int .i64) 3 eU w.heap.size (fun k_=>some k_≠(u6:Value).ownBlock) (.slice (some ⟨go20,0,none⟩) aT.length dF) cR:=(by rw[hw,Ny560.out];exact HP25.1);clear HP25;replace aM:=zA (Kd.Q_after (v:=(.slice (some ⟨go20,0,none⟩) aT.length dF)) (v1:=(.slice (some ⟨go20,0,none⟩) aT.length dF)) (ok:=(fun _=>True)) (by(with_reducible repeat (first|apply Kd.Q_alloc|apply Kd.Q_drewN|apply Kd.Q_drew));exact Kd.Q_mono aM.out (fun _ hk=>⟨trivial,hk⟩)) hg (.inl rfl));replace aA:=zgr aA hg (Kd.R_ne aC.out aA.out (by decide));replace aC:=zA hp_;replace HB:=zA ((by rw[hw];exact below_set (HB.out) GB20.out:Below w.heap.size w eU));clear hg hw hp_)|((with_reducible refine gate_builtin (b:=.append) (xs:=#[.tmp 42,.tmp 44]) rfl ?_);at_builtin;refine Kd.Q_append (Kd.int .i64) (w0:=w) w.heap.size rfl (.tmp 42) (.tmp 44) 24 3 (.int .i64 0) 8 rfl Try.underlying24 info3 rfl (by decide) (by omega) u6 aX (rd l1 aD) [.int .i64 (rd l1 aD)] (fun k_=>some k_≠(.slice (some ⟨go20,0,none⟩) aT.length dF:Value).ownBlock) (fun _=>False) rfl rfl ?aP (fun _ hk=>hk.elim) ?aF ?aO ?aB ?aS ?aL ?_;(case aP=>exact rfl);(case aB=>exact zb);(case aF=>exact(fun k_ hk=>Kd.fresh' (Kd.R_lt (zR aC)) k_ hk));(case aO=>exact(by(with_reducible repeat (first|apply Kd.Q_alloc|apply Kd.Q_drewN|apply Kd.Q_drew));exact Kd.Q_mono aM.out (fun _ hk=>hk.2)));(case aS=>exact(below_size zb));(case aL=>have:=fO.out;omega);intro v562 hT ho hb hg hat;rw[←Ny561.out] at ho;replace aC:=zA (Kd.R_after (ok:=(fun _=>True)) (by(with_reducible repeat (first|apply Kd.R_alloc|apply Kd.R_drewN|apply Kd.R_drew));exact Kd.R_mono aC.out (fun _ hk=>⟨trivial,hk⟩)) hg hat);replace aA:=zgr aA hg (Kd.Q_ne aM.out aA.out (by decide));replace HB:=zA hb;have fQ:=zA ho;clear aM;clear ho hb hg hat))
         go_roundg k2
         case measure=>have:=HK1.out;have:=HK2.out;omega
         case rel=>exact⟨(cR),(eP),(wrap64 (aD+1)),zr,H',⟨by have:=HK1.out;have:=HK2.out;omega⟩,⟨by(with_reducible repeat (first|apply Kd.R_alloc|apply Kd.R_drewN|apply Kd.R_drew));exact Kd.R_mono aC.out (fun _ hk=>hk.2)⟩,⟨zQ fQ⟩,⟨zk aA⟩,⟨zb⟩⟩
        ·rw[if_neg c19] at H;have dH:=decide_eq_false c19;clear c19;have H':=zA H;clear H;have cV:=zT (0≤(aD:Int));have cT:=zT (aD<(l1.length:Int));obtain⟨eE,bV,aR⟩:=Kd.at_int fC.out aD zd zd;cases bV;replace aR:=zC HB aR;obtain⟨cL,cK,cJ,cC,cB,cA⟩:=ze3 aA
         go_wp2_with (first|((with_reducible refine zgf 36 rfl ?_);refine zgl 31 Try.func36 #[.agg #[.int .i64 aK,.int .i64 aJ,.slice aW aH.length aV],.int .i64 (rd l1 aD)] ?_;(with_reducible refine(impl_IsOpen.calls k2 aK aJ _ _ aH (rd l1 aD) true _ ?s1 ?s2 fE.out).mono ?_);(case s1=>exact zCb bP);(case s2=>exact bR.out);rintro e hS ⟨rfl,hb⟩;refine⟨_,rfl,?_⟩;replace aC:=zRb aC hb;replace aM:=zA (Kd.Q_below (zQ aM) hb);replace aA:=zkb aA hb;replace HB:=zbs hb;(try clear hb);obtain⟨hN,hE,gI⟩:=Kd.R_slice aC.out;subst gI;have dN:=zT (0≤((rd l1 aD):Int));have dM:=zT ((rd l1 aD)<(aT.length:Int));obtain⟨fM,dR,bA⟩:=Kd.at_int (Kd.R_reads' aC.out).2.2 (rd l1 aD) zd zd;cases dR))
         go_roundg k2
         case measure=>have:=HK1.out;have:=HK2.out;omega
         case rel=>exact⟨(aT),(aX),(wrap64 (aD+1)),zr,H',⟨by have:=HK1.out;have:=HK2.out;omega⟩,⟨zR aC⟩,⟨zQ aM⟩,⟨zk aA⟩,⟨zb⟩⟩
       ·replace cP:=Bool.eq_false_iff.mpr cP;subst cP;rw[if_neg zNo] at H;have H':=zA H;clear H;have cV:=zT (0≤(aD:Int));have cT:=zT (aD<(l1.length:Int));obtain⟨eE,bV,aR⟩:=Kd.at_int fC.out aD zd zd;cases bV;replace aR:=zC HB aR;obtain⟨cI,cH,cG,bZ,bY,bX⟩:=ze3 aA
        go_wp2_with (first|((with_reducible refine zgf 36 rfl ?_);refine zgl 31 Try.func36 #[.agg #[.int .i64 aK,.int .i64 aJ,.slice aW aH.length aV],.int .i64 (rd l1 aD)] ?_;(with_reducible refine(impl_IsOpen.calls k2 aK aJ _ _ aH (rd l1 aD) false _ ?s1 ?s2 fE.out).mono ?_);(case s1=>exact zCb bP);(case s2=>exact bR.out);rintro e hR ⟨rfl,hb⟩;refine⟨_,rfl,?_⟩;replace aC:=zRb aC hb;replace aM:=zA (Kd.Q_below (zQ aM) hb);replace aA:=zkb aA hb;replace HB:=zbs hb;(try clear hb)))
        go_roundg k2
        case measure=>have:=HK1.out;have:=HK2.out;omega
        case rel=>exact⟨(aT),(aX),(wrap64 (aD+1)),zr,H',⟨by have:=HK1.out;have:=HK2.out;omega⟩,⟨zR aC⟩,⟨zQ aM⟩,⟨zk aA⟩,⟨zb⟩⟩
      ·rw[if_neg c12] at H;have dI:=decide_eq_false c12;clear c12;have H':=zA H;clear H;go_wp2
       go_loopg [6] k2 (fun kq v6 w'=>∃ (bS:List Int) (aI:List Int),Aside0 (impl_distances.l2 kq bS aI aK aJ aH=some r)∧Aside0 (kq≤k2)∧Aside0 (Kd.R (Kd.int .i64) 3 w' w.heap.size (fun k_=>some k_≠(v6:Value).ownBlock) u5 bS)∧Aside0 (Kd.Q (Kd.int .i64) 3 w' w.heap.size (fun k_=>some k_≠(u5:Value).ownBlock) v6 aI)∧Aside0 (w'.heap[bO]?=some (.cells #[.int .i64 aK,.int .i64 aJ,(.slice aW aH.length aV)] 26 (0,0)))∧Aside0 (Below w.heap.size w w'))
       case atStart=>exact⟨(aT),(aX),H',⟨Nat.le_refl _⟩,⟨zR aC⟩,⟨zQ aM⟩,⟨zk aA⟩,⟨zb⟩⟩
       case round =>
        clear H';(try clear c1);(try clear c7);(try clear dG);(try clear c8);(try clear c12);(try clear dI);(try clear c13);(try clear eC);(try clear c14);(try clear eB);(try clear cP);(try clear c17);(try clear eA);(try clear c18);(try clear dZ);(try clear c19);(try clear dH);(try clear bU);(try clear bT);(try clear c21);(try clear cO);(try clear cN);(try clear cM);(try clear cL);(try clear cK);(try clear cJ);(try clear cI);(try clear cH);(try clear cG);(try clear bK);(try clear bJ);(try clear bI);(try clear cF);(try clear cE);(try clear cD);(try clear cC);(try clear cB);(try clear cA);(try clear bZ);(try clear bY);(try clear bX);(try clear bH);(try clear bG);(try clear bF);(try clear dK);(try clear aR);(try clear bA);(try clear bU);(try clear cV);(try clear dN);(try clear bT);(try clear cT);(try clear dM);obtain⟨bS,aI,HA,HK3,aC,aM,aA,HB⟩:=hrel
        cases gk with
        |zero=>exact absurd HA.out (by simp[impl_distances.l2])
        |succ k3 =>
         have H:=HA.out;clear HA;simp only[impl_distances.l2] at H
         by_cases c33:(aI.length:Int)>0
         ·rw[if_pos c33] at H;have dY:decide (0<(aI.length:Int))=true:=decide_eq_true c33;have dX:decide (0<aI.length)=true:=decide_eq_true (by omega);clear c33;obtain⟨fB,H⟩:=zif H;have fK:=decide_eq_true fB;have fJ:decide (0<aI.length)=true:=decide_eq_true (by omega);clear fB;obtain⟨dW,H⟩:=zif H;have fI:=eq_true dW;have fH:=decide_eq_true dW;clear dW;obtain⟨bB,cY⟩:∃ y_:List Int,y_=(aI.drop (1:Int).toNat):=⟨_,rfl⟩
          replace H:((impl_Near.f k3 aK aJ aH (rd aI 0)).bind fun aG=>(impl_distances.l3 k3 bS bB (rd aI 0) aG (aG.length:Int) 0 aK aJ aH))=some r:=zY cY H
          have Ny565:=zA cY;clear cY;obtain⟨aG,gO,H⟩:=zB H;have H':=zA H;clear H;obtain⟨hM,dE,gH,_⟩:=Kd.Q_slice aM.out;subst gH;have cU:0≤(0:Int):=(by omega);have cS:0<(aI.length:Int):=zd;obtain⟨bM,gL,bN⟩:=Kd.at_int (Kd.Q_reads' aM.out).2.2 0 cU cS;cases gL;have qi564:(0<aI.length)=True:=eq_true (by omega);(try rw[show ((0:Int)).toNat=0 from rfl] at bN);(try rw[Addr.add_zero'] at bN);replace cU:=eq_true cU;replace cS:=eq_true cS;have dJ:(1:Int)≤((aI.length:Int):Int):=zd;obtain⟨i038,hi038,_,hsz38,_⟩:=info_parts info3;have hcut38:=cut_from (P:=Try.prog) 24 3 .i64 Try.underlying24 hi038 1 hsz38 (some bM) aI.length dE 1 (by omega) dJ;have hr38:=Kd.Q_drop (k:=(1:Int).toNat) aM.out (by omega);obtain⟨fD,hA38⟩:∃ A1,A1=(if dE=(1:Int).toNat then(some bM) else((some bM):Option Addr).map (·.add ((1:Int).toNat * 1))):=⟨_,rfl⟩;obtain⟨dV,hc38⟩:∃ c1,c1=dE-(1:Int).toNat:=⟨_,rfl⟩;have dO:bB.length=aI.length-(1:Int).toNat:=(by rw[Ny565.out,List.length_drop]);rw[←Ny565.out] at hr38;rw[←dO,←hA38,←hc38] at hcut38;replace hr38:Kd.Q (Kd.int .i64) 3 wr w.heap.size (fun k_=>some k_≠(u5:Value).ownBlock) (.slice fD bB.length dV) bB:=(by rw[hA38,hc38,dO];exact hr38);have HE38:Aside0 ((Value.slice fD bB.length dV).ownBlock=(.slice (some bM) aI.length dE:Value).ownBlock):=⟨by rw[hA38];split <;> (cases ((some bM):Option Addr) <;> rfl)⟩;clear dO hi038 hsz38 aM hA38 hc38;have bQ:=zA hr38;clear hr38;replace dJ:=eq_true dJ;have n_:=zA (Kd.R_mono (ok':=fun k_=>some k_≠(.slice fD bB.length dV:Value).ownBlock) aC.out (fun k_ hk=>(by rw[HE38.out];exact hk)));clear aC;have aC:=n_;clear n_;obtain⟨eN,eM,eL,eK,eJ,eI⟩:=ze3 aA
          go_wp2_with (first|((with_reducible refine zgf 15 rfl ?_);refine zgl 57 Try.func15 #[.agg #[.int .i64 aK,.int .i64 aJ,.slice aW aH.length aV],.int .i64 (rd aI 0)] ?_;(with_reducible refine(impl_Near.calls k3 aK aJ _ _ aH (rd aI 0) aG _ ?s1 ?s2 gO.out).mono ?_);(case s1=>exact zCb bP);(case s2=>exact bR.out);rintro e hQ ⟨v569,rfl,ho0,hb⟩;refine⟨_,rfl,?_⟩;have eF:=zA (Kd.R_lower (Kd.R_new' (Kd.R_new' ho0 (Kd.R_lt (zR aC))) (Kd.Q_lt (zQ bQ))) (below_size zb));replace aC:=zA (Kd.R_elder' (zR aC) (Kd.R_base ho0) hb);replace bQ:=zA (Kd.Q_elder' (zQ bQ) (Kd.R_base ho0) hb);replace aA:=zkb aA hb;replace HB:=zbs hb;(try clear hb);(try clear ho0);obtain⟨dS,bE,gG⟩:=Kd.R_slice eF.out;subst gG))
          go_loopg [6,59] k3 (fun kq v6 v59 w'=>∃ (aQ:List Int) (aY:List Int) (aE:Int),v59=.int .i64 aE∧Aside0 (impl_distances.l3 kq aQ aY (rd aI 0) aG (aG.length:Int) aE aK aJ aH=some r)∧Aside0 (kq≤k3)∧Aside0 (Kd.R (Kd.int .i64) 3 w' w.heap.size (fun k_=>some k_≠(v6:Value).ownBlock∧some k_≠((.slice dS aG.length bE):Value).ownBlock) u5 aQ)∧Aside0 (Kd.Q (Kd.int .i64) 3 w' w.heap.size (fun k_=>some k_≠(u5:Value).ownBlock∧some k_≠((.slice dS aG.length bE):Value).ownBlock) v6 aY)∧Aside0 (Kd.R (Kd.int .i64) 3 w' w.heap.size (fun k_=>some k_≠(u5:Value).ownBlock∧some k_≠(v6:Value).ownBlock) (.slice dS aG.length bE) aG)∧Aside0 (w'.heap[bO]?=some (.cells #[.int .i64 aK,.int .i64 aJ,(.slice aW aH.length aV)] 26 (0,0)))∧Aside0 (Below w.heap.size w w'))
          case atStart=>exact⟨(bS),(bB),(0),zr,H',⟨Nat.le_refl _⟩,⟨zR aC⟩,⟨zQ bQ⟩,⟨by(with_reducible repeat (first|apply Kd.R_alloc|apply Kd.R_drewN|apply Kd.R_drew));exact Kd.R_mono eF.out (fun _ hk=>⟨hk.1.2,hk.2⟩)⟩,⟨zk aA⟩,⟨zb⟩⟩
          case round =>
           clear H';(try clear c1);(try clear c7);(try clear dG);(try clear c8);(try clear c12);(try clear dI);(try clear c13);(try clear eC);(try clear c14);(try clear eB);(try clear cP);(try clear c17);(try clear eA);(try clear c18);(try clear dZ);(try clear c19);(try clear dH);(try clear bU);(try clear bT);(try clear c21);(try clear c33);(try clear dY);(try clear dX);(try clear fB);(try clear fK);(try clear fJ);(try clear dW);(try clear fI);(try clear fH);(try clear dV);(try clear dJ);(try clear cO);(try clear cN);(try clear cM);(try clear cL);(try clear cK);(try clear cJ);(try clear cI);(try clear cH);(try clear cG);(try clear eN);(try clear eM);(try clear eL);(try clear bK);(try clear bJ);(try clear bI);(try clear cF);(try clear cE);(try clear cD);(try clear cC);(try clear cB);(try clear cA);(try clear bZ);(try clear bY);(try clear bX);(try clear eK);(try clear eJ);(try clear eI);(try clear bH);(try clear bG);(try clear bF);(try clear dK);(try clear aR);(try clear bA);(try clear bN);(try clear bU);(try clear cV);(try clear dN);(try clear cU);(try clear bT);(try clear dJ);(try clear cT);(try clear dM);(try clear cS);obtain⟨aQ,aY,aE,rfl,HA,HK4,aC,aM,aU,aA,HB⟩:=hrel
           cases gk with
           |zero=>exact absurd HA.out (by simp[impl_distances.l3])
           |succ k4 =>
            have H:=HA.out;clear HA;simp only[impl_distances.l3] at H
            by_cases c42:aE<(aG.length:Int)
            ·rw[if_pos c42] at H;have fG:=decide_eq_true c42;clear c42;obtain⟨gU,H⟩:=zifD H;obtain⟨gT,H⟩:=zifD H;obtain⟨gS,H⟩:=zifD H;obtain⟨gR,H⟩:=zifD H
             by_cases c47:(rd aQ (rd aG aE))<0
             ·rw[if_pos c47] at H;have fF:=decide_eq_true c47;clear c47;obtain⟨gQ,H⟩:=zifD H;obtain⟨gP,H⟩:=zifD H;obtain⟨cQ,cX⟩:∃ y_:List Int,y_=(aQ.set ((rd aG aE):Int).toNat (wrap64 ((rd aQ (rd aI 0))+1))):=⟨_,rfl⟩
              replace H:(if aY.length<17592186044416 then(impl_distances.l3 k4 cQ (aY++[rd aG aE]) (rd aI 0) aG (aG.length:Int) (wrap64 (aE+1)) aK aJ aH) else(none))=some r:=zY cX H
              have Ny574:=zA cX;clear cX;obtain⟨fN,H⟩:=zifA H;obtain⟨eO,cW⟩:∃ y_:List Int,y_=(aY++[rd aG aE]):=⟨_,rfl⟩
              replace H:(impl_distances.l3 k4 cQ eO (rd aI 0) aG (aG.length:Int) (wrap64 (aE+1)) aK aJ aH)=some r:=zY cW H
              have Ny575:=zA cW;clear cW;have H':=zA H;clear H;have gC:=zT (0≤(aE:Int));have gA:=zT (aE<(aG.length:Int));obtain⟨bL,dQ,eH⟩:=Kd.at_int (Kd.R_reads' aU.out).2.2 aE zd zd;cases dQ;obtain⟨hJ,bD,gF⟩:=Kd.R_slice aC.out;subst gF;have gB:=zT (0≤((rd aG aE):Int));have fZ:=zT ((rd aG aE)<(aQ.length:Int));obtain⟨eD,dP,bW⟩:=Kd.at_int (Kd.R_reads' aC.out).2.2 (rd aG aE) zd zd;cases dP;have gX:=zT (0≤((rd aI 0):Int));have gW:=zT ((rd aI 0)<(aQ.length:Int));obtain⟨fL,gK,eG⟩:=Kd.at_int (Kd.R_reads' aC.out).2.2 (rd aI 0) zd zd;obtain rfl:eD=fL:=(by injection gK);have eW:0≤((rd aG aE):Int):=zd;have eV:((rd aG aE):Int)<((aQ.length:Int):Int):=zd;obtain⟨go50,hD,eZ,eX,gl50,cl50,HG50⟩:=Kd.R_form aC.out (by omega);(first|cases eZ|(injection eZ with ea_ en_ ec_;(first|subst ea_|(injection ea_ with ea_;subst ea_));subst ec_;clear en_));have GB50:=zA eX;have GG50:=zA HG50;clear eX gl50 HG50;(first|simp only[add_plain] at bW|skip);(first|simp only[add_plain] at eG|skip);obtain⟨gN,hf50_0⟩:=Kd.R_celln 0 aC.out ((rd aG aE):Int) eW eV;replace eW:=eq_true eW;replace eV:=eq_true eV;have HP53:=Kd.R_putg aC.out ((rd aG aE):Int) (wrap64 ((rd aQ (rd aI 0))+1))
              go_wp2_with (first|((with_reducible refine gate_store (t:=3) (p:=75) rfl ?_);refine store_event (t:=3) (p:=75) (v:=?vo_w54) (w1:=(wr.setCell ⟨go50,((rd aG aE):Int).toNat,none⟩ (.int .i64 (wrap64 ((rd aQ (rd aI 0))+1))))) ?hg ?ho ?hn ?hr ?_;(case ho=>rfl);(case hg=>rfl);(case hn=>rfl);(case hr=>first|(go_simp;done)|(go_simp;rfl));intro eT hw;have hg:wr.grownBy eT (some go50):=(by rw[hw];exact HP53.2);have hp_:Kd.R (Kd.int .i64) 3 eT w.heap.size (fun k_=>some k_≠(u6:Value).ownBlock∧some k_≠(.slice (some bL) aG.length bE:Value).ownBlock) (.slice (some ⟨go50,0,none⟩) aQ.length bD) cQ:=(by rw[hw,Ny574.out];exact HP53.1);clear HP53;replace aM:=zA (Kd.Q_after (v:=(.slice (some ⟨go50,0,none⟩) aQ.length bD)) (v1:=(.slice (some ⟨go50,0,none⟩) aQ.length bD)) (ok:=(fun k_=>some k_≠(.slice (some bL) aG.length bE:Value).ownBlock)) (by(with_reducible repeat (first|apply Kd.Q_alloc|apply Kd.Q_drewN|apply Kd.Q_drew));exact Kd.Q_mono aM.out (fun _ hk=>⟨hk.2,hk.1⟩)) hg (.inl rfl));replace aU:=zA (Kd.R_after (v:=(.slice (some ⟨go50,0,none⟩) aQ.length bD)) (v1:=(.slice (some ⟨go50,0,none⟩) aQ.length bD)) (ok:=(fun k_=>some k_≠(u6:Value).ownBlock)) (by(with_reducible repeat (first|apply Kd.R_alloc|apply Kd.R_drewN|apply Kd.R_drew));exact Kd.R_mono aU.out (fun _ hk=>⟨hk.2,hk.1⟩)) hg (.inl rfl));replace aA:=zgr aA hg (Kd.R_ne aC.out aA.out (by decide));replace aC:=zA hp_;replace HB:=zA ((by rw[hw];exact below_set (HB.out) GB50.out:Below w.heap.size w eT));clear hg hw hp_)|((with_reducible refine gate_builtin (b:=.append) (xs:=#[.tmp 76,.tmp 78]) rfl ?_);at_builtin;refine Kd.Q_append (Kd.int .i64) (w0:=w) w.heap.size rfl (.tmp 76) (.tmp 78) 24 3 (.int .i64 0) 8 rfl Try.underlying24 info3 rfl (by decide) (by omega) u6 aY (rd aG aE) [.int .i64 (rd aG aE)] (fun k_=>some k_≠(.slice (some ⟨go50,0,none⟩) aQ.length bD:Value).ownBlock∧some k_≠(.slice (some bL) aG.length bE:Value).ownBlock) (fun _=>False) rfl rfl ?aP (fun _ hk=>hk.elim) ?aF ?aO ?aB ?aS ?aL ?_;(case aP=>exact rfl);(case aB=>exact zb);(case aF=>exact(fun k_ hk=>⟨Kd.fresh' (Kd.R_lt (zR aC)) k_ hk,Kd.fresh' (Kd.R_lt (zR aU)) k_ hk⟩));(case aO=>exact(by(with_reducible repeat (first|apply Kd.Q_alloc|apply Kd.Q_drewN|apply Kd.Q_drew));exact Kd.Q_mono aM.out (fun _ hk=>⟨hk.2,hk.1⟩)));(case aS=>exact(below_size zb));(case aL=>have:=fN.out;omega);intro v576 hP ho hb hg hat;rw[←Ny575.out] at ho;replace aC:=zA (Kd.R_after (ok:=(fun k_=>some k_≠(.slice (some bL) aG.length bE:Value).ownBlock)) (by(with_reducible repeat (first|apply Kd.R_alloc|apply Kd.R_drewN|apply Kd.R_drew));exact Kd.R_mono aC.out (fun _ hk=>⟨hk.2,hk.1⟩)) hg hat);replace aU:=zA (Kd.R_after (ok:=(fun k_=>some k_≠(.slice (some ⟨go50,0,none⟩) aQ.length bD:Value).ownBlock)) (by(with_reducible repeat (first|apply Kd.R_alloc|apply Kd.R_drewN|apply Kd.R_drew));exact Kd.R_mono aU.out (fun _ hk=>⟨hk.2,hk.1⟩)) hg hat);replace aA:=zgr aA hg (Kd.Q_ne aM.out aA.out (by decide));replace HB:=zA hb;have fP:=zA ho;clear aM;clear ho hb hg hat))
              go_roundg k4
              case measure=>have:=HK1.out;have:=HK2.out;have:=HK3.out;have:=HK4.out;omega
              case rel=>exact⟨(cQ),(eO),(wrap64 (aE+1)),zr,H',⟨by have:=HK1.out;have:=HK2.out;have:=HK3.out;have:=HK4.out;omega⟩,⟨by(with_reducible repeat (first|apply Kd.R_alloc|apply Kd.R_drewN|apply Kd.R_drew));exact Kd.R_mono aC.out (fun _ hk=>⟨hk.2,hk.1⟩)⟩,⟨zQ fP⟩,⟨zR aU⟩,⟨zk aA⟩,⟨zb⟩⟩
             ·rw[if_neg c47] at H;have fF:=decide_eq_false c47;clear c47;have H':=zA H;clear H;have gC:=zT (0≤(aE:Int));have gA:=zT (aE<(aG.length:Int));obtain⟨bL,dQ,eH⟩:=Kd.at_int (Kd.R_reads' aU.out).2.2 aE zd zd;cases dQ;obtain⟨hH,gZ,gE⟩:=Kd.R_slice aC.out;subst gE;have gB:=zT (0≤((rd aG aE):Int));have fZ:=zT ((rd aG aE)<(aQ.length:Int));obtain⟨eD,dP,bW⟩:=Kd.at_int (Kd.R_reads' aC.out).2.2 (rd aG aE) zd zd;cases dP;go_wp2
              go_roundg k4
              case measure=>have:=HK1.out;have:=HK2.out;have:=HK3.out;have:=HK4.out;omega
              case rel=>exact⟨(aQ),(aY),(wrap64 (aE+1)),zr,H',⟨by have:=HK1.out;have:=HK2.out;have:=HK3.out;have:=HK4.out;omega⟩,⟨zR aC⟩,⟨zQ aM⟩,⟨zR aU⟩,⟨zk aA⟩,⟨zb⟩⟩
            ·rw[if_neg c42] at H;have fG:=decide_eq_false c42;clear c42;have H':=zA H;clear H;go_wp2
             go_roundg k4
             case measure=>have:=HK1.out;have:=HK2.out;have:=HK3.out;have:=HK4.out;omega
             case rel=>exact⟨(aQ),(aY),H',⟨by have:=HK1.out;have:=HK2.out;have:=HK3.out;have:=HK4.out;omega⟩,⟨by(with_reducible repeat (first|apply Kd.R_alloc|apply Kd.R_drewN|apply Kd.R_drew));exact Kd.R_mono aC.out (fun _ hk=>hk.1)⟩,⟨by(with_reducible repeat (first|apply Kd.Q_alloc|apply Kd.Q_drewN|apply Kd.Q_drew));exact Kd.Q_mono aM.out (fun _ hk=>hk.1)⟩,⟨zk aA⟩,⟨zb⟩⟩
         ·rw[if_neg c33] at H;have dY:decide (0<(aI.length:Int))=false:=decide_eq_false c33;have dX:decide (0<aI.length)=false:=decide_eq_false (by omega);clear c33;obtain rfl:=zI H;obtain⟨hG,gY,gD,_⟩:=Kd.Q_slice aM.out;subst gD;go_wp2;go_ret;exact⟨_,zE,by(with_reducible repeat (first|apply Kd.R_alloc|apply Kd.R_drewN|apply Kd.R_drew));exact Kd.R_mono aC.out (fun _ hk=>trivial),zb⟩

def impl_Days.f (k:Nat) (a0_0:Int) (a0_1:Int) (l0_2:List Int) (a1:Int) (a2:Int):Option (Int):=(impl_IsOpen.f k a0_0 a0_1 l0_2 a1).bind fun t579=>(if t579=true then((impl_IsOpen.f k a0_0 a0_1 l0_2 a2).bind fun t580=>(if t580=true then((impl_distances.f k a0_0 a0_1 l0_2 (([a1]:List Int))).bind fun t584=>(if 0≤a2 then(if a2<(t584.length:Int) then(some (rd t584 a2)) else(none)) else(none))) else(some (-1)))) else(some (-1)))
theorem impl_Days.calls (k:Nat) (aE:Int) (aD:Int) (aH:Option Addr) (aG:Nat) (aC:List Int) (a1:Int) (a2:Int) (r:Int) (w:World) (aU:Kd.C (Kd.int .i64) w aH aC.length aC) (aV:aC.length≤aG) (h:impl_Days.f k aE aD aC a1 a2=some r) :
  Calls Try.prog 21 #[.agg #[.int .i64 aE,.int .i64 aD,.slice aH aC.length aG],.int .i64 a1,.int .i64 a2] w fun e w'=>e=.returned (.int .i64 r)∧Below w.heap.size w w':=by
 have hu26:=Try.underlying26;have aI:=zA aU;have aK:=zA aV;clear aU aV;have HB:=zA (Below.refl w.heap.size w);have H:=h;clear h;unfold impl_Days.f at H;obtain⟨bC,A4,H⟩:=zB H
 by_cases c5:bC=true
 ·subst c5;rw[if_pos rfl] at H;obtain⟨bB,A6,H⟩:=zB H
  by_cases c7:bB=true
  ·subst c7;rw[if_pos rfl] at H;obtain⟨aT,aR⟩:∃ y_:List Int,y_=(([a1]:List Int)):=⟨_,rfl⟩
   replace H:((impl_distances.f k aE aD aC aT).bind fun aN=>(if 0≤a2 then(if a2<(aN.length:Int) then(some (rd aN a2)) else(none)) else(none)))=some r:=zY aR H
   have Ny581:=zA aR;clear aR;obtain⟨aN,A8,H⟩:=zB H;obtain⟨dA,H⟩:=zifD H;obtain⟨cV,H⟩:=zifD H;obtain rfl:=zI H;go_enter Try.func21,Try.ntmps21
   go_wp2_with (first|((with_reducible refine zgd 3 rfl ?_);refine zbx 3 #[.int .i64 aE,.int .i64 aD,.slice aH aC.length aG] 26 ?_;intro aW hg dM hbox hb;have aA:=zA hbox;have aY:=zga (w:=w) hg;replace HB:=zbs hb;clear hb hbox hg;obtain⟨cT,cS,cR,cB,cA,bZ⟩:=ze3 aA)|((with_reducible refine zgf 36 rfl ?_);refine zgl 9 Try.func36 #[.agg #[.int .i64 aE,.int .i64 aD,.slice aH aC.length aG],.int .i64 a1] ?_;(with_reducible refine(impl_IsOpen.calls k aE aD _ _ aC a1 true _ ?s1 ?s2 A4.out).mono ?_);(case s1=>exact zCb aI);(case s2=>exact aK.out);rintro e dL ⟨rfl,hb⟩;refine⟨_,rfl,?_⟩;replace aA:=zkb aA hb;replace HB:=zbs hb;(try clear hb);obtain⟨cQ,cP,cO,bY,bX,bW⟩:=ze3 aA)|(go_at_call 36;(with_reducible refine(impl_IsOpen.calls k aE aD _ _ aC a2 true _ ?s1 ?s2 A6.out).mono ?_);(case s1=>exact zCb aI);(case s2=>exact aK.out);rintro e dK ⟨rfl,hb⟩;replace aA:=zkb aA hb;replace HB:=zbs hb;(try clear hb);obtain⟨cN,cM,cL,bV,bU,bT⟩:=ze3 aA)|((with_reducible refine zgd 19 rfl ?_);refine Kd.R_lit (Kd.int .i64) _ 3 ?hg (N:=19) ?hd (xs:=([a1]:List Int)) (inner:=[.int .i64 a1]) (ok:=fun _=>True) (okp:=fun _=>True) ?hr ?hp (fun _ hk=>hk) trivial (Below.refl _ _) (Nat.le_refl _) (by simp) ?_;(case hd=>rfl);(case hg=>rfl);(case hr=>first|(go_simp;done)|(go_simp;rfl));(case hp=>exact(Reps.one (show Kd.M (Kd.int .i64) _ _ _ a1 [.int .i64 a1] from rfl) (Reps.none _ _)));intro v582 dJ ho18 hb hg_ hnew_;clear hg_ hnew_;(first|rw[←Ny581.out] at ho18|(simp only[Int.reduceToNat] at ho18;rw[←Ny581.out] at ho18));have aJ:=zA (Kd.R_lower ho18 (below_size zb));replace aA:=zkb aA hb;replace HB:=zbs hb;clear hb ho18;obtain⟨bH,bG,bE⟩:=Kd.R_slice aJ.out;subst bE)|((with_reducible refine zgf 43 rfl ?_);refine zgl 20 Try.func43 #[.agg #[.int .i64 aE,.int .i64 aD,.slice aH aC.length aG],.slice bH aT.length bG] ?_;(with_reducible refine(impl_distances.calls k aE aD _ _ aC _ _ aT aN _ ?s1 ?s2 ?s3 ?s4 A8.out).mono ?_);(case s1=>exact zCb aI);(case s2=>exact aK.out);(case s3=>exact zCx (Kd.R_reads' aJ.out).2.2);(case s4=>exact(Kd.R_reads' aJ.out).2.1);rintro e dI ⟨v585,rfl,ho0,hb⟩;refine⟨_,rfl,?_⟩;have aX:=zA (Kd.R_lower (Kd.R_new' ho0 (Kd.R_lt (zR aJ))) (below_size zb));replace aJ:=zA (Kd.R_elder' (zR aJ) (Kd.R_base ho0) hb);replace aA:=zkb aA hb;replace HB:=zbs hb;(try clear hb);(try clear ho0);obtain⟨dB,cZ,bD⟩:=Kd.R_slice aX.out;subst bD;have cY:=zT (0≤(a2:Int));have cX:=zT (a2<(aN.length:Int));obtain⟨cW,bF,bJ⟩:=Kd.at_int (Kd.R_reads' aX.out).2.2 a2 zd zd;cases bF))
   go_ret;exact⟨zE,zb⟩
  ·replace c7:=Bool.eq_false_iff.mpr c7;subst c7;rw[if_neg zNo] at H;obtain rfl:=zI H;go_enter Try.func21,Try.ntmps21
   go_wp2_with (first|((with_reducible refine zgd 3 rfl ?_);refine zbx 3 #[.int .i64 aE,.int .i64 aD,.slice aH aC.length aG] 26 ?_;intro aW hg dH hbox hb;have aA:=zA hbox;have aY:=zga (w:=w) hg;replace HB:=zbs hb;clear hb hbox hg;obtain⟨cK,cJ,cI,bS,bR,bQ⟩:=ze3 aA)|((with_reducible refine zgf 36 rfl ?_);refine zgl 9 Try.func36 #[.agg #[.int .i64 aE,.int .i64 aD,.slice aH aC.length aG],.int .i64 a1] ?_;(with_reducible refine(impl_IsOpen.calls k aE aD _ _ aC a1 true _ ?s1 ?s2 A4.out).mono ?_);(case s1=>exact zCb aI);(case s2=>exact aK.out);rintro e dG ⟨rfl,hb⟩;refine⟨_,rfl,?_⟩;replace aA:=zkb aA hb;replace HB:=zbs hb;(try clear hb);obtain⟨cH,cG,cF,bP,bO,bN⟩:=ze3 aA)|(go_at_call 36;(with_reducible refine(impl_IsOpen.calls k aE aD _ _ aC a2 false _ ?s1 ?s2 A6.out).mono ?_);(case s1=>exact zCb aI);(case s2=>exact aK.out);rintro e dF ⟨rfl,hb⟩;replace aA:=zkb aA hb;replace HB:=zbs hb;(try clear hb)))
   go_ret;exact⟨zE,zb⟩
 ·replace c5:=Bool.eq_false_iff.mpr c5;subst c5;rw[if_neg zNo] at H;obtain rfl:=zI H;go_enter Try.func21,Try.ntmps21
  go_wp2_with (first|((with_reducible refine zgd 3 rfl ?_);refine zbx 3 #[.int .i64 aE,.int .i64 aD,.slice aH aC.length aG] 26 ?_;intro aW hg dE hbox hb;have aA:=zA hbox;have aY:=zga (w:=w) hg;replace HB:=zbs hb;clear hb hbox hg;obtain⟨cE,cD,cC,bM,bL,bK⟩:=ze3 aA)|((with_reducible refine zgf 36 rfl ?_);refine zgl 9 Try.func36 #[.agg #[.int .i64 aE,.int .i64 aD,.slice aH aC.length aG],.int .i64 a1] ?_;(with_reducible refine(impl_IsOpen.calls k aE aD _ _ aC a1 false _ ?s1 ?s2 A4.out).mono ?_);(case s1=>exact zCb aI);(case s2=>exact aK.out);rintro e dD ⟨rfl,hb⟩;refine⟨_,rfl,?_⟩;replace aA:=zkb aA hb;replace HB:=zbs hb;(try clear hb)))
  go_ret;exact⟨zE,zb⟩
end Go.Proofs.Ytkcachediijmoaa.Q
