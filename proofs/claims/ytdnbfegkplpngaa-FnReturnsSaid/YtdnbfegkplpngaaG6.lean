/- Walks of 13 functions of the program: each comes to what a plain function tells. -/
import Derived.Test.YtdnbfegkplpngaaG0
import Derived.Test.YtdnbfegkplpngaaG1
import Derived.Test.YtdnbfegkplpngaaG5
namespace Go.Proofs.Ytdnbfegkplpngaa.Q
open Go.RowKit Go.Proofs.YtdnbfegkplpngaaW.PrintWords Go.Proofs.YtdnbfegkplpngaaW.PrintLast Go.Proofs.YtdnbfegkplpngaaW.PrintMore Go.Proofs.YtdnbfegkplpngaaW.Zip
attribute [local go_sem] max2_int min2_int max_two min_two max_three min_three max_four min_four   -- for this text's walks alone
set_option linter.unusedVariables false
set_option maxHeartbeats 8000000
set_option maxRecDepth 100000
set_option linter.unusedSimpArgs false

def spec_DrawReturnStep.f (k:Nat) (l0:List Int):Option (Int × Int × List Int × Int × Int × Int × (List (S73)) × Int × Int × (List (S76)) × List Bool × Bool):=(spec_l1New.f k l0).bind fun bt432=>((spec_l10Case.f k bt432.1 bt432.2.1 bt432.2.2).bind fun bt436=>((spec_l1Once.f bt432.1 bt436.2.2.2.2.2.2.2.2.2.2.2.1 bt436.2.2.2.2.2.2.2.2.2.2.2.2 2).bind fun bt460=>(some (bt436.1,bt436.2.1,bt436.2.2.1,bt436.2.2.2.1,bt436.2.2.2.2.1,bt436.2.2.2.2.2.1,bt436.2.2.2.2.2.2.1,bt436.2.2.2.2.2.2.2.1,bt436.2.2.2.2.2.2.2.2.1,bt436.2.2.2.2.2.2.2.2.2.1,bt436.2.2.2.2.2.2.2.2.2.2.1,bt460.1))))
def spec_DrawReturnStep.T3:Bool × List (List Nat × List Nat):=(true,[([],[]),([],[]),([],[]),([],[]),([],[]),([],[]),([5],[5]),([0,6,0],[0]),([1,7,0,1,7],[1]),([2,8,0,1,2,7,8],[2]),([3,9,0,1,2,3,7,8,9],[3]),([4,10,0,1,2,3,4,7,8,9,10],[4]),([6,11,0,1,2,3,4,5,6,7,8,9,10,11],[6])])
def spec_DrawReturnStep.B3:List Nat:=[0,0,0,0,0,0,32,97,227,487,1007,2047,4095]
theorem spec_DrawReturnStep.tab3:rtab .any (opsOf Try.f5 3)=spec_DrawReturnStep.T3:=by kernel_rfl
theorem spec_DrawReturnStep.bits3:waitsOk spec_DrawReturnStep.T3.2 spec_DrawReturnStep.B3=true:=by kernel_rfl
theorem spec_DrawReturnStep.calls (k:Nat) (A0:Option Addr) (c0:Nat) (l0:List Int) (r1:Int) (r2:Int) (r3:List Int) (r4:Int) (r5:Int) (r6:Int) (r7:List (S73)) (r8:Int) (r9:Int) (r10:List (S76)) (r11:List Bool) (r12:Bool) (w:World) (eC:Kd.C (Kd.int .u8) w A0 l0.length l0) (eD:l0.length≤c0) (h:spec_DrawReturnStep.f k l0=some (r1,r2,r3,r4,r5,r6,r7,r8,r9,r10,r11,r12)) :
  Calls Try.prog 5 #[.slice A0 l0.length c0] w fun e w'=>∃ v2_ v6_ v9_ v10_:Value,e=.returned (.tuple #[.agg #[.int .i64 r1,.int .i64 r2,v2_],.int .i64 r4,.agg #[.int .i64 r5,.int .i64 r6],v6_,.agg #[.int .i64 r8,.int .i64 r9,v9_,v10_],.bool r12])∧Kd.Q (Kd.int .i64) 3 w' w.heap.size (fun _=>True) v2_ r3∧Kd.R k73 73 w' w.heap.size (fun _=>True) v6_ r7∧Kd.R k76 76 w' w.heap.size (fun _=>True) v9_ r10∧Kd.R Kd.bool 4 w' w.heap.size (fun _=>True) v10_ r11∧Below w.heap.size w w':=by
 have hu26:=Try.underlying26;have hu28:=Try.underlying28;have hu33:=Try.underlying33;have iX:=zA eC;have iY:=zA eD;clear eC eD;have HB:=zA (Below.refl w.heap.size w);have H:=h;clear h;unfold spec_DrawReturnStep.f at H;obtain⟨⟨cH,dR,dQ⟩,A2,H⟩:=zB H;obtain⟨⟨bU,bT,bN,eH,bS,bR,dP,bQ,bP,bM,bL,cJ,cI⟩,A3,H⟩:=zB H;obtain⟨⟨eG,eF,eE⟩,A4,H⟩:=zB H;simp only[Option.some.injEq,Prod.mk.injEq] at H;obtain⟨rfl,rfl,rfl,rfl,rfl,rfl,rfl,rfl,rfl,rfl,rfl,rfl⟩:=H;go_enter Try.func5,Try.ntmps5
 try go_wp2_with (first|((with_reducible refine zgd 2 rfl ?_);refine zbx 2 #[.int .i64 0,.int .i64 0,.slice none 0 0] 26 ?_;intro aJ hg w5 hbox hb;have aE:=zA hbox;have kR:=zga (w:=w) hg;have bH:=zga (w:=w) hg;replace HB:=zbs hb;clear hb hbox hg)|((with_reducible refine zgd 4 rfl ?_);refine zbx 4 #[.int .i64 0,.int .i64 0] 28 ?_;intro aU hg w6 hbox hb;have aH:=zA hbox;have kQ:=zga (w:=w) hg;have bG:=zga (w:=w) hg;replace HB:=zbs hb;replace aE:=zlh aE hg hb;obtain⟨cO,cN,aE⟩:=aE;clear hb hbox hg)|((with_reducible refine zgd 6 rfl ?_);refine zbx 6 #[.int .i64 0,.int .i64 0,.slice none 0 0,.slice none 0 0] 33 ?_;intro aD hg w7 hbox hb;have aG:=zA hbox;have kP:=zga (w:=w) hg;have bF:=zga (w:=w) hg;replace HB:=zbs hb;replace aE:=zlh aE hg hb;obtain⟨cE,cD,aE⟩:=aE;replace aH:=zlh aH hg hb;obtain⟨cG,cF,aH⟩:=aH;clear hb hbox hg)|((with_reducible refine zgf 18 rfl ?_);refine zgl 15 Try.func18 #[.slice A0 l0.length c0] ?_;(with_reducible refine(spec_l1New.calls k _ _ l0 cH dR dQ w _ ?s1 ?s2 ?s3 A2.out).mono ?_);(case s1=>exact zb);(case s2=>exact iX.out);(case s3=>exact iY.out);rintro e w8 ⟨g435,rfl,hi,hb,hb2⟩;refine⟨_,rfl,?_⟩;replace HB:=zA hb;have HI435:=zA (hi);have aT:=zA (IsS86.ne_blk hi (blk_below (g:=aJ) (o:=.cells #[.int .i64 0,.int .i64 0,.slice none 0 0] 26 (0,0)) (zk aE) hb2) (by decide));have dE:=zA (Ne.symm (IsS86.ne_blk hi (blk_below (g:=aJ) (o:=.cells #[.int .i64 0,.int .i64 0,.slice none 0 0] 26 (0,0)) (zk aE) hb2) (by decide)));replace aE:=zA (blk_below (g:=aJ) (o:=.cells #[.int .i64 0,.int .i64 0,.slice none 0 0] 26 (0,0)) (zk aE) hb2);have aR:=zA (IsS86.ne_blk hi (blk_below (g:=aU) (o:=.cells #[.int .i64 0,.int .i64 0] 28 (0,0)) (zk aH) hb2) (by decide));have dD:=zA (Ne.symm (IsS86.ne_blk hi (blk_below (g:=aU) (o:=.cells #[.int .i64 0,.int .i64 0] 28 (0,0)) (zk aH) hb2) (by decide)));replace aH:=zA (blk_below (g:=aU) (o:=.cells #[.int .i64 0,.int .i64 0] 28 (0,0)) (zk aH) hb2);have aQ:=zA (IsS86.ne_blk hi (blk_below (g:=aD) (o:=.cells #[.int .i64 0,.int .i64 0,.slice none 0 0,.slice none 0 0] 33 (0,0)) (zk aG) hb2) (by decide));have dC:=zA (Ne.symm (IsS86.ne_blk hi (blk_below (g:=aD) (o:=.cells #[.int .i64 0,.int .i64 0,.slice none 0 0,.slice none 0 0] 33 (0,0)) (zk aG) hb2) (by decide)));replace aG:=zA (blk_below (g:=aD) (o:=.cells #[.int .i64 0,.int .i64 0,.slice none 0 0,.slice none 0 0] 33 (0,0)) (zk aG) hb2);(try clear hb))|((with_reducible refine zgf 19 rfl ?_);refine zgl 18 Try.func19 #[.pointer (some ⟨g435,0,none⟩)] ?_;(with_reducible refine(spec_l10Case.calls k g435 cH dR dQ bU bT bN eH bS bR dP bQ bP bM bL cJ cI w _ ?s1 ?s2 A3.out).mono ?_);(case s1=>exact zI1);(case s2=>exact zB1);rintro e w9 ⟨v439,v445,v450,v453,rfl,ho0,ho1,ho2,ho3,hi,hb,hk⟩;refine⟨_,rfl,?_⟩;replace aE:=zkB hk aE dE;replace aH:=zkB hk aH dD;replace aG:=zkB hk aG dC;have bK:=zA (Kd.Q_lower ho0 (below_size zB1));have bO:=zA (Kd.R_lower ho1 (below_size zB1));have bJ:=zA (Kd.R_lower ho2 (below_size zB1));have bI:=zA (Kd.R_lower ho3 (below_size zB1));replace HB:=zA hb;replace HI435:=zA (hi);(try clear hb);(try clear ho0);(try clear ho1);(try clear ho2);(try clear ho3))|((with_reducible refine zgd 9 rfl ?_);refine zbx 9 #[.int .i64 0,.int .i64 0,.slice none 0 0] 26 ?_;intro aC hg lG hbox hb;replace bK:=zA (Kd.Q_below (zQ bK) hb);replace bO:=zRb bO hb;replace bJ:=zRb bJ hb;replace bI:=zRb bI hb;have aV:=zA hbox;have kO:=zA ((by rw[hg];exact(below_size zB1):w.heap.size≤aC));have cP:=zA ((by rw[hg];exact(below_size zB1):w.heap.size≤aC));replace HB:=zA (below_step zB1 hb);replace aE:=zlh aE hg hb;obtain⟨cS,aX,aE⟩:=aE;replace aH:=zlh aH hg hb;obtain⟨cW,bE,aH⟩:=aH;replace aG:=zlh aG hg hb;obtain⟨cM,aM,aG⟩:=aG;have aY:=zA ((by rw[hg];exact Nat.ne_of_lt (IsS86.lt (show IsS86 w _ g435 cH cJ cI from zI1)):g435≠aC));have dB:=zA ((by rw[hg];exact Nat.ne_of_gt (IsS86.lt (show IsS86 w _ g435 cH cJ cI from zI1)):aC≠g435));replace HI435:=zA (IsS86.below zI1 hb);clear hb hbox hg)|((with_reducible refine zgd 11 rfl ?_);refine zbx 11 #[.int .i64 0,.int .i64 0] 28 ?_;intro aK hg lF hbox hb;replace bK:=zA (Kd.Q_below (zQ bK) hb);replace bO:=zRb bO hb;replace bJ:=zRb bJ hb;replace bI:=zRb bI hb;have bA:=zA hbox;have kN:=zA ((by rw[hg];exact(below_size zB1):w.heap.size≤aK));have cX:=zA ((by rw[hg];exact(below_size zB1):w.heap.size≤aK));replace HB:=zA (below_step zB1 hb);replace aE:=zlh aE hg hb;obtain⟨cR,bC,aE⟩:=aE;replace aH:=zlh aH hg hb;obtain⟨cV,cB,aH⟩:=aH;replace aG:=zlh aG hg hb;obtain⟨cL,aW,aG⟩:=aG;replace aV:=zlh aV hg hb;obtain⟨dL,dJ,aV⟩:=aV;have bD:=zA ((by rw[hg];exact Nat.ne_of_lt (IsS86.lt (show IsS86 w _ g435 cH cJ cI from zI1)):g435≠aK));have dA:=zA ((by rw[hg];exact Nat.ne_of_gt (IsS86.lt (show IsS86 w _ g435 cH cJ cI from zI1)):aK≠g435));replace HI435:=zA (IsS86.below zI1 hb);clear hb hbox hg)|((with_reducible refine zgd 13 rfl ?_);refine zbx 13 #[.int .i64 0,.int .i64 0,.slice none 0 0,.slice none 0 0] 33 ?_;intro aA hg cT hbox hb;replace bK:=zA (Kd.Q_below (zQ bK) hb);replace bO:=zRb bO hb;replace bJ:=zRb bJ hb;replace bI:=zRb bI hb;have aZ:=zA hbox;have kM:=zA ((by rw[hg];exact(below_size zB1):w.heap.size≤aA));have dF:=zA ((by rw[hg];exact(below_size zB1):w.heap.size≤aA));replace HB:=zA (below_step zB1 hb);replace aE:=zlh aE hg hb;obtain⟨cQ,aN,aE⟩:=aE;replace aH:=zlh aH hg hb;obtain⟨cU,bB,aH⟩:=aH;replace aG:=zlh aG hg hb;obtain⟨cK,aI,aG⟩:=aG;replace aV:=zlh aV hg hb;obtain⟨dK,dH,aV⟩:=aV;replace bA:=zlh bA hg hb;obtain⟨dI,dG,bA⟩:=bA;have cC:=zA ((by rw[hg];exact Nat.ne_of_lt (IsS86.lt (show IsS86 w _ g435 cH cJ cI from zI1)):g435≠aA));have cZ:=zA ((by rw[hg];exact Nat.ne_of_gt (IsS86.lt (show IsS86 w _ g435 cH cJ cI from zI1)):aA≠g435));replace HI435:=zA (IsS86.below zI1 hb);clear hb hbox hg;have kC:=aX.out;have jN:=cS.out;have kB:=bE.out;have jM:=cW.out;have kA:=aM.out;have jL:=cM.out;have jZ:=dL.out;have jK:=dJ.out;have jY:=dK.out;have jJ:=dH.out;have jX:=dB.out;have jI:=aY.out;obtain⟨iV,iU,iT,iM,iL,iK⟩:=ze3 aV;obtain⟨cA,bX,eK,_⟩:=Kd.Q_slice bK.out;subst eK;have jW:=bC.out;have jH:=cR.out;have jV:=cB.out;have jG:=cV.out;have jU:=aW.out;have jF:=cL.out;have jT:=dI.out;have jE:=dG.out;have jS:=dA.out;have jD:=bD.out;obtain⟨iS,iR,iJ,iI⟩:=ze2 bA;have jR:=aN.out;have jC:=cQ.out;have jQ:=bB.out;have jB:=cU.out;have jP:=aI.out;have jA:=cK.out;have jO:=cZ.out;have iZ:=cC.out;obtain⟨iQ,iP,iO,iN,iH,iG,iF,iE⟩:=ze4 aZ;obtain⟨bZ,bW,eJ⟩:=Kd.R_slice bJ.out;subst eJ;obtain⟨bY,bV,eI⟩:=Kd.R_slice bI.out;subst eI))
 obtain⟨iW,hx_⟩:∃ x_,x_=((((((((cT.setCell ⟨aC,0,none⟩ (.int .i64 bU)).setCell ⟨aC,1,none⟩ (.int .i64 bT)).setCell ⟨aC,2,none⟩ (.slice cA bN.length bX)).setCell ⟨aK,0,none⟩ (.int .i64 bS)).setCell ⟨aK,1,none⟩ (.int .i64 bR)).setCell ⟨aA,0,none⟩ (.int .i64 bQ)).setCell ⟨aA,1,none⟩ (.int .i64 bP)).setCell ⟨aA,2,none⟩ (.slice bZ bM.length bW)).setCell ⟨aA,3,none⟩ (.slice bY bL.length bV):=⟨_,rfl⟩;have eB:Aside0 (Kd.Q (Kd.int .i64) 3 iW w.heap.size (fun _=>True) (.slice cA bN.length bX) bN):=⟨by rw[hx_];exact zG3 bK aV bA aZ⟩;have eA:Aside0 (Kd.R k73 73 iW w.heap.size (fun _=>True) v445 dP):=⟨by rw[hx_];exact zF3 bO aV bA aZ⟩;have dZ:Aside0 (Kd.R k76 76 iW w.heap.size (fun _=>True) (.slice bZ bM.length bW) bM):=⟨by rw[hx_];exact zF3 bJ aV bA aZ⟩;have dY:Aside0 (Kd.R Kd.bool 4 iW w.heap.size (fun _=>True) (.slice bY bL.length bV) bL):=⟨by rw[hx_];exact zF3 bI aV bA aZ⟩;have dX:Aside0 (iW.heap[aJ]?=some (.cells #[.int .i64 0,.int .i64 0,.slice none 0 0] 26 (0,0))):=⟨by rw[hx_];exact zkf aE⟩
 have dW:Aside0 (iW.heap[aU]?=some (.cells #[.int .i64 0,.int .i64 0] 28 (0,0))):=⟨by rw[hx_];exact zkf aH⟩;have dV:Aside0 (iW.heap[aD]?=some (.cells #[.int .i64 0,.int .i64 0,.slice none 0 0,.slice none 0 0] 33 (0,0))):=⟨by rw[hx_];exact zkf aG⟩;have dU:Aside0 (iW.heap[aC]?=some (.cells #[.int .i64 bU,.int .i64 bT,.slice cA bN.length bX] 26 (0,0))):=⟨by rw[hx_];exact zkp aV⟩
 have dT:Aside0 (iW.heap[aK]?=some (.cells #[.int .i64 bS,.int .i64 bR] 28 (0,0))):=⟨by rw[hx_];exact zkp bA⟩;have dS:Aside0 (iW.heap[aA]?=some (.cells #[.int .i64 bQ,.int .i64 bP,.slice bZ bM.length bW,.slice bY bL.length bV] 33 (0,0))):=⟨by rw[hx_];exact zkp aZ⟩
 have dN:Aside0 (IsS86 w iW g435 cH cJ cI):=⟨by rw[hx_];exact zI1⟩;have dM:Aside0 (Below w.heap.size w iW):=⟨by rw[hx_];exact zB1⟩;(try clear bK bO bJ bI aE aH aG aV bA aZ);(try clear HI435);(try clear HB);rw[← hx_];clear hx_;have bK:=eB;have bO:=eA;have bJ:=dZ;have bI:=dY;have aE:=dX;have aH:=dW;have aG:=dV;have aV:=dU;have bA:=dT;have aZ:=dS;have HI435:=dN;have HB:=dM;clear eB eA dZ dY dX dW dV dU dT dS dN dM;replace bK:=zA (Kd.Q_drew bK.out);replace bO:=zA (Kd.R_drew bO.out);replace bJ:=zA (Kd.R_drew bJ.out);replace bI:=zA (Kd.R_drew bI.out);replace aE:=zA (blk_drew aE.out);replace aH:=zA (blk_drew aH.out);replace aG:=zA (blk_drew aG.out);replace aV:=zA (blk_drew aV.out);replace bA:=zA (blk_drew bA.out);replace aZ:=zA (blk_drew aZ.out);replace HI435:=zA (IsS86.drew HI435.out);replace HB:=zA (below_drew1 HB.out);refine start_ (n:=13) (S:=fun w'=>w'.cell? ⟨aC,0,none⟩=some (.int .i64 bU)∧w'.cell? ⟨aC,1,none⟩=some (.int .i64 bT)∧w'.cell? ⟨aC,2,none⟩=some (.slice cA bN.length bX)∧w'.cell? ⟨aK,0,none⟩=some (.int .i64 bS)∧w'.cell? ⟨aK,1,none⟩=some (.int .i64 bR)∧w'.cell? ⟨aA,0,none⟩=some (.int .i64 bQ)∧w'.cell? ⟨aA,1,none⟩=some (.int .i64 bP)∧w'.cell? ⟨aA,2,none⟩=some (.slice bZ bM.length bW)∧w'.cell? ⟨aA,3,none⟩=some (.slice bY bL.length bV)) (ds:=[]) _ (by kernel_rfl) rfl rfl ⟨zq aV 0,zq aV 1,zq aV 2,zq bA 0,zq bA 1,zq aZ 0,zq aZ 1,zq aZ 2,zq aZ 3⟩ (fun hHeld=>?_);refine with_tabW spec_DrawReturnStep.tab3 spec_DrawReturnStep.bits3 (fun HT_ HW_=>?_)
 generalize iW.drew=lE at bK bO bJ bI aE aH aG aV bA aZ HI435 HB hHeld ⊢;refine z_p 1 ?_;refine z_p 3 ?_;refine z_p 5 ?_;refine zt 0 24 HT_ HW_ hHeld ?_;refine zt 2 26 HT_ HW_ hHeld ?_;refine zt 4 28 HT_ HW_ hHeld ?_;refine zo 6 30 HT_ (fun K hK=>?_);refine zgo Try.func20 #[.pointer (some ⟨g435,0,none⟩),.int .i64 2] ?_
 with_reducible refine(spec_l1Once.calls g435 cH cJ cI 2 eG eF eE w _ ?s1 ?s2 A4.out).mono ?_
 (case s1=>exact zI1);(case s2=>exact zB1);rintro e cY ⟨rfl,hi,hb,hk⟩;refine⟨_,rfl,?_⟩;replace aE:=zkB hk aE dE;replace aH:=zkB hk aH dD;replace aG:=zkB hk aG dC;replace bK:=zA (Kd.Q_mono (Kd.Q_keep (IsS86.apartQ (show IsS86 w _ g435 cH cJ cI from zI1) (zQ bK) (by decide)) hk (fun _ h=>h.2)) (fun _ h=>h.1));replace bO:=zA (Kd.R_mono (Kd.R_keep (IsS86.apart (show IsS86 w _ g435 cH cJ cI from zI1) (zR bO) (by decide)) hk (fun _ h=>h.2)) (fun _ h=>h.1));replace bJ:=zA (Kd.R_mono (Kd.R_keep (IsS86.apart (show IsS86 w _ g435 cH cJ cI from zI1) (zR bJ) (by decide)) hk (fun _ h=>h.2)) (fun _ h=>h.1));replace bI:=zA (Kd.R_mono (Kd.R_keep (IsS86.apart (show IsS86 w _ g435 cH cJ cI from zI1) (zR bI) (by decide)) hk (fun _ h=>h.2)) (fun _ h=>h.1));replace aV:=zkB hk aV dB;replace bA:=zkB hk bA dA;replace aZ:=zkB hk aZ cZ
 replace HB:=zA hb;replace HI435:=zA (hi);(try clear hb);refine hK.out _ _ ⟨zq aV 0,zq aV 1,zq aV 2,zq bA 0,zq bA 1,zq aZ 0,zq aZ 1,zq aZ 2,zq aZ 3⟩ (fun hHeld=>?_);clear hK K;refine norm_ zV ?_;refine zon 7 HT_ (fun K hK=>?_);have lA:cY.cell? ⟨aJ,0,none⟩=some (.int .i64 0):=zq aE 0;have kL:=blk_frozen aE.out 0;have gF:=cN.out;have gE:=cD.out;have gD:=aX.out;have gC:=bC.out;have gB:=aN.out;have iD:=cO.out;have iC:=cE.out;have iB:=cS.out;have iA:=cR.out;have hZ:=cQ.out;have kZ:cY.cell? ⟨aJ,1,none⟩=some (.int .i64 0):=zq aE 1;have kK:=blk_frozen aE.out 1;have gA:=cN.out;have fZ:=cD.out;have fY:=aX.out;have fX:=bC.out;have fW:=aN.out;have hY:=cO.out;have hX:=cE.out;have hW:=cS.out;have hV:=cR.out;have hU:=cQ.out;have kY:cY.cell? ⟨aJ,2,none⟩=some (.slice none 0 0):=zq aE 2;have kJ:=blk_frozen aE.out 2;have fV:=cN.out;have fU:=cD.out;have fT:=aX.out;have fS:=bC.out;have fR:=aN.out;have hT:=cO.out;have hS:=cE.out;have hR:=cS.out;have hQ:=cR.out;have hP:=cQ.out;refine skip_ (w1:=?_) (by rfl) rfl ?_ ?_;rotate_left
 ·go_simp
  rfl
 refine hK.out _ _ ⟨(zCF hHeld.1),(zCF hHeld.2.1),(zCF hHeld.2.2.1),(zCF hHeld.2.2.2.1),(zCF hHeld.2.2.2.2.1),(zCF hHeld.2.2.2.2.2.1),(zCF hHeld.2.2.2.2.2.2.1),(zCF hHeld.2.2.2.2.2.2.2.1),(zCF hHeld.2.2.2.2.2.2.2.2)⟩ (fun hHeld=>?_);clear hK K;refine z_p 8 ?_;refine zon 9 HT_ (fun K hK=>?_);have kX:cY.cell? ⟨aU,0,none⟩=some (.int .i64 0):=zq aH 0;have kI:=blk_frozen aH.out 0;have fQ:=cO.out;have fP:=cF.out;have fO:=bE.out;have fN:=cB.out;have fM:=bB.out;have hO:=cN.out;have hN:=cG.out;have hM:=cW.out;have hJ:=cV.out;have hI:=cU.out;have kW:cY.cell? ⟨aU,1,none⟩=some (.int .i64 0):=zq aH 1;have kH:=blk_frozen aH.out 1;have fL:=cO.out;have fK:=cF.out;have fJ:=bE.out;have fI:=cB.out;have fH:=bB.out;have hH:=cN.out;have hG:=cG.out;have hF:=cW.out;have hE:=cV.out;have hD:=cU.out;refine skip_ (w1:=?_) (by rfl) rfl ?_ ?_;rotate_left
 ·go_simp
  rfl
 refine hK.out _ _ ⟨(zCF hHeld.1),(zCF hHeld.2.1),(zCF hHeld.2.2.1),(zCF hHeld.2.2.2.1),(zCF hHeld.2.2.2.2.1),(zCF hHeld.2.2.2.2.2.1),(zCF hHeld.2.2.2.2.2.2.1),(zCF hHeld.2.2.2.2.2.2.2.1),(zCF hHeld.2.2.2.2.2.2.2.2)⟩ (fun hHeld=>?_);clear hK K;refine z_p 10 ?_;refine zon 11 HT_ (fun K hK=>?_);have kV:cY.cell? ⟨aD,0,none⟩=some (.int .i64 0):=zq aG 0;have kG:=blk_frozen aG.out 0;have fG:=cE.out;have fF:=cG.out;have fE:=aM.out;have fD:=aW.out;have fC:=aI.out;have gZ:=cD.out;have gY:=cF.out;have gX:=cM.out;have gW:=cL.out;have gV:=cK.out;have kU:cY.cell? ⟨aD,1,none⟩=some (.int .i64 0):=zq aG 1;have kF:=blk_frozen aG.out 1;have fB:=cE.out;have fA:=cG.out;have eZ:=aM.out;have eY:=aW.out;have eX:=aI.out;have gU:=cD.out;have gT:=cF.out;have gS:=cM.out;have gR:=cL.out;have gQ:=cK.out;have kT:cY.cell? ⟨aD,2,none⟩=some (.slice none 0 0):=zq aG 2;have kE:=blk_frozen aG.out 2;have eW:=cE.out;have eV:=cG.out;have eU:=aM.out;have eT:=aW.out;have eS:=aI.out;have gP:=cD.out;have gO:=cF.out;have gN:=cM.out;have gM:=cL.out;have gL:=cK.out;have kS:cY.cell? ⟨aD,3,none⟩=some (.slice none 0 0):=zq aG 3;have kD:=blk_frozen aG.out 3;have eR:=cE.out;have eQ:=cG.out;have eP:=aM.out;have eO:=aW.out;have eN:=aI.out;have gK:=cD.out;have gJ:=cF.out;have gI:=cM.out;have gH:=cL.out;have gG:=cK.out;refine skip_ (w1:=?_) (by rfl) rfl ?_ ?_;rotate_left
 ·go_simp
  rfl
 refine hK.out _ _ ⟨(zCF hHeld.1),(zCF hHeld.2.1),(zCF hHeld.2.2.1),(zCF hHeld.2.2.2.1),(zCF hHeld.2.2.2.2.1),(zCF hHeld.2.2.2.2.2.1),(zCF hHeld.2.2.2.2.2.2.1),(zCF hHeld.2.2.2.2.2.2.2.1),(zCF hHeld.2.2.2.2.2.2.2.2)⟩ (fun hHeld=>?_);clear hK K;refine z_p 12 ?_;refine done_ (done_of HT_.out (by kernel_rfl)) ?_
 try go_wp2
 refine bodyPost_ret (results_list (rs:=[.cell 2 26,.tmp 3,.cell 4 28,.tmp 5,.cell 6 33,.tmp 7]) rfl (by simp) (.cell aJ 26 #[.int .i64 bU,.int .i64 bT,.slice cA bN.length bX] (0,0) _ rfl (zkp aE) Try.underlying26 rfl (by kernel_rfl) (.tmp (.cell aU 28 #[.int .i64 bS,.int .i64 bR] (0,0) _ rfl (zkp aH) Try.underlying28 rfl (by kernel_rfl) (.tmp (.cell aD 33 #[.int .i64 bQ,.int .i64 bP,.slice bZ bM.length bW,.slice bY bL.length bV] (0,0) _ rfl (zkp aG) Try.underlying33 rfl (by kernel_rfl) (.tmp .nil))))))) rfl ?_;exact⟨_,_,_,_,zE,zG3 bK aE aH aG,zF3 bO aE aH aG,zF3 bJ aE aH aG,zF3 bI aE aH aG,zB1⟩

def impl_InRange.f (a0:Int) (a1:Int) (a2:Int):Option (Bool):=if a1≤a0 then(some (decide (a0≤a2))) else(some false)
theorem impl_InRange.calls (a0:Int) (a1:Int) (a2:Int) (r:Bool) (w:World) (h:impl_InRange.f a0 a1 a2=some r) :
  Calls Try.prog 40 #[.int .i64 a0,.int .i64 a1,.int .i64 a2] w fun e w'=>e=.returned (.bool r)∧Drawn0 w w':=by
 have H:=h;clear h;unfold impl_InRange.f at H
 by_cases c4:a1≤a0
 ·rw[if_pos c4] at H;have aA:=decide_eq_true c4;clear c4;obtain rfl:=zI H;go_enter Try.func40,Try.ntmps40;go_wp2;go_ret;exact⟨by first|rfl|(simp;done)|(simp[*];done),by repeat (first|exact Drawn0.refl _|apply Drawn0.step)⟩
 ·rw[if_neg c4] at H;have aA:=decide_eq_false c4;clear c4;obtain rfl:=zI H;go_enter Try.func40,Try.ntmps40;go_wp2;go_ret;exact⟨by first|rfl|(simp;done)|(simp[*];done),by repeat (first|exact Drawn0.refl _|apply Drawn0.step)⟩

def impl_allIn.l0:Nat→Int→Int→List Int→Int→Int→Option (Bool)
  |0,_,_,_,_,_=>none
  |k+1,x1,x2,x9,x10,x11=>if x11<x10 then(if 0≤x11 then(if x11<(x9.length:Int) then((impl_InRange.f (rd x9 x11) x1 x2).bind fun t464=>(if t464=true then(impl_allIn.l0 k x1 x2 x9 x10 (wrap64 (x11+1))) else(some false))) else(none)) else(none)) else(some true)
def impl_allIn.f (k:Nat) (l0:List Int) (a1:Int) (a2:Int):Option (Bool):=impl_allIn.l0 k a1 a2 l0 (l0.length:Int) 0
theorem impl_allIn.calls (k:Nat) (A0:Option Addr) (c0:Nat) (l0:List Int) (a1:Int) (a2:Int) (r:Bool) (w:World) (aK:Kd.C (Kd.int .i64) w A0 l0.length l0) (aM:l0.length≤c0) (h:impl_allIn.f k l0 a1 a2=some r) :
  Calls Try.prog 54 #[.slice A0 l0.length c0,.int .i64 a1,.int .i64 a2] w fun e w'=>e=.returned (.bool r)∧Drawn0 w w':=by
 have aN:=zA aK;have bA:=zA aM;clear aK aM;have H:=h;clear h;unfold impl_allIn.f at H;have H':=zA H;clear H;go_enter Try.func54,Try.ntmps54;go_wp2
 go_loopg [11] k (fun kq v11 w'=>∃ (aA:Int),v11=.int .i64 aA∧Aside0 (impl_allIn.l0 kq a1 a2 l0 (l0.length:Int) aA=some r)∧Aside0 (kq≤k)∧Drawn0 w w')
 case atStart=>exact⟨(0),zr,H',⟨Nat.le_refl _⟩,by repeat (first|exact Drawn0.refl _|apply Drawn0.step)⟩
 case round =>
  clear H';obtain⟨aA,rfl,HA,HK1,⟨m1,rfl⟩⟩:=hrel
  cases gk with
  |zero=>exact absurd HA.out (by simp[impl_allIn.l0])
  |succ k1 =>
   have H:=HA.out;clear HA;simp only[impl_allIn.l0] at H
   by_cases c4:aA<(l0.length:Int)
   ·rw[if_pos c4] at H;have aU:=decide_eq_true c4;clear c4;obtain⟨aZ,H⟩:=zifD H;obtain⟨aY,H⟩:=zifD H;obtain⟨aQ,A7,H⟩:=zB H
    by_cases c8:aQ=true
    ·subst c8;rw[if_pos rfl] at H;have H':=zA H;clear H;have aT:=zT (0≤(aA:Int));have aR:=zT (aA<(l0.length:Int));obtain⟨aJ,aD,aH⟩:=Kd.at_int aN.out aA zd zd;cases aD
     go_wp2_with (first|((with_reducible refine zgf 40 rfl ?_);refine zgl 18 Try.func40 #[.int .i64 (rd l0 aA),.int .i64 a1,.int .i64 a2] ?_;(with_reducible refine(impl_InRange.calls (rd l0 aA) a1 a2 true _ A7.out).mono ?_);rintro e w' ⟨rfl,⟨nd,rfl⟩⟩;refine⟨_,rfl,?_⟩))
     go_roundg k1
     case measure=>have:=HK1.out;omega
     case rel=>exact⟨(wrap64 (aA+1)),zr,H',⟨by have:=HK1.out;omega⟩,by repeat (first|exact Drawn0.refl _|apply Drawn0.step)⟩
    ·replace c8:=Bool.eq_false_iff.mpr c8;subst c8;rw[if_neg zNo] at H;obtain rfl:=zI H;have aT:=zT (0≤(aA:Int));have aR:=zT (aA<(l0.length:Int));obtain⟨aJ,aD,aH⟩:=Kd.at_int aN.out aA zd zd;cases aD
     go_wp2_with (first|((with_reducible refine zgf 40 rfl ?_);refine zgl 18 Try.func40 #[.int .i64 (rd l0 aA),.int .i64 a1,.int .i64 a2] ?_;(with_reducible refine(impl_InRange.calls (rd l0 aA) a1 a2 false _ A7.out).mono ?_);rintro e w' ⟨rfl,⟨nd,rfl⟩⟩;refine⟨_,rfl,?_⟩))
     go_ret;exact⟨by first|rfl|(simp;done)|(simp[*];done),by repeat (first|exact Drawn0.refl _|apply Drawn0.step)⟩
   ·rw[if_neg c4] at H;have aU:=decide_eq_false c4;clear c4;obtain rfl:=zI H;go_wp2;go_ret;exact⟨by first|rfl|(simp;done)|(simp[*];done),by repeat (first|exact Drawn0.refl _|apply Drawn0.step)⟩

def impl_IsLand.f (k:Nat) (a0_0:Int) (a0_1:Int) (l0_2:List Int):Option (Bool):=(impl_InRange.f a0_0 1 8).bind fun t466=>(if t466=true then((impl_InRange.f a0_1 1 8).bind fun t467=>(if t467=true then(if (l0_2.length:Int)=(wrap64 (a0_0 * a0_1)) then((impl_allIn.f k l0_2 0 2).bind fun t468=>(some t468)) else(some false)) else(some false))) else(some false))
theorem impl_IsLand.calls (k:Nat) (aA:Int) (aD:Int) (aH:Option Addr) (aG:Nat) (aC:List Int) (r:Bool) (w:World) (aK:Kd.C (Kd.int .i64) w aH aC.length aC) (aM:aC.length≤aG) (h:impl_IsLand.f k aA aD aC=some r) :
  Calls Try.prog 41 #[.agg #[.int .i64 aA,.int .i64 aD,.slice aH aC.length aG]] w fun e w'=>e=.returned (.bool r)∧Below w.heap.size w w':=by
 have hu26:=Try.underlying26;have aR:=zA aK;have aT:=zA aM;clear aK aM;have HB:=zA (Below.refl w.heap.size w);have H:=h;clear h;unfold impl_IsLand.f at H;obtain⟨aX,A2,H⟩:=zB H
 by_cases c3:aX=true
 ·subst c3;rw[if_pos rfl] at H;obtain⟨aW,A4,H⟩:=zB H
  by_cases c5:aW=true
  ·subst c5;rw[if_pos rfl] at H
   by_cases c6:(aC.length:Int)=(wrap64 (aA * aD))
   ·rw[if_pos c6] at H;have aZ:((aC.length:Int)==(wrap64 (aA * aD)))=true:=beq_iff_eq.mpr c6;have aY:((aC.length:Int) != (wrap64 (aA * aD)))=false:=bne_eq_false_iff_eq.mpr c6;clear c6;obtain⟨aV,A7,H⟩:=zB H;obtain rfl:=zI H;go_enter Try.func41,Try.ntmps41
    go_wp2_with (first|((with_reducible refine zgd 1 rfl ?_);(try (refine gate_guard (by rfl) ?_;dsimp only));refine zbx 1 #[.int .i64 aA,.int .i64 aD,.slice aH aC.length aG] 26 ?_;intro aI hg w8 hbox hb;have aE:=zA hbox;have aJ:=zga (w:=w) hg;replace HB:=zbs hb;clear hb hbox hg;obtain⟨bY,bX,bW,bV,bU,bT⟩:=ze3 aE)|((with_reducible refine zgf 40 rfl ?_);refine zgl 5 Try.func40 #[.int .i64 aA,.int .i64 1,.int .i64 8] ?_;(with_reducible refine(impl_InRange.calls aA 1 8 true _ A2.out).mono ?_);rintro e w' ⟨rfl,⟨nd,rfl⟩⟩;refine⟨_,rfl,?_⟩)|(go_at_call 40;(with_reducible refine(impl_InRange.calls aD 1 8 true _ A4.out).mono ?_);rintro e w' ⟨rfl,⟨nd,rfl⟩⟩)|(go_at_call 54;(with_reducible refine(impl_allIn.calls k _ _ aC 0 2 aV _ ?s1 ?s2 A7.out).mono ?_);(case s1=>exact zCb aR);(case s2=>exact aT.out);rintro e w' ⟨rfl,⟨nd,rfl⟩⟩))
    go_ret;exact⟨zE,zb⟩
   ·rw[if_neg c6] at H;have aZ:((aC.length:Int)==(wrap64 (aA * aD)))=false:=beq_eq_false_iff_ne.mpr c6;have aY:((aC.length:Int) != (wrap64 (aA * aD)))=true:=bne_iff_ne.mpr c6;obtain rfl:=zI H;go_enter Try.func41,Try.ntmps41
    go_wp2_with (first|((with_reducible refine zgd 1 rfl ?_);(try (refine gate_guard (by rfl) ?_;dsimp only));refine zbx 1 #[.int .i64 aA,.int .i64 aD,.slice aH aC.length aG] 26 ?_;intro aI hg cC hbox hb;have aE:=zA hbox;have aJ:=zga (w:=w) hg;replace HB:=zbs hb;clear hb hbox hg;obtain⟨bS,bR,bQ,bJ,bI,bH⟩:=ze3 aE)|((with_reducible refine zgf 40 rfl ?_);refine zgl 5 Try.func40 #[.int .i64 aA,.int .i64 1,.int .i64 8] ?_;(with_reducible refine(impl_InRange.calls aA 1 8 true _ A2.out).mono ?_);rintro e w' ⟨rfl,⟨nd,rfl⟩⟩;refine⟨_,rfl,?_⟩)|(go_at_call 40;(with_reducible refine(impl_InRange.calls aD 1 8 true _ A4.out).mono ?_);rintro e w' ⟨rfl,⟨nd,rfl⟩⟩))
    go_ret;exact⟨zE,zb⟩
  ·replace c5:=Bool.eq_false_iff.mpr c5;subst c5;rw[if_neg zNo] at H;obtain rfl:=zI H;go_enter Try.func41,Try.ntmps41
   go_wp2_with (first|((with_reducible refine zgd 1 rfl ?_);(try (refine gate_guard (by rfl) ?_;dsimp only));refine zbx 1 #[.int .i64 aA,.int .i64 aD,.slice aH aC.length aG] 26 ?_;intro aI hg cB hbox hb;have aE:=zA hbox;have aJ:=zga (w:=w) hg;replace HB:=zbs hb;clear hb hbox hg;obtain⟨bP,bO,bN,bG,bF,bE⟩:=ze3 aE)|((with_reducible refine zgf 40 rfl ?_);refine zgl 5 Try.func40 #[.int .i64 aA,.int .i64 1,.int .i64 8] ?_;(with_reducible refine(impl_InRange.calls aA 1 8 true _ A2.out).mono ?_);rintro e w' ⟨rfl,⟨nd,rfl⟩⟩;refine⟨_,rfl,?_⟩)|(go_at_call 40;(with_reducible refine(impl_InRange.calls aD 1 8 false _ A4.out).mono ?_);rintro e w' ⟨rfl,⟨nd,rfl⟩⟩))
   go_ret;exact⟨zE,zb⟩
 ·replace c3:=Bool.eq_false_iff.mpr c3;subst c3;rw[if_neg zNo] at H;obtain rfl:=zI H;go_enter Try.func41,Try.ntmps41
  go_wp2_with (first|((with_reducible refine zgd 1 rfl ?_);(try (refine gate_guard (by rfl) ?_;dsimp only));refine zbx 1 #[.int .i64 aA,.int .i64 aD,.slice aH aC.length aG] 26 ?_;intro aI hg cA hbox hb;have aE:=zA hbox;have aJ:=zga (w:=w) hg;replace HB:=zbs hb;clear hb hbox hg;obtain⟨bM,bL,bK,bD,bC,bB⟩:=ze3 aE)|((with_reducible refine zgf 40 rfl ?_);refine zgl 5 Try.func40 #[.int .i64 aA,.int .i64 1,.int .i64 8] ?_;(with_reducible refine(impl_InRange.calls aA 1 8 false _ A2.out).mono ?_);rintro e w' ⟨rfl,⟨nd,rfl⟩⟩;refine⟨_,rfl,?_⟩))
  go_ret;exact⟨zE,zb⟩

def impl_IsCell.f (k:Nat) (a0_0:Int) (a0_1:Int) (l0_2:List Int) (a1:Int):Option (Bool):=(impl_IsLand.f k a0_0 a0_1 l0_2).bind fun t470=>(if t470=true then((impl_InRange.f a1 0 (wrap64 ((l0_2.length:Int)-1))).bind fun t471=>(some t471)) else(some false))
theorem impl_IsCell.calls (k:Nat) (aE:Int) (aD:Int) (aH:Option Addr) (aG:Nat) (aA:List Int) (a1:Int) (r:Bool) (w:World) (aI:Kd.C (Kd.int .i64) w aH aA.length aA) (aJ:aA.length≤aG) (h:impl_IsCell.f k aE aD aA a1=some r) :
  Calls Try.prog 52 #[.agg #[.int .i64 aE,.int .i64 aD,.slice aH aA.length aG],.int .i64 a1] w fun e w'=>e=.returned (.bool r)∧Below w.heap.size w w':=by
 have hu26:=Try.underlying26;have aK:=zA aI;have aM:=zA aJ;clear aI aJ;have HB:=zA (Below.refl w.heap.size w);have H:=h;clear h;unfold impl_IsCell.f at H;obtain⟨aU,A3,H⟩:=zB H
 by_cases c4:aU=true
 ·subst c4;rw[if_pos rfl] at H;obtain⟨aT,A5,H⟩:=zB H;obtain rfl:=zI H;go_enter Try.func52,Try.ntmps52
  go_wp2_with (first|((with_reducible refine zgd 2 rfl ?_);(try (refine gate_guard (by rfl) ?_;dsimp only));refine zbx 2 #[.int .i64 aE,.int .i64 aD,.slice aH aA.length aG] 26 ?_;intro aN hg w6 hbox hb;have aC:=zA hbox;have aR:=zga (w:=w) hg;replace HB:=zbs hb;clear hb hbox hg;obtain⟨bN,bM,bL,bH,bG,bF⟩:=ze3 aC)|((with_reducible refine zgf 41 rfl ?_);refine zgl 6 Try.func41 #[.agg #[.int .i64 aE,.int .i64 aD,.slice aH aA.length aG]] ?_;(with_reducible refine(impl_IsLand.calls k aE aD _ _ aA true _ ?s1 ?s2 A3.out).mono ?_);(case s1=>exact zCb aK);(case s2=>exact aM.out);rintro e w8 ⟨rfl,hb⟩;refine⟨_,rfl,?_⟩;replace aC:=zkb aC hb;replace HB:=zbs hb;(try clear hb);obtain⟨bK,bJ,bI,bE,bD,bC⟩:=ze3 aC)|(go_at_call 40;(with_reducible refine(impl_InRange.calls a1 0 (wrap64 ((aA.length:Int)-1)) aT _ A5.out).mono ?_);rintro e w' ⟨rfl,⟨nd,rfl⟩⟩))
  go_ret;exact⟨zE,zb⟩
 ·replace c4:=Bool.eq_false_iff.mpr c4;subst c4;rw[if_neg zNo] at H;obtain rfl:=zI H;go_enter Try.func52,Try.ntmps52
  go_wp2_with (first|((with_reducible refine zgd 2 rfl ?_);(try (refine gate_guard (by rfl) ?_;dsimp only));refine zbx 2 #[.int .i64 aE,.int .i64 aD,.slice aH aA.length aG] 26 ?_;intro aN hg bR hbox hb;have aC:=zA hbox;have aR:=zga (w:=w) hg;replace HB:=zbs hb;clear hb hbox hg;obtain⟨bB,bA,aZ,aY,aX,aW⟩:=ze3 aC)|((with_reducible refine zgf 41 rfl ?_);refine zgl 6 Try.func41 #[.agg #[.int .i64 aE,.int .i64 aD,.slice aH aA.length aG]] ?_;(with_reducible refine(impl_IsLand.calls k aE aD _ _ aA false _ ?s1 ?s2 A3.out).mono ?_);(case s1=>exact zCb aK);(case s2=>exact aM.out);rintro e bQ ⟨rfl,hb⟩;refine⟨_,rfl,?_⟩;replace aC:=zkb aC hb;replace HB:=zbs hb;(try clear hb)))
  go_ret;exact⟨zE,zb⟩

def impl_IsOpen.f (k:Nat) (a0_0:Int) (a0_1:Int) (l0_2:List Int) (a1:Int):Option (Bool):=(impl_IsCell.f k a0_0 a0_1 l0_2 a1).bind fun t473=>(if t473=true then(if 0≤a1 then(if a1<(l0_2.length:Int) then(some ((rd l0_2 a1) != 2)) else(none)) else(none)) else(some false))
theorem impl_IsOpen.calls (k:Nat) (aE:Int) (aD:Int) (aH:Option Addr) (aG:Nat) (aA:List Int) (a1:Int) (r:Bool) (w:World) (aM:Kd.C (Kd.int .i64) w aH aA.length aA) (aN:aA.length≤aG) (h:impl_IsOpen.f k aE aD aA a1=some r) :
  Calls Try.prog 34 #[.agg #[.int .i64 aE,.int .i64 aD,.slice aH aA.length aG],.int .i64 a1] w fun e w'=>e=.returned (.bool r)∧Below w.heap.size w w':=by
 have hu26:=Try.underlying26;have aK:=zA aM;have aQ:=zA aN;clear aM aN;have HB:=zA (Below.refl w.heap.size w);have H:=h;clear h;unfold impl_IsOpen.f at H;obtain⟨aV,A3,H⟩:=zB H
 by_cases c4:aV=true
 ·subst c4;rw[if_pos rfl] at H;obtain⟨bU,H⟩:=zifD H;obtain⟨bT,H⟩:=zifD H;obtain rfl:=zI H;go_enter Try.func34,Try.ntmps34
  go_wp2_with (first|((with_reducible refine zgd 2 rfl ?_);refine zbx 2 #[.int .i64 aE,.int .i64 aD,.slice aH aA.length aG] 26 ?_;intro aR hg w7 hbox hb;have aC:=zA hbox;have aU:=zga (w:=w) hg;replace HB:=zbs hb;clear hb hbox hg;obtain⟨bO,bN,bM,bL,bK,bJ⟩:=ze3 aC)|((with_reducible refine zgf 52 rfl ?_);refine zgl 7 Try.func52 #[.agg #[.int .i64 aE,.int .i64 aD,.slice aH aA.length aG],.int .i64 a1] ?_;(with_reducible refine(impl_IsCell.calls k aE aD _ _ aA a1 true _ ?s1 ?s2 A3.out).mono ?_);(case s1=>exact zCb aK);(case s2=>exact aQ.out);rintro e w9 ⟨rfl,hb⟩;refine⟨_,rfl,?_⟩;replace aC:=zkb aC hb;replace HB:=zbs hb;(try clear hb);obtain⟨bI,bH,bG,bC,bB,bA⟩:=ze3 aC;have bS:=zT (0≤(a1:Int));have bR:=zT (a1<(aA.length:Int));obtain⟨bQ,aW,aI⟩:=Kd.at_int aK.out a1 zd zd;cases aW;replace aI:=zC HB aI))
  go_ret;exact⟨zE,zb⟩
 ·replace c4:=Bool.eq_false_iff.mpr c4;subst c4;rw[if_neg zNo] at H;obtain rfl:=zI H;go_enter Try.func34,Try.ntmps34
  go_wp2_with (first|((with_reducible refine zgd 2 rfl ?_);refine zbx 2 #[.int .i64 aE,.int .i64 aD,.slice aH aA.length aG] 26 ?_;intro aR hg bW hbox hb;have aC:=zA hbox;have aU:=zga (w:=w) hg;replace HB:=zbs hb;clear hb hbox hg;obtain⟨bF,bE,bD,aZ,aY,aX⟩:=ze3 aC)|((with_reducible refine zgf 52 rfl ?_);refine zgl 7 Try.func52 #[.agg #[.int .i64 aE,.int .i64 aD,.slice aH aA.length aG],.int .i64 a1] ?_;(with_reducible refine(impl_IsCell.calls k aE aD _ _ aA a1 false _ ?s1 ?s2 A3.out).mono ?_);(case s1=>exact zCb aK);(case s2=>exact aQ.out);rintro e bV ⟨rfl,hb⟩;refine⟨_,rfl,?_⟩;replace aC:=zkb aC hb;replace HB:=zbs hb;(try clear hb)))
  go_ret;exact⟨zE,zb⟩

def impl_AreDepots.l0:Nat→List (S73)→List (S73)→Int→Int→Int→Int→List Int→Option (Bool)
  |0,_,_,_,_,_,_,_=>none
  |k+1,x1,x7,x8,x9,x476000,x476001,x476002=>if x9<x8 then(if 0≤x9 then(if x9<(x7.length:Int) then((impl_IsOpen.f k x476000 x476001 x476002 ((rd_T73 x7 x9).f0)).bind fun t479=>(if t479=true then(if x9>0 then(if 0≤(wrap64 (x9-1)) then(if (wrap64 (x9-1))<(x1.length:Int) then(if ((rd_T73 x7 x9).f0)≤((rd_T73 x1 (wrap64 (x9-1))).f0) then(some false) else((impl_InRange.f ((rd_T73 x7 x9).f1) 1 10000).bind fun t481=>(if t481=true then(impl_AreDepots.l0 k x1 x7 x8 (wrap64 (x9+1)) x476000 x476001 x476002) else(some false)))) else(none)) else(none)) else((impl_InRange.f ((rd_T73 x7 x9).f1) 1 10000).bind fun t482=>(if t482=true then(impl_AreDepots.l0 k x1 x7 x8 (wrap64 (x9+1)) x476000 x476001 x476002) else(some false)))) else(some false))) else(none)) else(none)) else((impl_IsLand.f k x476000 x476001 x476002).bind fun t476=>(if t476=true then(some (decide ((x1.length:Int)≤20))) else(some false)))
def impl_AreDepots.f (k:Nat) (a0_0:Int) (a0_1:Int) (l0_2:List Int) (l1:List (S73)):Option (Bool):=impl_AreDepots.l0 k l1 l1 (l1.length:Int) 0 a0_0 a0_1 l0_2
def impl_AreDepots.T4:Bool × List (List Nat × List Nat):=(true,[([],[]),([],[]),([1],[1]),([0,2],[0,2]),([3],[3]),([4,3],[4]),([5],[5]),([6,5],[5,6]),([7,5,5],[5,7]),([8],[8]),([9,8],[8,9]),([8],[8]),([8],[8]),([12,8],[8,12]),([11,13,8],[8,11,13]),([14,8],[8,14]),([15,8],[8,15]),([10,16,8],[8,10,16]),([8,17,5],[5,8,17]),([5,18],[5,18]),([19,8],[19]),([20],[20]),([21,20],[20,21]),([22,20,20],[20,22]),([23,20],[20,23]),([20,24],[20,24])])
def impl_AreDepots.B4:List Nat:=[0,0,2,7,15,31,63,127,255,511,1023,511,511,4607,14847,31231,63999,131071,262143,524287,1048575,2097151,4194303,8388607,16777215,33554431]
theorem impl_AreDepots.tab4:rtab .any (opsOf Try.f17 4)=impl_AreDepots.T4:=by kernel_rfl
theorem impl_AreDepots.bits4:waitsOk impl_AreDepots.T4.2 impl_AreDepots.B4=true:=by kernel_rfl
theorem impl_AreDepots.calls (k:Nat) (aJ:Int) (aI:Int) (aV:Option Addr) (aU:Nat) (aH:List Int) (A1:Option Addr) (c1:Nat) (l1:List (S73)) (r:Bool) (w:World) (bU:Kd.C (Kd.int .i64) w aV aH.length aH) (bV:aH.length≤aU) (cD:Kd.C k73 w A1 l1.length l1) (cE:l1.length≤c1) (h:impl_AreDepots.f k aJ aI aH l1=some r) :
  Calls Try.prog 17 #[.agg #[.int .i64 aJ,.int .i64 aI,.slice aV aH.length aU],.slice A1 l1.length c1] w fun e w'=>e=.returned (.bool r)∧Below w.heap.size w w':=by
 have hu26:=Try.underlying26;have hu73:=Try.underlying73;have bD:=zA bU;have bE:=zA bV;clear bU bV;have bH:=zA cD;have fL:=zA cE;clear cD cE;have HB:=zA (Below.refl w.heap.size w);have H:=h;clear h;unfold impl_AreDepots.f at H;have H':=zA H;clear H;go_enter Try.func17,Try.ntmps17
 go_wp2_with (first|((with_reducible refine zgd 2 rfl ?_);(try (refine gate_guard (by rfl) ?_;dsimp only));refine zbx 2 #[.int .i64 aJ,.int .i64 aI,.slice aV aH.length aU] 26 ?_;intro aK hg w3 hbox hb;have aA:=zA hbox;have eU:=zga (w:=w) hg;replace HB:=zbs hb;clear hb hbox hg))
 go_loopg [9] k (fun kq v9 w'=>∃ (aC:Int),v9=.int .i64 aC∧Aside0 (impl_AreDepots.l0 kq l1 l1 (l1.length:Int) aC aJ aI aH=some r)∧Aside0 (kq≤k)∧Aside0 (w'.heap[aK]?=some (.cells #[.int .i64 aJ,.int .i64 aI,(.slice aV aH.length aU)] 26 (0,0)))∧Aside0 (Below w.heap.size w w'))
 case atStart=>exact⟨(0),zr,H',⟨Nat.le_refl _⟩,⟨zk aA⟩,⟨zb⟩⟩
 case round =>
  clear H';(try clear c1);obtain⟨aC,rfl,HA,HK1,aA,HB⟩:=hrel
  cases gk with
  |zero=>exact absurd HA.out (by simp[impl_AreDepots.l0])
  |succ k1 =>
   have H:=HA.out;clear HA;simp only[impl_AreDepots.l0] at H
   by_cases c4:aC<(l1.length:Int)
   ·rw[if_pos c4] at H;have cM:=decide_eq_true c4;clear c4;obtain⟨eW,H⟩:=zifD H;obtain⟨eV,H⟩:=zifD H;obtain⟨cJ,A7,H⟩:=zB H
    by_cases c8:cJ=true
    ·subst c8;rw[if_pos rfl] at H
     by_cases c9:aC>0
     ·rw[if_pos c9] at H;have cL:decide (0<aC)=true:=decide_eq_true c9;clear c9;obtain⟨aQ,bF⟩:∃ j_:Int,(wrap64 (aC-1))=j_:=⟨_,rfl⟩
      replace H:(if 0≤(aQ) then(if (aQ)<(l1.length:Int) then(if ((rd_T73 l1 aC).f0)≤((rd_T73 l1 (aQ)).f0) then(some false) else((impl_InRange.f ((rd_T73 l1 aC).f1) 1 10000).bind fun bM=>(if bM=true then(impl_AreDepots.l0 k1 l1 l1 (l1.length:Int) (wrap64 (aC+1)) aJ aI aH) else(some false)))) else(none)) else(none))=some r:=by first|(rw[bF] at H;exact H)|(simp only[bF] at H ⊢;exact H)
      (try rw[bF] at A7);have eE:(IntKind.i64.wrap (aC-1))=aQ:=(i64_w _).trans bF;obtain⟨eT,H⟩:=zifD H;obtain⟨eS,H⟩:=zifD H
      by_cases c13:((rd_T73 l1 aC).f0)≤((rd_T73 l1 (aQ)).f0)
      ·rw[if_pos c13] at H;have cC:=decide_eq_true c13;clear c13;obtain rfl:=zI H;have bK:=zT (0≤(aC:Int));have bJ:=zT (aC<(l1.length:Int));obtain⟨aW,bC,aN,aM⟩:=at_T73 bH.out aC zd zd;cases bC;replace aN:=zC HB aN;replace aM:=zC HB aM
       try go_wp2_with (first|((with_reducible refine zgd 6 rfl ?_);(try (refine gate_guard (by rfl) ?_;dsimp only));refine zbx 6 #[.int .i64 0,.int .i64 0] 73 ?_;intro aE hg bT hbox hb;have aD:=zA hbox;have bI:=zga (w:=w) hg;replace HB:=zbs hb;replace aA:=zlh aA hg hb;obtain⟨aT,aR,aA⟩:=aA;clear hb hbox hg;have eR:=aR.out;have eL:=aT.out;obtain⟨dX,dW,dF,dE⟩:=ze2 aD))
       obtain⟨eD,hx_⟩:∃ x_,x_=(bT.setCell ⟨aE,0,none⟩ (.int .i64 ((rd_T73 l1 aC).f0))).setCell ⟨aE,1,none⟩ (.int .i64 ((rd_T73 l1 aC).f1)):=⟨_,rfl⟩;have bB:Aside0 (eD.heap[aK]?=some (.cells #[.int .i64 aJ,.int .i64 aI,.slice aV aH.length aU] 26 (0,0))):=⟨by rw[hx_];exact zkf aA⟩;have bA:Aside0 (eD.heap[aE]?=some (.cells #[.int .i64 ((rd_T73 l1 aC).f0),.int .i64 ((rd_T73 l1 aC).f1)] 73 (0,0))):=⟨by rw[hx_];exact zkp aD⟩;have aZ:Aside0 (Below w.heap.size w eD):=⟨by rw[hx_];exact zb⟩;(try clear aA aD HB);rw[← hx_];clear hx_;have aA:=bB;have aD:=bA;have HB:=aZ;clear bB bA aZ;replace aA:=zA (blk_drew aA.out);replace aD:=zA (blk_drew aD.out);replace HB:=zA (below_drew1 HB.out);have cA:=zT (0≤((aQ):Int));have bZ:=zT ((aQ)<(l1.length:Int));obtain⟨bG,bL,aY,aX⟩:=at_T73 bH.out (aQ) zd zd;obtain rfl:aW=bG:=(by injection bL);refine start_ (n:=26) (S:=fun w'=>w'.cell? ⟨aK,0,none⟩=some (.int .i64 aJ)∧w'.cell? ⟨aK,1,none⟩=some (.int .i64 aI)∧w'.cell? ⟨aK,2,none⟩=some (.slice aV aH.length aU)∧w'.cell? ⟨aE,0,none⟩=some (.int .i64 ((rd_T73 l1 aC).f0))∧w'.cell? ⟨aE,1,none⟩=some (.int .i64 ((rd_T73 l1 aC).f1))∧w'.cell? (aW.add (((aQ)).toNat * 2))=some (.int .i64 ((rd_T73 l1 (aQ)).f0))∧w'.cell? ⟨(aW.add (((aQ)).toNat * 2)).block,(aW.add (((aQ)).toNat * 2)).off+1,none⟩=some (.int .i64 ((rd_T73 l1 (aQ)).f1))) (ds:=[]) _ (by kernel_rfl) rfl rfl ⟨zq aA 0,zq aA 1,zq aA 2,zq aD 0,zq aD 1,(zC HB aY),(zC HB aX)⟩ (fun hHeld=>?_);refine with_tabW impl_AreDepots.tab4 impl_AreDepots.bits4 (fun HT_ HW_=>?_);generalize eD.drew=fK at aA aD HB hHeld ⊢;refine z_p 1 ?_;refine zt 0 14 HT_ HW_ hHeld ?_;refine zt 2 16 HT_ HW_ hHeld ?_;refine zo 3 17 HT_ (fun K hK=>?_);refine zgo Try.func34 #[.agg #[.int .i64 aJ,.int .i64 aI,.slice aV aH.length aU],.int .i64 ((rd_T73 l1 aC).f0)] ?_
       with_reducible refine(impl_IsOpen.calls k1 aJ aI _ _ aH ((rd_T73 l1 aC).f0) true _ ?s1 ?s2 A7.out).mono ?_
       (case s1=>exact zCb bD);(case s2=>exact bE.out);rintro e fJ ⟨rfl,hb⟩;refine⟨_,rfl,?_⟩;replace aA:=zkb aA hb;replace aD:=zA (blk_below (g:=aE) (o:=.cells #[.int .i64 ((rd_T73 l1 aC).f0),.int .i64 ((rd_T73 l1 aC).f1)] 73 (0,0)) (zk aD) hb);replace HB:=zbs hb;(try clear hb);refine hK.out _ _ ⟨zq aA 0,zq aA 1,zq aA 2,zq aD 0,zq aD 1,(zC HB aY),(zC HB aX)⟩ (fun hHeld=>?_);clear hK K;refine norm_ zV ?_;refine z_p 4 ?_;refine z_p 5 ?_;refine z_p 6 ?_;refine z_p 7 ?_;refine z_p 8 ?_;refine z_p 9 ?_;refine z_p 11 ?_;refine z_p 12 ?_;refine z_p 13 ?_;refine z_p 14 ?_;refine z_p 15 ?_;refine zt 10 24 HT_ HW_ hHeld ?_;refine zt 16 30 HT_ HW_ hHeld ?_;refine z_p 17 ?_;refine z_p 18 ?_;refine z_p 19 ?_;refine z_p 20 ?_;refine z_u 21 ?_;refine z_u 22 ?_;refine z_u 23 ?_;refine z_u 24 ?_;refine z_p 25 ?_;refine done_ (done_of HT_.out (by kernel_rfl)) ?_
       try go_wp2
       go_ret;exact⟨by first|rfl|(simp[errW_none,errW_some] <;> rfl)|(simp only[←bF];first|rfl|(simp[errW_none,errW_some] <;> rfl))|(simp[*,errW_none,errW_some] <;> rfl),zb⟩
      ·rw[if_neg c13] at H;have cC:=decide_eq_false c13;clear c13;obtain⟨bM,cH,H⟩:=zB H
       by_cases bY:bM=true
       ·subst bY;rw[if_pos rfl] at H;have H':=zA H;clear H;have bK:=zT (0≤(aC:Int));have bJ:=zT (aC<(l1.length:Int));obtain⟨aW,bC,aN,aM⟩:=at_T73 bH.out aC zd zd;cases bC;replace aN:=zC HB aN;replace aM:=zC HB aM
        try go_wp2_with (first|((with_reducible refine zgd 6 rfl ?_);(try (refine gate_guard (by rfl) ?_;dsimp only));refine zbx 6 #[.int .i64 0,.int .i64 0] 73 ?_;intro aE hg bS hbox hb;have aD:=zA hbox;have bI:=zga (w:=w) hg;replace HB:=zbs hb;replace aA:=zlh aA hg hb;obtain⟨aT,aR,aA⟩:=aA;clear hb hbox hg;have eQ:=aR.out;have eK:=aT.out;obtain⟨dV,dU,dD,dC⟩:=ze2 aD))
        obtain⟨eC,hx_⟩:∃ x_,x_=(bS.setCell ⟨aE,0,none⟩ (.int .i64 ((rd_T73 l1 aC).f0))).setCell ⟨aE,1,none⟩ (.int .i64 ((rd_T73 l1 aC).f1)):=⟨_,rfl⟩;have bB:Aside0 (eC.heap[aK]?=some (.cells #[.int .i64 aJ,.int .i64 aI,.slice aV aH.length aU] 26 (0,0))):=⟨by rw[hx_];exact zkf aA⟩;have bA:Aside0 (eC.heap[aE]?=some (.cells #[.int .i64 ((rd_T73 l1 aC).f0),.int .i64 ((rd_T73 l1 aC).f1)] 73 (0,0))):=⟨by rw[hx_];exact zkp aD⟩;have aZ:Aside0 (Below w.heap.size w eC):=⟨by rw[hx_];exact zb⟩;(try clear aA aD HB);rw[← hx_];clear hx_;have aA:=bB;have aD:=bA;have HB:=aZ;clear bB bA aZ;replace aA:=zA (blk_drew aA.out);replace aD:=zA (blk_drew aD.out);replace HB:=zA (below_drew1 HB.out);have cA:=zT (0≤((aQ):Int));have bZ:=zT ((aQ)<(l1.length:Int));obtain⟨bG,bL,aY,aX⟩:=at_T73 bH.out (aQ) zd zd;obtain rfl:aW=bG:=(by injection bL);refine start_ (n:=26) (S:=fun w'=>w'.cell? ⟨aK,0,none⟩=some (.int .i64 aJ)∧w'.cell? ⟨aK,1,none⟩=some (.int .i64 aI)∧w'.cell? ⟨aK,2,none⟩=some (.slice aV aH.length aU)∧w'.cell? ⟨aE,0,none⟩=some (.int .i64 ((rd_T73 l1 aC).f0))∧w'.cell? ⟨aE,1,none⟩=some (.int .i64 ((rd_T73 l1 aC).f1))∧w'.cell? (aW.add (((aQ)).toNat * 2))=some (.int .i64 ((rd_T73 l1 (aQ)).f0))∧w'.cell? ⟨(aW.add (((aQ)).toNat * 2)).block,(aW.add (((aQ)).toNat * 2)).off+1,none⟩=some (.int .i64 ((rd_T73 l1 (aQ)).f1))) (ds:=[]) _ (by kernel_rfl) rfl rfl ⟨zq aA 0,zq aA 1,zq aA 2,zq aD 0,zq aD 1,(zC HB aY),(zC HB aX)⟩ (fun hHeld=>?_);refine with_tabW impl_AreDepots.tab4 impl_AreDepots.bits4 (fun HT_ HW_=>?_);generalize eC.drew=fI at aA aD HB hHeld ⊢;refine z_p 1 ?_;refine zt 0 14 HT_ HW_ hHeld ?_;refine zt 2 16 HT_ HW_ hHeld ?_;refine zo 3 17 HT_ (fun K hK=>?_);refine zgo Try.func34 #[.agg #[.int .i64 aJ,.int .i64 aI,.slice aV aH.length aU],.int .i64 ((rd_T73 l1 aC).f0)] ?_
        with_reducible refine(impl_IsOpen.calls k1 aJ aI _ _ aH ((rd_T73 l1 aC).f0) true _ ?s1 ?s2 A7.out).mono ?_
        (case s1=>exact zCb bD);(case s2=>exact bE.out);rintro e fH ⟨rfl,hb⟩;refine⟨_,rfl,?_⟩;replace aA:=zkb aA hb;replace aD:=zA (blk_below (g:=aE) (o:=.cells #[.int .i64 ((rd_T73 l1 aC).f0),.int .i64 ((rd_T73 l1 aC).f1)] 73 (0,0)) (zk aD) hb);replace HB:=zbs hb;(try clear hb);refine hK.out _ _ ⟨zq aA 0,zq aA 1,zq aA 2,zq aD 0,zq aD 1,(zC HB aY),(zC HB aX)⟩ (fun hHeld=>?_);clear hK K;refine norm_ zV ?_;refine z_p 4 ?_;refine z_p 5 ?_;refine z_p 6 ?_;refine z_p 7 ?_;refine z_p 8 ?_;refine z_p 9 ?_;refine z_p 11 ?_;refine z_p 12 ?_;refine z_p 13 ?_;refine z_p 14 ?_;refine z_p 15 ?_;refine zt 10 24 HT_ HW_ hHeld ?_;refine zt 16 30 HT_ HW_ hHeld ?_;refine z_p 17 ?_;refine z_p 18 ?_;refine z_p 19 ?_;refine z_p 20 ?_;refine z_p 21 ?_;refine zt 22 36 HT_ HW_ hHeld ?_;refine zo 23 37 HT_ (fun K hK=>?_);refine zgo Try.func40 #[.int .i64 ((rd_T73 l1 aC).f1),.int .i64 1,.int .i64 10000] ?_
        with_reducible refine(impl_InRange.calls ((rd_T73 l1 aC).f1) 1 10000 true _ cH.out).mono ?_
        rintro e w' ⟨rfl,⟨nd,rfl⟩⟩;refine⟨_,rfl,?_⟩;refine hK.out _ _ ⟨zq aA 0,zq aA 1,zq aA 2,zq aD 0,zq aD 1,(zC HB aY :),(zC HB aX :)⟩ (fun hHeld=>?_);clear hK K;refine norm_ zV ?_;refine z_p 24 ?_;refine z_p 25 ?_;refine done_ (done_of HT_.out (by kernel_rfl)) ?_
        try go_wp2
        go_roundg k1
        case measure=>have:=HK1.out;omega
        case rel=>exact⟨(wrap64 (aC+1)),zr,H',⟨by have:=HK1.out;omega⟩,⟨zk aA⟩,⟨zb⟩⟩
       ·replace bY:=Bool.eq_false_iff.mpr bY;subst bY;rw[if_neg zNo] at H;obtain rfl:=zI H;have bK:=zT (0≤(aC:Int));have bJ:=zT (aC<(l1.length:Int));obtain⟨aW,bC,aN,aM⟩:=at_T73 bH.out aC zd zd;cases bC;replace aN:=zC HB aN;replace aM:=zC HB aM
        try go_wp2_with (first|((with_reducible refine zgd 6 rfl ?_);(try (refine gate_guard (by rfl) ?_;dsimp only));refine zbx 6 #[.int .i64 0,.int .i64 0] 73 ?_;intro aE hg bR hbox hb;have aD:=zA hbox;have bI:=zga (w:=w) hg;replace HB:=zbs hb;replace aA:=zlh aA hg hb;obtain⟨aT,aR,aA⟩:=aA;clear hb hbox hg;have eP:=aR.out;have eJ:=aT.out;obtain⟨dT,dS,dB,dA⟩:=ze2 aD))
        obtain⟨eB,hx_⟩:∃ x_,x_=(bR.setCell ⟨aE,0,none⟩ (.int .i64 ((rd_T73 l1 aC).f0))).setCell ⟨aE,1,none⟩ (.int .i64 ((rd_T73 l1 aC).f1)):=⟨_,rfl⟩;have bB:Aside0 (eB.heap[aK]?=some (.cells #[.int .i64 aJ,.int .i64 aI,.slice aV aH.length aU] 26 (0,0))):=⟨by rw[hx_];exact zkf aA⟩;have bA:Aside0 (eB.heap[aE]?=some (.cells #[.int .i64 ((rd_T73 l1 aC).f0),.int .i64 ((rd_T73 l1 aC).f1)] 73 (0,0))):=⟨by rw[hx_];exact zkp aD⟩;have aZ:Aside0 (Below w.heap.size w eB):=⟨by rw[hx_];exact zb⟩;(try clear aA aD HB);rw[← hx_];clear hx_;have aA:=bB;have aD:=bA;have HB:=aZ;clear bB bA aZ;replace aA:=zA (blk_drew aA.out);replace aD:=zA (blk_drew aD.out);replace HB:=zA (below_drew1 HB.out);have cA:=zT (0≤((aQ):Int));have bZ:=zT ((aQ)<(l1.length:Int));obtain⟨bG,bL,aY,aX⟩:=at_T73 bH.out (aQ) zd zd;obtain rfl:aW=bG:=(by injection bL);refine start_ (n:=26) (S:=fun w'=>w'.cell? ⟨aK,0,none⟩=some (.int .i64 aJ)∧w'.cell? ⟨aK,1,none⟩=some (.int .i64 aI)∧w'.cell? ⟨aK,2,none⟩=some (.slice aV aH.length aU)∧w'.cell? ⟨aE,0,none⟩=some (.int .i64 ((rd_T73 l1 aC).f0))∧w'.cell? ⟨aE,1,none⟩=some (.int .i64 ((rd_T73 l1 aC).f1))∧w'.cell? (aW.add (((aQ)).toNat * 2))=some (.int .i64 ((rd_T73 l1 (aQ)).f0))∧w'.cell? ⟨(aW.add (((aQ)).toNat * 2)).block,(aW.add (((aQ)).toNat * 2)).off+1,none⟩=some (.int .i64 ((rd_T73 l1 (aQ)).f1))) (ds:=[]) _ (by kernel_rfl) rfl rfl ⟨zq aA 0,zq aA 1,zq aA 2,zq aD 0,zq aD 1,(zC HB aY),(zC HB aX)⟩ (fun hHeld=>?_);refine with_tabW impl_AreDepots.tab4 impl_AreDepots.bits4 (fun HT_ HW_=>?_);generalize eB.drew=fG at aA aD HB hHeld ⊢;refine z_p 1 ?_;refine zt 0 14 HT_ HW_ hHeld ?_;refine zt 2 16 HT_ HW_ hHeld ?_;refine zo 3 17 HT_ (fun K hK=>?_);refine zgo Try.func34 #[.agg #[.int .i64 aJ,.int .i64 aI,.slice aV aH.length aU],.int .i64 ((rd_T73 l1 aC).f0)] ?_
        with_reducible refine(impl_IsOpen.calls k1 aJ aI _ _ aH ((rd_T73 l1 aC).f0) true _ ?s1 ?s2 A7.out).mono ?_
        (case s1=>exact zCb bD);(case s2=>exact bE.out);rintro e fF ⟨rfl,hb⟩;refine⟨_,rfl,?_⟩;replace aA:=zkb aA hb;replace aD:=zA (blk_below (g:=aE) (o:=.cells #[.int .i64 ((rd_T73 l1 aC).f0),.int .i64 ((rd_T73 l1 aC).f1)] 73 (0,0)) (zk aD) hb);replace HB:=zbs hb;(try clear hb);refine hK.out _ _ ⟨zq aA 0,zq aA 1,zq aA 2,zq aD 0,zq aD 1,(zC HB aY),(zC HB aX)⟩ (fun hHeld=>?_);clear hK K;refine norm_ zV ?_;refine z_p 4 ?_;refine z_p 5 ?_;refine z_p 6 ?_;refine z_p 7 ?_;refine z_p 8 ?_;refine z_p 9 ?_;refine z_p 11 ?_;refine z_p 12 ?_;refine z_p 13 ?_;refine z_p 14 ?_;refine z_p 15 ?_;refine zt 10 24 HT_ HW_ hHeld ?_;refine zt 16 30 HT_ HW_ hHeld ?_;refine z_p 17 ?_;refine z_p 18 ?_;refine z_p 19 ?_;refine z_p 20 ?_;refine z_p 21 ?_;refine zt 22 36 HT_ HW_ hHeld ?_;refine zo 23 37 HT_ (fun K hK=>?_);refine zgo Try.func40 #[.int .i64 ((rd_T73 l1 aC).f1),.int .i64 1,.int .i64 10000] ?_
        with_reducible refine(impl_InRange.calls ((rd_T73 l1 aC).f1) 1 10000 false _ cH.out).mono ?_
        rintro e w' ⟨rfl,⟨nd,rfl⟩⟩;refine⟨_,rfl,?_⟩;refine hK.out _ _ ⟨zq aA 0,zq aA 1,zq aA 2,zq aD 0,zq aD 1,(zC HB aY :),(zC HB aX :)⟩ (fun hHeld=>?_);clear hK K;refine norm_ zV ?_;refine z_p 24 ?_;refine z_p 25 ?_;refine done_ (done_of HT_.out (by kernel_rfl)) ?_
        try go_wp2
        go_ret;exact⟨by first|rfl|(simp[errW_none,errW_some] <;> rfl)|(simp only[←bF];first|rfl|(simp[errW_none,errW_some] <;> rfl))|(simp[*,errW_none,errW_some] <;> rfl),zb⟩
     ·rw[if_neg c9] at H;have cL:decide (0<aC)=false:=decide_eq_false c9;clear c9;obtain⟨cI,cG,H⟩:=zB H
      by_cases bX:cI=true
      ·subst bX;rw[if_pos rfl] at H;have H':=zA H;clear H;have bK:=zT (0≤(aC:Int));have bJ:=zT (aC<(l1.length:Int));obtain⟨aW,bC,aN,aM⟩:=at_T73 bH.out aC zd zd;cases bC;replace aN:=zC HB aN;replace aM:=zC HB aM
       try go_wp2_with (first|((with_reducible refine zgd 6 rfl ?_);(try (refine gate_guard (by rfl) ?_;dsimp only));refine zbx 6 #[.int .i64 0,.int .i64 0] 73 ?_;intro aE hg bQ hbox hb;have aD:=zA hbox;have bI:=zga (w:=w) hg;replace HB:=zbs hb;replace aA:=zlh aA hg hb;obtain⟨aT,aR,aA⟩:=aA;clear hb hbox hg;have eO:=aR.out;have eI:=aT.out;obtain⟨dR,dQ,cZ,cY⟩:=ze2 aD))
       obtain⟨eA,hx_⟩:∃ x_,x_=(bQ.setCell ⟨aE,0,none⟩ (.int .i64 ((rd_T73 l1 aC).f0))).setCell ⟨aE,1,none⟩ (.int .i64 ((rd_T73 l1 aC).f1)):=⟨_,rfl⟩;have bB:Aside0 (eA.heap[aK]?=some (.cells #[.int .i64 aJ,.int .i64 aI,.slice aV aH.length aU] 26 (0,0))):=⟨by rw[hx_];exact zkf aA⟩;have bA:Aside0 (eA.heap[aE]?=some (.cells #[.int .i64 ((rd_T73 l1 aC).f0),.int .i64 ((rd_T73 l1 aC).f1)] 73 (0,0))):=⟨by rw[hx_];exact zkp aD⟩;have aZ:Aside0 (Below w.heap.size w eA):=⟨by rw[hx_];exact zb⟩;(try clear aA aD HB);rw[← hx_];clear hx_;have aA:=bB;have aD:=bA;have HB:=aZ;clear bB bA aZ;replace aA:=zA (blk_drew aA.out);replace aD:=zA (blk_drew aD.out);replace HB:=zA (below_drew1 HB.out);refine start_ (n:=26) (S:=fun w'=>w'.cell? ⟨aK,0,none⟩=some (.int .i64 aJ)∧w'.cell? ⟨aK,1,none⟩=some (.int .i64 aI)∧w'.cell? ⟨aK,2,none⟩=some (.slice aV aH.length aU)∧w'.cell? ⟨aE,0,none⟩=some (.int .i64 ((rd_T73 l1 aC).f0))∧w'.cell? ⟨aE,1,none⟩=some (.int .i64 ((rd_T73 l1 aC).f1))) (ds:=[]) _ (by kernel_rfl) rfl rfl ⟨zq aA 0,zq aA 1,zq aA 2,zq aD 0,zq aD 1⟩ (fun hHeld=>?_);refine with_tabW impl_AreDepots.tab4 impl_AreDepots.bits4 (fun HT_ HW_=>?_);generalize eA.drew=fE at aA aD HB hHeld ⊢;refine z_p 1 ?_;refine zt 0 14 HT_ HW_ hHeld ?_;refine zt 2 16 HT_ HW_ hHeld ?_;refine zo 3 17 HT_ (fun K hK=>?_);refine zgo Try.func34 #[.agg #[.int .i64 aJ,.int .i64 aI,.slice aV aH.length aU],.int .i64 ((rd_T73 l1 aC).f0)] ?_
       with_reducible refine(impl_IsOpen.calls k1 aJ aI _ _ aH ((rd_T73 l1 aC).f0) true _ ?s1 ?s2 A7.out).mono ?_
       (case s1=>exact zCb bD);(case s2=>exact bE.out);rintro e fD ⟨rfl,hb⟩;refine⟨_,rfl,?_⟩;replace aA:=zkb aA hb;replace aD:=zA (blk_below (g:=aE) (o:=.cells #[.int .i64 ((rd_T73 l1 aC).f0),.int .i64 ((rd_T73 l1 aC).f1)] 73 (0,0)) (zk aD) hb);replace HB:=zbs hb;(try clear hb);refine hK.out _ _ ⟨zq aA 0,zq aA 1,zq aA 2,zq aD 0,zq aD 1⟩ (fun hHeld=>?_);clear hK K;refine norm_ zV ?_;refine z_p 4 ?_;refine z_p 5 ?_;refine z_p 6 ?_;refine z_p 7 ?_;refine z_p 8 ?_;refine z_u 9 ?_;refine z_u 10 ?_;refine z_u 11 ?_;refine z_u 12 ?_;refine z_u 13 ?_;refine z_u 14 ?_;refine z_u 15 ?_;refine z_u 16 ?_;refine z_u 17 ?_;refine z_p 18 ?_;refine z_p 19 ?_;refine z_p 20 ?_;refine z_p 21 ?_;refine zt 22 36 HT_ HW_ hHeld ?_;refine zo 23 37 HT_ (fun K hK=>?_);refine zgo Try.func40 #[.int .i64 ((rd_T73 l1 aC).f1),.int .i64 1,.int .i64 10000] ?_
       with_reducible refine(impl_InRange.calls ((rd_T73 l1 aC).f1) 1 10000 true _ cG.out).mono ?_
       rintro e w' ⟨rfl,⟨nd,rfl⟩⟩;refine⟨_,rfl,?_⟩;refine hK.out _ _ ⟨zq aA 0,zq aA 1,zq aA 2,zq aD 0,zq aD 1⟩ (fun hHeld=>?_);clear hK K;refine norm_ zV ?_;refine z_p 24 ?_;refine z_p 25 ?_;refine done_ (done_of HT_.out (by kernel_rfl)) ?_
       try go_wp2
       go_roundg k1
       case measure=>have:=HK1.out;omega
       case rel=>exact⟨(wrap64 (aC+1)),zr,H',⟨by have:=HK1.out;omega⟩,⟨zk aA⟩,⟨zb⟩⟩
      ·replace bX:=Bool.eq_false_iff.mpr bX;subst bX;rw[if_neg zNo] at H;obtain rfl:=zI H;have bK:=zT (0≤(aC:Int));have bJ:=zT (aC<(l1.length:Int));obtain⟨aW,bC,aN,aM⟩:=at_T73 bH.out aC zd zd;cases bC;replace aN:=zC HB aN;replace aM:=zC HB aM
       try go_wp2_with (first|((with_reducible refine zgd 6 rfl ?_);(try (refine gate_guard (by rfl) ?_;dsimp only));refine zbx 6 #[.int .i64 0,.int .i64 0] 73 ?_;intro aE hg bP hbox hb;have aD:=zA hbox;have bI:=zga (w:=w) hg;replace HB:=zbs hb;replace aA:=zlh aA hg hb;obtain⟨aT,aR,aA⟩:=aA;clear hb hbox hg;have eN:=aR.out;have eH:=aT.out;obtain⟨dP,dO,cX,cW⟩:=ze2 aD))
       obtain⟨dZ,hx_⟩:∃ x_,x_=(bP.setCell ⟨aE,0,none⟩ (.int .i64 ((rd_T73 l1 aC).f0))).setCell ⟨aE,1,none⟩ (.int .i64 ((rd_T73 l1 aC).f1)):=⟨_,rfl⟩;have bB:Aside0 (dZ.heap[aK]?=some (.cells #[.int .i64 aJ,.int .i64 aI,.slice aV aH.length aU] 26 (0,0))):=⟨by rw[hx_];exact zkf aA⟩;have bA:Aside0 (dZ.heap[aE]?=some (.cells #[.int .i64 ((rd_T73 l1 aC).f0),.int .i64 ((rd_T73 l1 aC).f1)] 73 (0,0))):=⟨by rw[hx_];exact zkp aD⟩;have aZ:Aside0 (Below w.heap.size w dZ):=⟨by rw[hx_];exact zb⟩;(try clear aA aD HB);rw[← hx_];clear hx_;have aA:=bB;have aD:=bA;have HB:=aZ;clear bB bA aZ;replace aA:=zA (blk_drew aA.out);replace aD:=zA (blk_drew aD.out);replace HB:=zA (below_drew1 HB.out);refine start_ (n:=26) (S:=fun w'=>w'.cell? ⟨aK,0,none⟩=some (.int .i64 aJ)∧w'.cell? ⟨aK,1,none⟩=some (.int .i64 aI)∧w'.cell? ⟨aK,2,none⟩=some (.slice aV aH.length aU)∧w'.cell? ⟨aE,0,none⟩=some (.int .i64 ((rd_T73 l1 aC).f0))∧w'.cell? ⟨aE,1,none⟩=some (.int .i64 ((rd_T73 l1 aC).f1))) (ds:=[]) _ (by kernel_rfl) rfl rfl ⟨zq aA 0,zq aA 1,zq aA 2,zq aD 0,zq aD 1⟩ (fun hHeld=>?_);refine with_tabW impl_AreDepots.tab4 impl_AreDepots.bits4 (fun HT_ HW_=>?_);generalize dZ.drew=fC at aA aD HB hHeld ⊢;refine z_p 1 ?_;refine zt 0 14 HT_ HW_ hHeld ?_;refine zt 2 16 HT_ HW_ hHeld ?_;refine zo 3 17 HT_ (fun K hK=>?_);refine zgo Try.func34 #[.agg #[.int .i64 aJ,.int .i64 aI,.slice aV aH.length aU],.int .i64 ((rd_T73 l1 aC).f0)] ?_
       with_reducible refine(impl_IsOpen.calls k1 aJ aI _ _ aH ((rd_T73 l1 aC).f0) true _ ?s1 ?s2 A7.out).mono ?_
       (case s1=>exact zCb bD);(case s2=>exact bE.out);rintro e fB ⟨rfl,hb⟩;refine⟨_,rfl,?_⟩;replace aA:=zkb aA hb;replace aD:=zA (blk_below (g:=aE) (o:=.cells #[.int .i64 ((rd_T73 l1 aC).f0),.int .i64 ((rd_T73 l1 aC).f1)] 73 (0,0)) (zk aD) hb);replace HB:=zbs hb;(try clear hb);refine hK.out _ _ ⟨zq aA 0,zq aA 1,zq aA 2,zq aD 0,zq aD 1⟩ (fun hHeld=>?_);clear hK K;refine norm_ zV ?_;refine z_p 4 ?_;refine z_p 5 ?_;refine z_p 6 ?_;refine z_p 7 ?_;refine z_p 8 ?_;refine z_u 9 ?_;refine z_u 10 ?_;refine z_u 11 ?_;refine z_u 12 ?_;refine z_u 13 ?_;refine z_u 14 ?_;refine z_u 15 ?_;refine z_u 16 ?_;refine z_u 17 ?_;refine z_p 18 ?_;refine z_p 19 ?_;refine z_p 20 ?_;refine z_p 21 ?_;refine zt 22 36 HT_ HW_ hHeld ?_;refine zo 23 37 HT_ (fun K hK=>?_);refine zgo Try.func40 #[.int .i64 ((rd_T73 l1 aC).f1),.int .i64 1,.int .i64 10000] ?_
       with_reducible refine(impl_InRange.calls ((rd_T73 l1 aC).f1) 1 10000 false _ cG.out).mono ?_
       rintro e w' ⟨rfl,⟨nd,rfl⟩⟩;refine⟨_,rfl,?_⟩;refine hK.out _ _ ⟨zq aA 0,zq aA 1,zq aA 2,zq aD 0,zq aD 1⟩ (fun hHeld=>?_);clear hK K;refine norm_ zV ?_;refine z_p 24 ?_;refine z_p 25 ?_;refine done_ (done_of HT_.out (by kernel_rfl)) ?_
       try go_wp2
       go_ret;exact⟨zE,zb⟩
    ·replace c8:=Bool.eq_false_iff.mpr c8;subst c8;rw[if_neg zNo] at H;obtain rfl:=zI H;have bK:=zT (0≤(aC:Int));have bJ:=zT (aC<(l1.length:Int));obtain⟨aW,bC,aN,aM⟩:=at_T73 bH.out aC zd zd;cases bC;replace aN:=zC HB aN;replace aM:=zC HB aM
     try go_wp2_with (first|((with_reducible refine zgd 6 rfl ?_);(try (refine gate_guard (by rfl) ?_;dsimp only));refine zbx 6 #[.int .i64 0,.int .i64 0] 73 ?_;intro aE hg bO hbox hb;have aD:=zA hbox;have bI:=zga (w:=w) hg;replace HB:=zbs hb;replace aA:=zlh aA hg hb;obtain⟨aT,aR,aA⟩:=aA;clear hb hbox hg;have eM:=aR.out;have eG:=aT.out;obtain⟨dN,dM,cV,cU⟩:=ze2 aD))
     obtain⟨dY,hx_⟩:∃ x_,x_=(bO.setCell ⟨aE,0,none⟩ (.int .i64 ((rd_T73 l1 aC).f0))).setCell ⟨aE,1,none⟩ (.int .i64 ((rd_T73 l1 aC).f1)):=⟨_,rfl⟩;have bB:Aside0 (dY.heap[aK]?=some (.cells #[.int .i64 aJ,.int .i64 aI,.slice aV aH.length aU] 26 (0,0))):=⟨by rw[hx_];exact zkf aA⟩;have bA:Aside0 (dY.heap[aE]?=some (.cells #[.int .i64 ((rd_T73 l1 aC).f0),.int .i64 ((rd_T73 l1 aC).f1)] 73 (0,0))):=⟨by rw[hx_];exact zkp aD⟩;have aZ:Aside0 (Below w.heap.size w dY):=⟨by rw[hx_];exact zb⟩;(try clear aA aD HB);rw[← hx_];clear hx_;have aA:=bB;have aD:=bA;have HB:=aZ;clear bB bA aZ;replace aA:=zA (blk_drew aA.out);replace aD:=zA (blk_drew aD.out);replace HB:=zA (below_drew1 HB.out);refine start_ (n:=26) (S:=fun w'=>w'.cell? ⟨aK,0,none⟩=some (.int .i64 aJ)∧w'.cell? ⟨aK,1,none⟩=some (.int .i64 aI)∧w'.cell? ⟨aK,2,none⟩=some (.slice aV aH.length aU)∧w'.cell? ⟨aE,0,none⟩=some (.int .i64 ((rd_T73 l1 aC).f0))∧w'.cell? ⟨aE,1,none⟩=some (.int .i64 ((rd_T73 l1 aC).f1))) (ds:=[]) _ (by kernel_rfl) rfl rfl ⟨zq aA 0,zq aA 1,zq aA 2,zq aD 0,zq aD 1⟩ (fun hHeld=>?_);refine with_tabW impl_AreDepots.tab4 impl_AreDepots.bits4 (fun HT_ HW_=>?_);generalize dY.drew=fA at aA aD HB hHeld ⊢;refine z_p 1 ?_;refine zt 0 14 HT_ HW_ hHeld ?_;refine zt 2 16 HT_ HW_ hHeld ?_;refine zo 3 17 HT_ (fun K hK=>?_);refine zgo Try.func34 #[.agg #[.int .i64 aJ,.int .i64 aI,.slice aV aH.length aU],.int .i64 ((rd_T73 l1 aC).f0)] ?_
     with_reducible refine(impl_IsOpen.calls k1 aJ aI _ _ aH ((rd_T73 l1 aC).f0) false _ ?s1 ?s2 A7.out).mono ?_
     (case s1=>exact zCb bD);(case s2=>exact bE.out);rintro e eZ ⟨rfl,hb⟩;refine⟨_,rfl,?_⟩;replace aA:=zkb aA hb;replace aD:=zA (blk_below (g:=aE) (o:=.cells #[.int .i64 ((rd_T73 l1 aC).f0),.int .i64 ((rd_T73 l1 aC).f1)] 73 (0,0)) (zk aD) hb);replace HB:=zbs hb;(try clear hb);refine hK.out _ _ ⟨zq aA 0,zq aA 1,zq aA 2,zq aD 0,zq aD 1⟩ (fun hHeld=>?_);clear hK K;refine norm_ zV ?_;refine z_p 4 ?_;refine z_p 5 ?_;refine z_u 6 ?_;refine z_u 7 ?_;refine z_u 8 ?_;refine z_u 9 ?_;refine z_u 10 ?_;refine z_u 11 ?_;refine z_u 12 ?_;refine z_u 13 ?_;refine z_u 14 ?_;refine z_u 15 ?_;refine z_u 16 ?_;refine z_u 17 ?_;refine z_u 18 ?_;refine z_p 19 ?_;refine z_p 20 ?_;refine z_u 21 ?_;refine z_u 22 ?_;refine z_u 23 ?_;refine z_u 24 ?_;refine z_p 25 ?_;refine done_ (done_of HT_.out (by kernel_rfl)) ?_
     try go_wp2
     go_ret;exact⟨zE,zb⟩
   ·rw[if_neg c4] at H;have cM:=decide_eq_false c4;clear c4;obtain⟨cK,cF,H⟩:=zB H
    by_cases bW:cK=true
    ·subst bW;rw[if_pos rfl] at H;obtain rfl:=zI H;obtain⟨dL,dK,dJ,cT,cS,cR⟩:=ze3 aA
     go_wp2_with (first|((with_reducible refine zgf 41 rfl ?_);refine zgl 42 Try.func41 #[.agg #[.int .i64 aJ,.int .i64 aI,.slice aV aH.length aU]] ?_;(with_reducible refine(impl_IsLand.calls k1 aJ aI _ _ aH true _ ?s1 ?s2 cF.out).mono ?_);(case s1=>exact zCb bD);(case s2=>exact bE.out);rintro e eY ⟨rfl,hb⟩;refine⟨_,rfl,?_⟩;replace aA:=zkb aA hb;replace HB:=zbs hb;(try clear hb)))
     go_ret;exact⟨zE,zb⟩
    ·replace bW:=Bool.eq_false_iff.mpr bW;subst bW;rw[if_neg zNo] at H;obtain rfl:=zI H;obtain⟨dI,dH,dG,cQ,cP,cO⟩:=ze3 aA
     go_wp2_with (first|((with_reducible refine zgf 41 rfl ?_);refine zgl 42 Try.func41 #[.agg #[.int .i64 aJ,.int .i64 aI,.slice aV aH.length aU]] ?_;(with_reducible refine(impl_IsLand.calls k1 aJ aI _ _ aH false _ ?s1 ?s2 cF.out).mono ?_);(case s1=>exact zCb bD);(case s2=>exact bE.out);rintro e eX ⟨rfl,hb⟩;refine⟨_,rfl,?_⟩;replace aA:=zkb aA hb;replace HB:=zbs hb;(try clear hb)))
     go_ret;exact⟨zE,zb⟩

def impl_size.f (a0:Int):Option (Int):=some (mx a0 (wrap64 (-a0)))
theorem impl_size.calls (a0:Int) (r:Int) (w:World) (h:impl_size.f a0=some r) :
  Calls Try.prog 71 #[.int .i64 a0] w fun e w'=>e=.returned (.int .i64 r)∧Below w.heap.size w w':=by
 have HB:=zA (Below.refl w.heap.size w);have H:=h;clear h;unfold impl_size.f at H;obtain⟨aD,aA⟩:∃ j_:Int,(mx a0 (wrap64 (-a0)))=j_:=⟨_,rfl⟩
 replace H:(some aD)=some r:=by first|(rw[aA] at H;exact H)|(simp only[aA] at H ⊢;exact H)
 have aE:(if a0<(wrap64 (-a0)) then(wrap64 (-a0)) else a0)=aD:=aA;obtain rfl:=zI H;go_enter Try.func71,Try.ntmps71;go_wp2;go_ret;exact⟨by first|rfl|(simp[errW_none,errW_some] <;> rfl)|(simp only[←aA];first|rfl|(simp[errW_none,errW_some] <;> rfl))|(simp[*,errW_none,errW_some] <;> rfl),zb⟩

def impl_Apart.j0:Nat→Int→Int→Bool→Int→Int→List Int→Option (Int)
  |0,_,_,_,_,_,_=>none
  |k+1,x1,x2,x16,x484000,x484001,x484002=>if x16=true then(some (-1)) else(if x484000=0 then(none) else((impl_size.f (wrap64 ((Int.tmod x1 x484000)-(Int.tmod x2 x484000)))).bind fun t486=>((impl_size.f (wrap64 ((wrap64 (Int.tdiv x1 x484000))-(wrap64 (Int.tdiv x2 x484000))))).bind fun t487=>(some (wrap64 (t486+t487))))))
def impl_Apart.f (k:Nat) (a0_0:Int) (a0_1:Int) (l0_2:List Int) (a1:Int) (a2:Int):Option (Int):=(impl_IsCell.f k a0_0 a0_1 l0_2 a1).bind fun t484=>(if t484=true then((impl_IsCell.f k a0_0 a0_1 l0_2 a2).bind fun t485=>(impl_Apart.j0 k a1 a2 (!t485) a0_0 a0_1 l0_2)) else(impl_Apart.j0 k a1 a2 true a0_0 a0_1 l0_2))
def impl_Apart.T3:Bool × List (List Nat × List Nat):=(true,[([],[]),([],[]),([1],[1]),([0,2],[0,2]),([],[]),([],[]),([5],[5]),([4,6],[4,6]),([3,7],[3,7]),([8],[8]),([],[]),([],[]),([11],[11]),([10,12],[10,12]),([],[]),([],[]),([15],[15]),([14,16],[14,16]),([13,17],[13,17]),([18,9],[18]),([9,19],[9,19]),([20,19,0,1,2,3,4,5,6,7,8,9,10,11,12,13,14,15,16,17,18,19,20],[20])])
def impl_Apart.B3:List Nat:=[0,0,2,7,0,0,32,112,255,511,0,0,2048,7168,0,0,32768,114688,261120,524287,1048575,2097151]
theorem impl_Apart.tab3:rtab .any (opsOf Try.f62 3)=impl_Apart.T3:=by kernel_rfl
theorem impl_Apart.bits3:waitsOk impl_Apart.T3.2 impl_Apart.B3=true:=by kernel_rfl
theorem impl_Apart.calls (k:Nat) (aC:Int) (aE:Int) (aH:Option Addr) (aG:Nat) (aD:List Int) (a1:Int) (a2:Int) (r:Int) (w:World) (aR:Kd.C (Kd.int .i64) w aH aD.length aD) (aT:aD.length≤aG) (h:impl_Apart.f k aC aE aD a1 a2=some r) :
  Calls Try.prog 62 #[.agg #[.int .i64 aC,.int .i64 aE,.slice aH aD.length aG],.int .i64 a1,.int .i64 a2] w fun e w'=>e=.returned (.int .i64 r)∧Below w.heap.size w w':=by
 have hu26:=Try.underlying26;have aM:=zA aR;have aN:=zA aT;clear aR aT;have HB:=zA (Below.refl w.heap.size w);have H:=h;clear h;unfold impl_Apart.f at H;have bP:=zA H;clear H;go_enter Try.func62,Try.ntmps62
 go_upto_region 1 with (first|((with_reducible refine zgd 3 rfl ?_);refine zbx 3 #[.int .i64 aC,.int .i64 aE,.slice aH aD.length aG] 26 ?_;intro aJ hg w5 hbox hb;have aA:=zA hbox;have bY:=zga (w:=w) hg;replace HB:=zbs hb;clear hb hbox hg))
 (try simp only[Act.put,z_L])
 go_cut [16] (fun v16 wc=>∃ (kq:Nat) (aI:Bool),v16=.bool aI∧Aside0 (impl_Apart.j0 kq a1 a2 aI aC aE aD=some r)∧Aside0 (kq≤k)∧Aside0 (wc.heap[aJ]?=some (.cells #[.int .i64 aC,.int .i64 aE,(.slice aH aD.length aG)] 26 (0,0)))∧Aside0 (Below w.heap.size w wc))
 case first =>
  have H:=bP.out;clear bP;obtain⟨bS,A6,H⟩:=zB H
  by_cases c7:bS=true
  ·subst c7;rw[if_pos rfl] at H;obtain⟨bH,A8,H⟩:=zB H;have H':=zA H;clear H;obtain⟨bN,bM,bL,bK,bJ,bI⟩:=ze3 aA
   go_wp2_with (first|((with_reducible refine zgf 52 rfl ?_);refine zgl 9 Try.func52 #[.agg #[.int .i64 aC,.int .i64 aE,.slice aH aD.length aG],.int .i64 a1] ?_;(with_reducible refine(impl_IsCell.calls k aC aE _ _ aD a1 true _ ?s1 ?s2 A6.out).mono ?_);(case s1=>exact zCb aM);(case s2=>exact aN.out);rintro e cF ⟨rfl,hb⟩;refine⟨_,rfl,?_⟩;replace aA:=zkb aA hb;replace HB:=zbs hb;(try clear hb);obtain⟨bG,bF,bE,bA,aZ,aY⟩:=ze3 aA)|(go_at_call 52;(with_reducible refine(impl_IsCell.calls k aC aE _ _ aD a2 bH _ ?s1 ?s2 A8.out).mono ?_);(case s1=>exact zCb aM);(case s2=>exact aN.out);rintro e cE ⟨rfl,hb⟩;replace aA:=zkb aA hb;replace HB:=zbs hb;(try clear hb)))
   go_meet
   case rel=>exact⟨_,(!bH),zr,H',⟨by first|omega|exact Nat.le_refl _⟩,⟨zk aA⟩,⟨zb⟩⟩
  ·replace c7:=Bool.eq_false_iff.mpr c7;subst c7;rw[if_neg zNo] at H;have H':=zA H;clear H;obtain⟨bD,bC,bB,aX,aW,aV⟩:=ze3 aA
   go_wp2_with (first|((with_reducible refine zgf 52 rfl ?_);refine zgl 9 Try.func52 #[.agg #[.int .i64 aC,.int .i64 aE,.slice aH aD.length aG],.int .i64 a1] ?_;(with_reducible refine(impl_IsCell.calls k aC aE _ _ aD a1 false _ ?s1 ?s2 A6.out).mono ?_);(case s1=>exact zCb aM);(case s2=>exact aN.out);rintro e cD ⟨rfl,hb⟩;refine⟨_,rfl,?_⟩;replace aA:=zkb aA hb;replace HB:=zbs hb;(try clear hb)))
   go_meet
   case rel=>exact⟨_,(true),zr,H',⟨by first|omega|exact Nat.le_refl _⟩,⟨zk aA⟩,⟨zb⟩⟩
 case rest =>
  clear bP;(try clear c7);(try clear bG);(try clear bF);(try clear bE);(try clear bD);(try clear bC);(try clear bB);(try clear bN);(try clear bM);(try clear bL);(try clear bA);(try clear aZ);(try clear aY);(try clear aX);(try clear aW);(try clear aV);(try clear bK);(try clear bJ);(try clear bI);obtain⟨kq,aI,rfl,HA,HJ3,aA,HB⟩:=hcut;cases kq with
  |zero=>exact absurd HA.out (by simp[impl_Apart.j0])
  |succ kj3 =>
   have H:=HA.out;clear HA;simp only[impl_Apart.j0] at H
   by_cases aU:aI=true
   ·subst aU;rw[if_pos rfl] at H;obtain rfl:=zI H;go_wp2;go_ret;exact⟨zE,zb⟩
   ·replace aU:=Bool.eq_false_iff.mpr aU;subst aU;rw[if_neg zNo] at H
    by_cases c16:aC=0
    ·rw[if_pos c16] at H;exact absurd H (by simp)
    ·rw[if_neg c16] at H;have bX:(aC==0)=false:=beq_eq_false_iff_ne.mpr c16;have bW:(aC != 0)=true:=bne_iff_ne.mpr c16;obtain⟨bR,bV,H⟩:=zB H;obtain⟨bQ,bU,H⟩:=zB H;obtain rfl:=zI H
     try go_wp2
     replace aA:=zA (blk_drew aA.out);replace HB:=zA (below_drew1 HB.out);refine start_ (n:=22) (S:=fun w'=>w'.cell? ⟨aJ,0,none⟩=some (.int .i64 aC)∧w'.cell? ⟨aJ,1,none⟩=some (.int .i64 aE)∧w'.cell? ⟨aJ,2,none⟩=some (.slice aH aD.length aG)) (ds:=[]) _ (by kernel_rfl) rfl rfl ⟨zq aA 0,zq aA 1,zq aA 2⟩ (fun hHeld=>?_);refine with_tabW impl_Apart.tab3 impl_Apart.bits3 (fun HT_ HW_=>?_);generalize wc.drew=cC at aA HB hHeld ⊢;refine z_p 0 ?_;refine z_p 1 ?_;refine z_p 4 ?_;refine z_p 5 ?_;refine z_p 10 ?_;refine z_p 11 ?_;refine z_p 14 ?_;refine z_p 15 ?_;refine zt 2 19 HT_ HW_ hHeld ?_;refine z_p 3 ?_;refine zt 6 23 HT_ HW_ hHeld ?_;refine z_p 7 ?_;refine z_p 8 ?_;refine zt 12 29 HT_ HW_ hHeld ?_;refine z_p 13 ?_;refine zt 16 33 HT_ HW_ hHeld ?_;refine z_p 17 ?_;refine z_p 18 ?_;refine zo 9 26 HT_ (fun K hK=>?_);refine zgo Try.func71 #[.int .i64 (wrap64 ((Int.tmod a1 aC)-(Int.tmod a2 aC)))] ?_
     with_reducible refine(impl_size.calls (wrap64 ((Int.tmod a1 aC)-(Int.tmod a2 aC))) bR _ bV.out).mono ?_
     rintro e cB ⟨rfl,hb⟩;refine⟨_,rfl,?_⟩;replace aA:=zkb aA hb;replace HB:=zbs hb;(try clear hb);refine hK.out _ _ ⟨zq aA 0,zq aA 1,zq aA 2⟩ (fun hHeld=>?_);clear hK K;refine norm_ zV ?_;refine zo 19 36 HT_ (fun K hK=>?_);refine zgo Try.func71 #[.int .i64 (wrap64 ((wrap64 (Int.tdiv a1 aC))-(wrap64 (Int.tdiv a2 aC))))] ?_
     with_reducible refine(impl_size.calls (wrap64 ((wrap64 (Int.tdiv a1 aC))-(wrap64 (Int.tdiv a2 aC)))) bQ _ bU.out).mono ?_
     rintro e cA ⟨rfl,hb⟩;refine⟨_,rfl,?_⟩;replace aA:=zkb aA hb;replace HB:=zbs hb;(try clear hb);refine hK.out _ _ ⟨zq aA 0,zq aA 1,zq aA 2⟩ (fun hHeld=>?_);clear hK K;refine norm_ zV ?_;refine z_p 20 ?_;refine z_p 21 ?_;refine done_ (done_of HT_.out (by kernel_rfl)) ?_
     try go_wp2
     go_ret;exact⟨zE,zb⟩

/-! #### clear within a row of the call's own; a slice of a row, read in the row itself -/
def rs (x0 x4:List Int) (i:Int):Int:=rd x0 ((x0.length:Int)-(x4.length:Int)+i)
theorem rs_cell {w:World} {e base n c m L:Nat} {ok:Nat→Prop} {ad:Addr} {A:Option Addr} {x0 y:List Int} (HO:Kd.R (Kd.int .i64) e w base ok (.slice (some ad) n c) x0)
  (hA:A=if c=m then some ad else((some ad):Option Addr).map (·.add (m * 1))) (hy:y.length=L-m) (hL:L=x0.length) (hm:m≤L) (i:Int) (h0:0≤i) (hi:i<(y.length:Int)) :
  ∃ ad',A=some ad'∧w.cell? (ad'.add i.toNat)=some (.int .i64 (rs x0 y i)):=by
 obtain⟨hn,hc,hC⟩:=Kd.R_reads' HO
 obtain⟨ad2,e2,hx⟩:=Kd.at_int hC ((m:Int)+i) (by omega) (by omega)
 injection e2 with e2
 subst e2
 refine⟨ad.add m,?_,?_⟩
 ·rw[hA,if_neg (by omega)];simp
 ·rw[Addr.add_add,show m+i.toNat=((m:Int)+i).toNat by omega,hx]
  unfold rs
  rw[show (x0.length:Int)-(y.length:Int)+i=(m:Int)+i by omega]
def putAllC:Nat→List Int→List Int→List Int
  |_,[],y=>y
  |o,v :: r,y=>putAllC (o+1) r (y.set o v)
theorem putAllC_eq:∀ (vs:List Int) (o:Nat) (y:List Int),o+vs.length≤y.length→putAllC o vs y=y.take o++vs++y.drop (o+vs.length)
  |[],o,y,h=>by simp[putAllC]
  |v :: r,o,y,h=>by
    simp only[List.length_cons] at h
    rw[putAllC,putAllC_eq r (o+1) (y.set o v) (by simp;omega)]
    rw[List.take_set,List.drop_set]
    have h1:o<y.length:=by omega
    rw[if_pos (by omega),List.take_succ_eq_append_getElem h1,List.length_cons,show o+1+r.length=o+(r.length+1) by omega]
    congr 1
    rw[List.set_append_right _ _ (by simp;omega)]
    simp[Nat.min_eq_left (Nat.le_of_lt h1)]
theorem setCells_R {e base g n cap:Nat} {ok:Nat→Prop}:∀ (vs:List Int) (o:Nat) (W:World) (xs:List Int),(Kd.int .i64).R e W base ok (.slice (some ⟨g,0,none⟩) n cap) xs →
    (Kd.int .i64).R e (W.setCells g o (vs.map (Value.int .i64))) base ok (.slice (some ⟨g,0,none⟩) n cap) (putAllC o vs xs)∧W.grownBy (W.setCells g o (vs.map (Value.int .i64))) (some g)
  |[],o,W,xs,h=>⟨h,World.grownBy.refl _ _⟩
  |v :: r,o,W,xs,h=>by
    obtain⟨h1,h2⟩:=Kd.R_putg h (o:Int) v
    rw[Int.toNat_natCast] at h1 h2
    obtain⟨h3,h4⟩:=setCells_R r (o+1) _ _ h1
    exact⟨h3,h2.trans h4⟩
theorem run_clearS {P:Program} {W:World} {t e ty:TypeId} {base n cap:Nat} {ok:Nat→Prop} {xs:List Int} {ad:Addr} (ht:P.underlying t=some (.slice e)) (hz:∀ w,(zeroValue e).run P w=.ok (.int .i64 0) w)
  (h:(Kd.int .i64).R e W base ok (.slice (some ad) n cap) xs) (k:Nat) (hk:k≤xs.length) (A:Option Addr) (hA:k<xs.length→A=some (ad.add k)) (c:Nat) :
  ∃ W1,(Builtin.clear_ #[t] ty #[.slice A (xs.length-k) c]).run P W=.ok (.tuple #[]) W1∧(Kd.int .i64).R e W1 base ok (.slice (some ad) n cap) (xs.take k++List.replicate (xs.length-k) 0)∧W.grownBy W1 (Value.slice (some ad) n cap).ownBlock:=by
 by_cases hlt:k<xs.length
 ·obtain⟨g,cap',hv,_,_,_⟩:=Kd.R_form h (by omega)
  injection hv with h1 h2 h3
  injection h1 with h1
  subst h1
  obtain rfl:=hA hlt
  obtain⟨hn,hc,_⟩:=Kd.R_reads' h
  have hr:=Lib.run_clear_slice (P:=P) W t e ty (.int .i64 0) ht hz rfl rfl g k (xs.length-k) c (by omega)
   (fun j hj=>by
    have h2:=(Kd.R_celln 0 h ((k+j:Nat):Int) (by omega) (by omega)).1
    rw[Int.toNat_natCast] at h2
    rw[h2];rfl)
   (fun j hj=>by
    have h2:=(Kd.R_celln 0 h ((k+j:Nat):Int) (by omega) (by omega)).2
    rwa [Int.toNat_natCast] at h2)
  obtain⟨h3,h4⟩:=setCells_R (List.replicate (xs.length-k) 0) k W xs h
  rw[List.map_replicate] at h3 h4
  rw[add_plain]
  refine⟨_,hr,?_,h4⟩
  have e0:xs.drop (k+(xs.length-k))=[]:=List.drop_eq_nil_of_le (by omega)
  rw[putAllC_eq _ _ _ (by rw[List.length_replicate];omega),List.length_replicate,e0,List.append_nil] at h3
  exact h3
 ·have e1:xs.length-k=0:=by omega
  refine⟨W,?_,?_,World.grownBy.refl _ _⟩
  ·rw[e1]
   cases A <;> simp[Builtin.clear_,run_underlying ht]
  ·rw[e1,List.replicate_zero,List.append_nil,List.take_of_length_le (by omega)]
   exact h
theorem drop_at {P:Program} (t e:TypeId) {i:TypeInfo} (ht:P.underlying t=some (.slice e)) (hi:P.info? e=some i) (hsz:i.size=1) (ad:Addr) (n c:Nat) (j:Int) (h0:0≤j) (hm:j≤n) (hc:n≤c) :
  ∃ A':Option Addr,(∀ W:World,(Instr.slice t (.slice (some ad) n c) (some (.int .i64 j)) none none).run P W=.ok (.slice A' (n-j.toNat) (c-j.toNat)) W)∧(j<n→A'=some (ad.add j.toNat)):=by
 have hel:P.elem t=e:=by simp[Program.elem,ht]
 have hu:P.underlying t=some (.slice (P.elem t)):=by rw[hel];exact ht
 refine⟨if c=j.toNat then some ad else some (ad.add j.toNat),fun W=>?_,fun h=>?_⟩
 ·rw[run_slice_l W t _ n c hu .i64 j h0 (by omega),hel]
  simp[sizeOf,typeInfo,hi,hsz,sliced,Result.andThen]
 ·rw[if_neg (by omega)]
theorem clear_step {P:Program} {ops:Array Oper} {rest:List Oper} {o:Oper} {a:Act} {Q:Exit→Act→World→Prop} {W W1:World} {t ty:TypeId} {u:Value} (hr:(Builtin.clear_ #[t] ty #[u]).run P W=.ok (.tuple #[]) W1) (s:Operand)
  (hgd:o.guard=none) (hty:o.type=ty) (ho:o.op=.call { callee:=.builtin .clear,args:=#[s],argTypes:=#[t] }) (hd:o.dst=none) (hs:a.eval s=u)
  (h:wpList P ops Q rest a W1):wpList P ops Q (o :: rest) a W:=by
 refine wpList_plain hgd fun K hK=>?_
 subst hty
 unfold Oper.wp execOp
 simp only[ho,resolve,invoke,builtin,Sem.run_bind,Sem.run_pure,Result.andThen_ok,List.map_toArray,List.map_cons,List.map_nil,hs,hr]
 refine hK _ _ ?_
 rw[hd]
 exact h
theorem growB {w0 W W1:World} {row:Option Nat} (HB:Below w0.heap.size w0 W) (g:W.grownBy W1 row) (hr:∀ k,row=some k→w0.heap.size≤k):Below w0.heap.size w0 W1:=HB.grown g HB.size hr
theorem take_zero_ (xs:List Int) (k m:Nat) (h:k≤xs.length):(xs.take k++List.replicate m 0).take k=xs.take k:=by
 rw[List.take_append_of_le_length (by rw[List.length_take];omega),List.take_take,Nat.min_self]
theorem zero3 (w:World):(zeroValue 3).run Try.prog w=.ok (.int .i64 0) w:=by kernel_rfl
mutual
def slices_Compact_int_int.l0:Nat→List Int→Int→Option (List Int)
  |0,_,_=>none
  |k+1,x0,x3=>if x3<(x0.length:Int) then(if 0≤x3 then(if 0≤(wrap64 (x3-1)) then(if (wrap64 (x3-1))<(x0.length:Int) then(if (rd x0 x3)=(rd x0 (wrap64 (x3-1))) then(if x3≤(x0.length:Int) then(slices_Compact_int_int.l1 k x0 x3 (x0.drop (x3:Int).toNat) 1) else(none)) else(slices_Compact_int_int.l0 k x0 (wrap64 (x3+1)))) else(none)) else(none)) else(none)) else(some x0)
def slices_Compact_int_int.l1:Nat→List Int→Int→List Int→Int→Option (List Int)
  |0,_,_,_,_=>none
  |k+1,x0,x3,x4,x5=>if x5<(x4.length:Int) then(if 0≤x5 then(if 0≤(wrap64 (x5-1)) then(if (wrap64 (x5-1))<(x4.length:Int) then(if (rs x0 x4 x5)=(rs x0 x4 (wrap64 (x5-1))) then(slices_Compact_int_int.l1 k x0 x3 x4 (wrap64 (x5+1))) else(if 0≤x3 then(if x3<(x0.length:Int) then(slices_Compact_int_int.l1 k (x0.set (x3:Int).toNat (rs x0 x4 x5)) (wrap64 (x3+1)) x4 (wrap64 (x5+1))) else(none)) else(none))) else(none)) else(none)) else(none)) else(if 0≤x3 then(if x3≤(x0.length:Int) then(some (x0.take (x3:Int).toNat)) else(none)) else(none))
end
def slices_Compact_int_int.f (k:Nat) (l0:List Int):Option (List Int):=if (l0.length:Int)<2 then(some l0) else(slices_Compact_int_int.l0 k l0 1)
theorem slices_Compact_int_int.calls (k:Nat) (P0_:Nat→Prop) (u9000_:Value) (l0:List Int) (r:List Int) (w0 w:World) (hB:Below w0.heap.size w0 w) (ho0:Kd.R (Kd.int .i64) 3 w w0.heap.size P0_ u9000_ l0) (h:slices_Compact_int_int.f k l0=some r) :
  Calls Try.prog 63 #[u9000_] w fun e w'=>∃ v0_:Value,e=.returned (v0_)∧Kd.R (Kd.int .i64) 3 w' w0.heap.size (fun k_=>(P0_ k_∨w.heap.size≤k_)) v0_ r∧Below w0.heap.size w0 w'∧Kept w w' (fun k_=>P0_ k_):=by
 have aZ:=zA (show Kd.R (Kd.int .i64) 3 w w0.heap.size (fun k_=>(P0_ k_∨w.heap.size≤k_)) u9000_ l0 from Kd.R_mono ho0 (fun k_ hk=>(.inl hk)))
 have HK:=zA (Kept.refl w (fun k_=>P0_ k_))
 have HW0:=zA hB.size
 have HB:=zA hB
 clear hB
 have H:(if (l0.length:Int)<2 then(some l0) else(slices_Compact_int_int.l0 k l0 1))=some r:=h
 clear h
 by_cases c2:(l0.length:Int)<2
 ·rw[if_pos c2] at H
  have aX:decide ((l0.length:Int)<2)=true:=decide_eq_true c2
  have c2b1:decide (l0.length<2)=true:=decide_eq_true (by omega)
  clear c2
  obtain rfl:=zI H
  obtain⟨Ao3,co3,eo3⟩:=Kd.R_slice aZ.out
  subst eo3
  go_enter Try.func63,Try.ntmps63
  go_wp2
  repeat (go_quiet (fail);try go_wp2)
  go_ret
  exact⟨_,zE,zR aZ,zb,by repeat (first|(with_reducible first|exact HK.out|apply Kept.alloc|apply Kept.drewN|apply Kept.drew)|exact HK.out)⟩
 ·rw[if_neg c2] at H
  have aX:decide ((l0.length:Int)<2)=false:=decide_eq_false c2
  have c2b1:decide (l0.length<2)=false:=decide_eq_false (by omega)
  clear c2
  have H':=zA H
  clear H
  obtain⟨Ao4,aQ,eo4⟩:=Kd.R_slice aZ.out
  subst eo4
  go_enter Try.func63,Try.ntmps63
  go_wp2
  repeat (go_quiet (fail);try go_wp2)
  go_loopg [3] k (fun kq v3 w'=>∃ (aC:List Int) (aD:Int),v3=.int .i64 aD∧Aside0 (slices_Compact_int_int.l0 kq aC aD=some r)∧Aside0 (kq≤k)∧Aside0 (Kd.R (Kd.int .i64) 3 w' w0.heap.size (fun k_=>(P0_ k_∨w.heap.size≤k_)) (.slice Ao4 l0.length aQ) aC)∧Aside0 (Kept w w' (fun k_=>P0_ k_))∧Aside0 (Below w0.heap.size w0 w'))
  case atStart=>exact⟨(l0),(1),(by first|rfl|(simp;done)|(simp[*];done)),H',⟨Nat.le_refl _⟩,⟨zR aZ⟩,⟨by repeat (first|(with_reducible first|exact HK.out|apply Kept.alloc|apply Kept.drewN|apply Kept.drew)|exact HK.out)⟩,⟨zb⟩⟩
  case round =>
   clear H'
   try clear c2
   try clear aX
   try clear c2b1
   try clear p2
   obtain⟨aC,aD,rfl,HA,HK1,aA,HK,HB⟩:=hrel
   have hl0_1:=(Kd.R_reads' aA.out).1
   rw[hl0_1] at aA
   (try simp only[hl0_1])
   cases gk with
   |zero=>exact absurd HA.out (by simp[slices_Compact_int_int.l0])
   |succ k1 =>
    have H:=HA.out
    clear HA
    simp only[slices_Compact_int_int.l0] at H
    by_cases c5:aD<(aC.length:Int)
    ·rw[if_pos c5] at H
     have bD:decide (aD<(aC.length:Int))=true:=decide_eq_true c5
     clear c5
     by_cases c6:0≤aD
     ·rw[if_pos c6] at H
      have c6b0:decide (0≤aD)=true:=decide_eq_true c6
      clear c6
      obtain⟨aK,hji7⟩:∃ j_:Int,(wrap64 (aD-1))=j_:=⟨_,rfl⟩
      replace H:(if 0≤(aK) then(if (aK)<(aC.length:Int) then(if (rd aC aD)=(rd aC (aK)) then(if aD≤(aC.length:Int) then(slices_Compact_int_int.l1 k1 aC aD (aC.drop (aD:Int).toNat) 1) else(none)) else(slices_Compact_int_int.l0 k1 aC (wrap64 (aD+1)))) else(none)) else(none))=some r:=by first|(rw[hji7] at H;exact H)|(simp only[hji7] at H ⊢;exact H)
      have bJ:(IntKind.i64.wrap (aD-1))=aK:=(i64_w _).trans hji7
      by_cases c8:0≤(aK)
      ·rw[if_pos c8] at H
       have c8b0:decide (0≤(aK))=true:=decide_eq_true c8
       clear c8
       by_cases c9:(aK)<(aC.length:Int)
       ·rw[if_pos c9] at H
        have c9b0:decide ((aK)<(aC.length:Int))=true:=decide_eq_true c9
        clear c9
        by_cases c10:(rd aC aD)=(rd aC (aK))
        ·rw[if_pos c10] at H
         have aY:((rd aC aD)==(rd aC (aK)))=true:=beq_iff_eq.mpr c10
         have c10b1:((rd aC aD) != (rd aC (aK)))=false:=bne_eq_false_iff_eq.mpr c10
         clear c10
         have c11b0:=eq_true (of_decide_eq_true (by first|(with_reducible assumption)|assumption):0≤aD)
         by_cases c12:aD≤(aC.length:Int)
         ·rw[if_pos c12] at H
          have c12b0:=eq_true c12
          have c12b1:decide (aD≤(aC.length:Int))=true:=decide_eq_true c12
          clear c12
          obtain⟨aG,hy429⟩:∃ y_:List Int,y_=(aC.drop (aD:Int).toNat):=⟨_,rfl⟩
          replace H:(slices_Compact_int_int.l1 k1 aC aD aG 1)=some r:=zY hy429 H
          have Ny429:=zA hy429
          clear hy429
          have H':=zA H
          clear H
          have p427:0≤(aD:Int):=of_decide_eq_true (by first|(with_reducible assumption)|assumption)
          have q427:aD<(aC.length:Int):=of_decide_eq_true (by first|(with_reducible assumption)|assumption)
          obtain⟨ad427,e427,hx427_0⟩:=Kd.at_int (Kd.R_reads' aA.out).2.2 aD p427 q427
          cases e427
          replace p427:=eq_true p427
          replace q427:=eq_true q427
          have p428:0≤((aK):Int):=of_decide_eq_true (by first|(with_reducible assumption)|assumption)
          have q428:(aK)<(aC.length:Int):=of_decide_eq_true (by first|(with_reducible assumption)|assumption)
          obtain⟨ad428,e428,hx428_0⟩:=Kd.at_int (Kd.R_reads' aA.out).2.2 (aK) p428 q428
          obtain rfl:ad427=ad428:=(by injection e428)
          replace p428:=eq_true p428
          replace q428:=eq_true q428
          have q13:(aD:Int)≤((aC.length:Int):Int):=of_decide_eq_true (by first|(with_reducible assumption)|assumption)
          obtain⟨i013,hi013,_,hsz13,_⟩:=info_parts info3
          obtain⟨goA,coA,eoA,gbA,glA,clA,HGA⟩:=Kd.R_form aA.out (by have h1_:=of_eq_true p427;have h2_:=of_eq_true q427;omega);injection eoA with ea_ en_ ec_;injection ea_ with ea_;subst ea_;subst ec_;clear en_ gbA glA clA HGA;simp only[add_plain] at hx427_0 hx428_0
          have hroom13:aC.length≤aQ:=(Kd.R_reads' aA.out).2.1
          have hC13:Kd.C (Kd.int .i64) _ (some ⟨goA,0,none⟩) aC.length aC:=(Kd.R_reads' aA.out).2.2
          have q013:(0:Int)≤(aD:Int):=of_decide_eq_true (by first|(with_reducible assumption)|assumption)
          have hcut13:=cut_from (P:=Try.prog) 24 3 .i64 Try.underlying24 hi013 1 hsz13 (some ⟨goA,0,none⟩) aC.length aQ aD q013 q13
          have hr13:=Kd.C_drop (m:=(aD:Int).toNat) (c:=aQ) hC13 (by omega) hroom13
          obtain⟨bI,hA13⟩:∃ A1,A1=(if aQ=(aD:Int).toNat then(some ⟨goA,0,none⟩) else((some ⟨goA,0,none⟩):Option Addr).map (·.add ((aD:Int).toNat * 1))):=⟨_,rfl⟩
          obtain⟨c13,hc13⟩:∃ c1,c1=aQ-(aD:Int).toNat:=⟨_,rfl⟩
          have hy13:aG.length=aC.length-(aD:Int).toNat:=(by rw[Ny429.out,List.length_drop] <;> omega)
          rw[show (aC).drop (aD:Int).toNat=aG from Ny429.out.symm] at hr13
          replace hr13:Kd.C (Kd.int .i64) _ bI aG.length aG:=(by rw[hA13];exact hr13)
          rw[←hy13,←hA13,←hc13] at hcut13
          have bK:=zA hr13
          have HC432:=zA (show aG.length≤c13 from by rw[hy13,hc13];exact Nat.sub_le_sub_right hroom13 _)
          clear hr13 hC13 hroom13 hi013 hsz13 hc13
          have KY13:=zA hy13
          have KA13:=zA hA13
          clear hy13 hA13
          have KL13:=zA (show (aD:Int).toNat≤aC.length from by omega)
          replace q13:=eq_true q13
          go_wp2
          repeat (go_quiet (fail);try go_wp2)
          go_loopg [3,5] k1 (fun kq v3 v5 w'=>∃ (aE:List Int) (aH:Int) (aI:Int),v3=.int .i64 aH∧v5=.int .i64 aI∧Aside0 (slices_Compact_int_int.l1 kq aE aH aG aI=some r)∧Aside0 (kq≤k1)∧Aside0 (Kd.R (Kd.int .i64) 3 w' w0.heap.size (fun k_=>(P0_ k_∨w.heap.size≤k_)) (.slice (some ⟨goA,0,none⟩) aC.length aQ) aE)∧Aside0 (Kept w w' (fun k_=>P0_ k_))∧Aside0 (Below w0.heap.size w0 w'))
          case atStart=>exact⟨(aC),(aD),(1),(by first|rfl|(simp;done)|(simp[*];done)),(by first|rfl|(simp;done)|(simp[*];done)),H',⟨Nat.le_refl _⟩,⟨by(try simp only[hl0_1]);(with_reducible repeat (first|apply Kd.R_alloc|apply Kd.R_drewN|apply Kd.R_drew));exact aA.out⟩,⟨by repeat (first|(with_reducible first|exact HK.out|apply Kept.alloc|apply Kept.drewN|apply Kept.drew)|exact HK.out)⟩,⟨zb⟩⟩
          case round =>
           clear H'
           try clear c1
           try clear q1
           try clear c2
           try clear aX
           try clear c2b1
           try clear p2
           try clear p4
           try clear q4
           try clear hx4
           try clear c5
           try clear bD
           try clear c6
           try clear c6b0
           try clear p6
           try clear c7
           try clear c8
           try clear c8b0
           try clear c9
           try clear c9b0
           try clear c10
           try clear aY
           try clear c10b1
           try clear c11
           try clear c11b0
           try clear c12
           try clear c12b0
           try clear c12b1
           try clear c13
           try clear q13
           try clear hx427_0
           try clear hx428_0
           try clear p2
           try clear p427
           try clear p428
           try clear q013
           try clear q13
           try clear q427
           try clear q428
           obtain⟨aE,aH,aI,rfl,rfl,HA,HK2,aA,HK,HB⟩:=hrel
           have hl0_2:=(Kd.R_reads' aA.out).1
           rw[hl0_2] at aA
           (try simp only[hl0_2])
           cases gk with
           |zero=>exact absurd HA.out (by simp[slices_Compact_int_int.l1])
           |succ k2 =>
            have H:=HA.out
            clear HA
            simp only[slices_Compact_int_int.l1] at H
            by_cases c14:aI<(aG.length:Int)
            ·rw[if_pos c14] at H
             have bF:decide (aI<(aG.length:Int))=true:=decide_eq_true c14
             clear c14
             by_cases c15:0≤aI
             ·rw[if_pos c15] at H
              have c15b0:decide (0≤aI)=true:=decide_eq_true c15
              clear c15
              obtain⟨aJ,hji16⟩:∃ j_:Int,(wrap64 (aI-1))=j_:=⟨_,rfl⟩
              replace H:(if 0≤(aJ) then(if (aJ)<(aG.length:Int) then(if (rs aE aG aI)=(rs aE aG (aJ)) then(slices_Compact_int_int.l1 k2 aE aH aG (wrap64 (aI+1))) else(if 0≤aH then(if aH<(aE.length:Int) then(slices_Compact_int_int.l1 k2 (aE.set (aH:Int).toNat (rs aE aG aI)) (wrap64 (aH+1)) aG (wrap64 (aI+1))) else(none)) else(none))) else(none)) else(none))=some r:=by first|(rw[hji16] at H;exact H)|(simp only[hji16] at H ⊢;exact H)
              have bH:(IntKind.i64.wrap (aI-1))=aJ:=(i64_w _).trans hji16
              by_cases c17:0≤(aJ)
              ·rw[if_pos c17] at H
               have c17b0:decide (0≤(aJ))=true:=decide_eq_true c17
               clear c17
               by_cases c18:(aJ)<(aG.length:Int)
               ·rw[if_pos c18] at H
                have c18b0:decide ((aJ)<(aG.length:Int))=true:=decide_eq_true c18
                clear c18
                by_cases c19:(rs aE aG aI)=(rs aE aG (aJ))
                ·rw[if_pos c19] at H
                 have bE:((rs aE aG aI)==(rs aE aG (aJ)))=true:=beq_iff_eq.mpr c19
                 have c19b1:((rs aE aG aI) != (rs aE aG (aJ)))=false:=bne_eq_false_iff_eq.mpr c19
                 clear c19
                 have H':=zA H
                 clear H
                 have p433:0≤(aI:Int):=of_decide_eq_true (by first|(with_reducible assumption)|assumption)
                 have q433:aI<(aG.length:Int):=of_decide_eq_true (by first|(with_reducible assumption)|assumption)
                 obtain⟨ad433,e433,hx433_0⟩:=rs_cell aA.out KA13.out KY13.out hl0_2 KL13.out aI p433 q433
                 cases e433
                 replace p433:=eq_true p433
                 replace q433:=eq_true q433
                 have p434:0≤((aJ):Int):=of_decide_eq_true (by first|(with_reducible assumption)|assumption)
                 have q434:(aJ)<(aG.length:Int):=of_decide_eq_true (by first|(with_reducible assumption)|assumption)
                 obtain⟨ad434,e434,hx434_0⟩:=rs_cell aA.out KA13.out KY13.out hl0_2 KL13.out (aJ) p434 q434
                 obtain rfl:ad433=ad434:=(by injection e434)
                 replace p434:=eq_true p434
                 replace q434:=eq_true q434
                 go_wp2
                 repeat (go_quiet (fail);try go_wp2)
                 (try simp only[←hl0_2])
                 go_roundg k2
                 case measure=>have:=HK1.out;have:=HK2.out;omega
                 case rel=>exact⟨(aE),(aH),(wrap64 (aI+1)),(by first|rfl|(simp;done)|(simp[*];done)),(by first|rfl|(simp;done)|(simp[*];done)),H',⟨by have:=HK1.out;have:=HK2.out;omega⟩,⟨by(try simp only[hl0_1]);(try simp only[hl0_2]);(with_reducible repeat (first|apply Kd.R_alloc|apply Kd.R_drewN|apply Kd.R_drew));exact aA.out⟩,⟨by repeat (first|(with_reducible first|exact HK.out|apply Kept.alloc|apply Kept.drewN|apply Kept.drew)|exact HK.out)⟩,⟨zb⟩⟩
                ·rw[if_neg c19] at H
                 have bE:((rs aE aG aI)==(rs aE aG (aJ)))=false:=beq_eq_false_iff_ne.mpr c19
                 have c19b1:((rs aE aG aI) != (rs aE aG (aJ)))=true:=bne_iff_ne.mpr c19
                 by_cases c20:0≤aH
                 ·rw[if_pos c20] at H
                  have c20b0:decide (0≤aH)=true:=decide_eq_true c20
                  clear c20
                  by_cases c21:aH<(aE.length:Int)
                  ·rw[if_pos c21] at H
                   have c21b0:decide (aH<(aE.length:Int))=true:=decide_eq_true c21
                   clear c21
                   obtain⟨aV,hy436⟩:∃ y_:List Int,y_=(aE.set (aH:Int).toNat (rs aE aG aI)):=⟨_,rfl⟩
                   replace H:(slices_Compact_int_int.l1 k2 aV (wrap64 (aH+1)) aG (wrap64 (aI+1)))=some r:=zY hy436 H
                   have Ny436:=zA hy436
                   clear hy436
                   have H':=zA H
                   clear H
                   have p433:0≤(aI:Int):=of_decide_eq_true (by first|(with_reducible assumption)|assumption)
                   have q433:aI<(aG.length:Int):=of_decide_eq_true (by first|(with_reducible assumption)|assumption)
                   obtain⟨ad433,e433,hx433_0⟩:=rs_cell aA.out KA13.out KY13.out hl0_2 KL13.out aI p433 q433
                   cases e433
                   replace p433:=eq_true p433
                   replace q433:=eq_true q433
                   have p434:0≤((aJ):Int):=of_decide_eq_true (by first|(with_reducible assumption)|assumption)
                   have q434:(aJ)<(aG.length:Int):=of_decide_eq_true (by first|(with_reducible assumption)|assumption)
                   obtain⟨ad434,e434,hx434_0⟩:=rs_cell aA.out KA13.out KY13.out hl0_2 KL13.out (aJ) p434 q434
                   obtain rfl:ad433=ad434:=(by injection e434)
                   replace p434:=eq_true p434
                   replace q434:=eq_true q434
                   have p435:0≤(aI:Int):=of_decide_eq_true (by first|(with_reducible assumption)|assumption)
                   have q435:aI<(aG.length:Int):=of_decide_eq_true (by first|(with_reducible assumption)|assumption)
                   obtain⟨ad435,e435,hx435_0⟩:=rs_cell aA.out KA13.out KY13.out hl0_2 KL13.out aI p435 q435
                   obtain rfl:ad433=ad435:=(by injection e435)
                   replace p435:=eq_true p435
                   replace q435:=eq_true q435
                   have p22:0≤(aH:Int):=of_decide_eq_true (by first|(with_reducible assumption)|assumption)
                   have q22:(aH:Int)<((aE.length:Int):Int):=of_decide_eq_true (by first|(with_reducible assumption)|assumption)
                   obtain⟨go22,co22,eo22,gb22,gl22,cl22,HG22⟩:=Kd.R_form aA.out (by omega)
                   injection eo22 with ea_ en_ ec_;injection ea_ with ea_;injection ea_ with eb_ _ _;subst eb_;subst ec_;clear en_
                   have GB22:=zA gb22
                   have GG22:=zA HG22
                   clear gb22 gl22 HG22
                   have HMgo22:=zA (show (P0_ goA∨w.heap.size≤goA) from (aA.out.1 _ rfl))
                   (first|simp only[add_plain] at hx427_0|skip)
                   (first|simp only[add_plain] at hx428_0|skip)
                   obtain⟨aW,hf22_0⟩:=Kd.R_celln 0 aA.out (aH:Int) p22 q22
                   replace p22:=eq_true p22
                   replace q22:=eq_true q22
                   have HP23:=Kd.R_putg aA.out (aH:Int) (rs aE aG aI)
                   go_wp2_with (first|((with_reducible refine gate_store (t:=3) (p:=51) rfl ?_);(try (rw[drewN_self wr];generalize hq_:World.drewN wr _=wr;have aR:=zA (Kd.R_at hq_ aA.out);have aN:=zA (kept_at hq_ HK.out);have aM:=zA (below_at hq_ HB.out);clear hq_ aA HK HB;have aA:=aR;have HK:=aN;have HB:=aM;clear aR aN aM;have HP23:=Kd.R_putg aA.out (aH:Int) (rs aE aG aI);obtain⟨aW,hf22_0⟩:=Kd.R_celln 0 aA.out (aH:Int) (of_eq_true p22) (of_eq_true q22)));refine store_event (t:=3) (p:=51) (v:=?vo_w24) (w1:=(wr.setCell ⟨goA,(aH:Int).toNat,none⟩ (.int .i64 (rs aE aG aI)))) ?hg ?ho ?hn ?hr ?_;(case ho=>rfl);(case hg=>rfl);(case hn=>rfl);(case hr=>first|(go_simp;done)|(go_simp;rfl));intro aU hw;have hg:wr.grownBy aU (some goA):=(by rw[hw];exact HP23.2);have hp_:Kd.R (Kd.int .i64) 3 aU w0.heap.size (fun k_=>(P0_ k_∨w.heap.size≤k_)) (.slice (some ⟨goA,0,none⟩) aE.length aQ) aV:=(by rw[hw,Ny436.out];exact HP23.1);clear HP23;have aR:=zA hp_;have aN:=zA ((by rw[hw];exact below_set (HB.out) GB22.out:Below w0.heap.size w0 aU));have aM:=zA (Kept.of_grown (S:=(fun k_=>P0_ k_)) hg (by repeat (first|(with_reducible first|exact HK.out|apply Kept.alloc|apply Kept.drewN|apply Kept.drew)|exact HK.out)) (fun k_ e_=>(aA.out.1 k_ e_)));clear aA;clear HB;clear HK;have aA:=aR;have HB:=aN;have HK:=aM;clear aR aN aM;clear hg hw hp_))
                   repeat (go_quiet (fail);try go_wp2_with (first|((with_reducible refine gate_store (t:=3) (p:=51) rfl ?_);(try (rw[drewN_self wr];generalize hq_:World.drewN wr _=wr;have aR:=zA (Kd.R_at hq_ aA.out);have aN:=zA (kept_at hq_ HK.out);have aM:=zA (below_at hq_ HB.out);clear hq_ aA HK HB;have aA:=aR;have HK:=aN;have HB:=aM;clear aR aN aM;have HP23:=Kd.R_putg aA.out (aH:Int) (rs aE aG aI);obtain⟨aW,hf22_0⟩:=Kd.R_celln 0 aA.out (aH:Int) (of_eq_true p22) (of_eq_true q22)));refine store_event (t:=3) (p:=51) (v:=?vo_w24) (w1:=(wr.setCell ⟨goA,(aH:Int).toNat,none⟩ (.int .i64 (rs aE aG aI)))) ?hg ?ho ?hn ?hr ?_;(case ho=>rfl);(case hg=>rfl);(case hn=>rfl);(case hr=>first|(go_simp;done)|(go_simp;rfl));intro aU hw;have hg:wr.grownBy aU (some goA):=(by rw[hw];exact HP23.2);have hp_:Kd.R (Kd.int .i64) 3 aU w0.heap.size (fun k_=>(P0_ k_∨w.heap.size≤k_)) (.slice (some ⟨goA,0,none⟩) aE.length aQ) aV:=(by rw[hw,Ny436.out];exact HP23.1);clear HP23;have aR:=zA hp_;have aN:=zA ((by rw[hw];exact below_set (HB.out) GB22.out:Below w0.heap.size w0 aU));have aM:=zA (Kept.of_grown (S:=(fun k_=>P0_ k_)) hg (by repeat (first|(with_reducible first|exact HK.out|apply Kept.alloc|apply Kept.drewN|apply Kept.drew)|exact HK.out)) (fun k_ e_=>(aA.out.1 k_ e_)));clear aA;clear HB;clear HK;have aA:=aR;have HB:=aN;have HK:=aM;clear aR aN aM;clear hg hw hp_)))
                   (try simp only[←hl0_2])
                   go_roundg k2
                   case measure=>have:=HK1.out;have:=HK2.out;omega
                   case rel=>exact⟨(aV),(wrap64 (aH+1)),(wrap64 (aI+1)),(by first|rfl|(simp;done)|(simp[*];done)),(by first|rfl|(simp;done)|(simp[*];done)),H',⟨by have:=HK1.out;have:=HK2.out;omega⟩,⟨by(try simp only[hl0_1]);(try simp only[hl0_2]);(with_reducible repeat (first|apply Kd.R_alloc|apply Kd.R_drewN|apply Kd.R_drew));exact aA.out⟩,⟨by repeat (first|(with_reducible first|exact HK.out|apply Kept.alloc|apply Kept.drewN|apply Kept.drew)|exact HK.out)⟩,⟨zb⟩⟩
                  ·rw[if_neg c21] at H
                   exact absurd H (by simp)
                 ·rw[if_neg c20] at H
                  exact absurd H (by simp)
               ·rw[if_neg c18] at H
                exact absurd H (by simp)
              ·rw[if_neg c17] at H
               exact absurd H (by simp)
             ·rw[if_neg c15] at H
              exact absurd H (by simp)
            ·rw[if_neg c14] at H
             have bF:decide (aI<(aG.length:Int))=false:=decide_eq_false c14
             clear c14
             by_cases c25:0≤aH
             ·rw[if_pos c25] at H
              have c25b0:=eq_true c25
              have c25b1:decide (0≤aH)=true:=decide_eq_true c25
              clear c25
              by_cases c26:aH≤(aE.length:Int)
              ·rw[if_pos c26] at H
               have c26b0:=eq_true c26
               have c26b1:decide (aH≤(aE.length:Int))=true:=decide_eq_true c26
               clear c26
               have c26z_:=of_decide_eq_true c26b1;have c25z_:=of_decide_eq_true c25b1;have hcc_:=(Kd.R_reads' aA.out).2.1
               obtain⟨i0k,hi0k,_,hsz0k,_⟩:=info_parts info3
               obtain⟨Ac_,hcutc_,hac_⟩:=drop_at (P:=Try.prog) 24 3 Try.underlying24 hi0k hsz0k ⟨goA,0,none⟩ aE.length aQ aH c25z_ c26z_ hcc_
               have RUNC_:=zA (fun (w_:World) (h_:Kd.R (Kd.int .i64) 3 w_ w0.heap.size (fun k_=>(P0_ k_∨w.heap.size≤k_)) (.slice (some ⟨goA,0,none⟩) aE.length aQ) aE)=>run_clearS (P:=Try.prog) (t:=24) (e:=3) (ty:=0) Try.underlying24 zero3 h_ aH.toNat (by omega) Ac_ (fun hlt_=>hac_ (by omega)) (aQ-aH.toNat))
               clear hi0k hsz0k hac_ hcc_
               obtain⟨bA,hy437⟩:∃ y_:List Int,y_=(aE.take (aH:Int).toNat):=⟨_,rfl⟩
               replace H:(some bA)=some r:=zY hy437 H
               have Ny437:=zA hy437
               clear hy437
               obtain rfl:=zI H
               have bB:(aH:Int)≤((aE.length:Int):Int):=of_decide_eq_true (by first|(with_reducible assumption)|assumption)
               obtain⟨i027,hi027,_,hsz27,_⟩:=info_parts info3
               have hcut27:=cut_to (P:=Try.prog) 24 3 .i64 Try.underlying24 hi027 (some ⟨goA,0,none⟩) aE.length aQ aH (of_decide_eq_true (by first|(with_reducible assumption)|assumption)) bB (Kd.R_reads' aA.out).2.1
               have c26n_:aH.toNat≤aE.length:=by omega
               obtain⟨wc_,e_,r_,g_⟩:=RUNC_.out wr aA.out;have EE_:=zA e_;have aN:=zA (growB HB.out g_ (Kd.R_base aA.out));have aM:=zA (Kept.of_grown (S:=(fun k_=>P0_ k_)) g_ HK.out (fun k_ e_=>aA.out.1 k_ e_));clear aA HB HK RUNC_;have aA:=zA r_;have HB:=aN;have HK:=aM;clear e_ r_ g_ aN aM;have hr27:=Kd.R_take (m:=(aH:Int).toNat) aA.out (by rw[List.length_append,List.length_take];omega);have bC:bA.length=(aH:Int).toNat:=(by rw[Ny437.out,List.length_take];omega);rw[take_zero_ aE _ _ c26n_,←Ny437.out] at hr27;rw[←bC] at hr27 hcut27;clear bC hi027 hsz27 aA;have bG:=zA hr27;clear hr27;replace bB:=eq_true bB
               go_wp2_with (first|((with_reducible refine gate_builtin (b:=.clear) (xs:=#[.tmp 56]) rfl ?_);refine clear_step EE_.out (.tmp 56) (by rfl) (by rfl) (by rfl) (by rfl) (by rfl) ?_))
               repeat (go_quiet (fail);try go_wp2)
               go_ret
               exact⟨_,by first|rfl|(simp[errW_none,errW_some] <;> rfl)|(simp only[←hji7];first|rfl|(simp[errW_none,errW_some] <;> rfl))|(simp[*,errW_none,errW_some] <;> rfl),zR bG,zb,by repeat (first|(with_reducible first|exact HK.out|apply Kept.alloc|apply Kept.drewN|apply Kept.drew)|exact HK.out)⟩
              ·rw[if_neg c26] at H
               exact absurd H (by simp)
             ·rw[if_neg c25] at H
              exact absurd H (by simp)
         ·rw[if_neg c12] at H
          exact absurd H (by simp)
        ·rw[if_neg c10] at H
         have aY:((rd aC aD)==(rd aC (aK)))=false:=beq_eq_false_iff_ne.mpr c10
         have c10b1:((rd aC aD) != (rd aC (aK)))=true:=bne_iff_ne.mpr c10
         have H':=zA H
         clear H
         have p427:0≤(aD:Int):=of_decide_eq_true (by first|(with_reducible assumption)|assumption)
         have q427:aD<(aC.length:Int):=of_decide_eq_true (by first|(with_reducible assumption)|assumption)
         obtain⟨ad427,e427,hx427_0⟩:=Kd.at_int (Kd.R_reads' aA.out).2.2 aD p427 q427
         cases e427
         replace p427:=eq_true p427
         replace q427:=eq_true q427
         have p428:0≤((aK):Int):=of_decide_eq_true (by first|(with_reducible assumption)|assumption)
         have q428:(aK)<(aC.length:Int):=of_decide_eq_true (by first|(with_reducible assumption)|assumption)
         obtain⟨ad428,e428,hx428_0⟩:=Kd.at_int (Kd.R_reads' aA.out).2.2 (aK) p428 q428
         obtain rfl:ad427=ad428:=(by injection e428)
         replace p428:=eq_true p428
         replace q428:=eq_true q428
         go_wp2
         repeat (go_quiet (fail);try go_wp2)
         (try simp only[←hl0_1])
         go_roundg k1
         case measure=>have:=HK1.out;omega
         case rel=>exact⟨(aC),(wrap64 (aD+1)),(by first|rfl|(simp;done)|(simp[*];done)),H',⟨by have:=HK1.out;omega⟩,⟨by(try simp only[hl0_1]);(with_reducible repeat (first|apply Kd.R_alloc|apply Kd.R_drewN|apply Kd.R_drew));exact aA.out⟩,⟨by repeat (first|(with_reducible first|exact HK.out|apply Kept.alloc|apply Kept.drewN|apply Kept.drew)|exact HK.out)⟩,⟨zb⟩⟩
       ·rw[if_neg c9] at H
        exact absurd H (by simp)
      ·rw[if_neg c8] at H
       exact absurd H (by simp)
     ·rw[if_neg c6] at H
      exact absurd H (by simp)
    ·rw[if_neg c5] at H
     have bD:decide (aD<(aC.length:Int))=false:=decide_eq_false c5
     clear c5
     obtain rfl:=zI H
     go_wp2
     repeat (go_quiet (fail);try go_wp2)
     go_ret
     exact⟨_,zE,zR aA,zb,by repeat (first|(with_reducible first|exact HK.out|apply Kept.alloc|apply Kept.drewN|apply Kept.drew)|exact HK.out)⟩

def impl_Near.l0:Nat→Int→List Int→List Int→Int→Int→Int→Int→List Int→Option (List Int)
  |0,_,_,_,_,_,_,_,_=>none
  |k+1,x1,x5,x25,x26,x27,x502000,x502001,x502002=>if x27<x26 then(if 0≤x27 then(if x27<(x25.length:Int) then((impl_IsOpen.f k x502000 x502001 x502002 (rd x25 x27)).bind fun t513=>(if t513=true then((impl_Apart.f k x502000 x502001 x502002 x1 (rd x25 x27)).bind fun t514=>(if t514=1 then(if x5.length<17592186044416 then(impl_Near.l0 k x1 (x5++[rd x25 x27]) x25 x26 (wrap64 (x27+1)) x502000 x502001 x502002) else(none)) else(impl_Near.l0 k x1 x5 x25 x26 (wrap64 (x27+1)) x502000 x502001 x502002))) else(impl_Near.l0 k x1 x5 x25 x26 (wrap64 (x27+1)) x502000 x502001 x502002))) else(none)) else(none)) else((slices_Compact_int_int.f k x5).bind fun t509=>(some t509))
def impl_Near.f (k:Nat) (a0_0:Int) (a0_1:Int) (l0_2:List Int) (a1:Int):Option (List Int):=(impl_IsCell.f k a0_0 a0_1 l0_2 a1).bind fun t502=>(if t502=true then((some (([wrap64 (a1-a0_0),wrap64 (a1-1),wrap64 (a1+1),wrap64 (a1+a0_0)]:List Int):List Int)).bind fun y506=>(impl_Near.l0 k a1 (([]:List Int)) y506 (y506.length:Int) 0 a0_0 a0_1 l0_2)) else(some ([]:List Int)))
theorem impl_Near.calls (k:Nat) (aD:Int) (aI:Int) (aQ:Option Addr) (aN:Nat) (aH:List Int) (a1:Int) (r:List Int) (w:World) (bH:Kd.C (Kd.int .i64) w aQ aH.length aH) (bI:aH.length≤aN) (h:impl_Near.f k aD aI aH a1=some r) :
  Calls Try.prog 51 #[.agg #[.int .i64 aD,.int .i64 aI,.slice aQ aH.length aN],.int .i64 a1] w fun e w'=>∃ v0_:Value,e=.returned (v0_)∧Kd.R (Kd.int .i64) 3 w' w.heap.size (fun _=>True) v0_ r∧Below w.heap.size w w':=by
 have hu26:=Try.underlying26;have aR:=zA bH;have aT:=zA bI;clear bH bI;have HB:=zA (Below.refl w.heap.size w);have H:=h;clear h;unfold impl_Near.f at H;obtain⟨cN,A3,H⟩:=zB H
 by_cases c4:cN=true
 ·subst c4;rw[if_pos rfl] at H;obtain⟨bD,bA⟩:∃ y_:List Int,y_=(([]:List Int)):=⟨_,rfl⟩
  replace H:((some (([wrap64 (a1-aD),wrap64 (a1-1),wrap64 (a1+1),wrap64 (a1+aD)]:List Int):List Int)).bind fun aE=>(impl_Near.l0 k a1 bD aE (aE.length:Int) 0 aD aI aH))=some r:=zY bA H
  have Ny503:=zA bA;clear bA;obtain⟨aE,aZ⟩:∃ y_:List Int,y_=(([wrap64 (a1-aD),wrap64 (a1-1),wrap64 (a1+1),wrap64 (a1+aD)]:List Int)):=⟨_,rfl⟩
  replace H:(impl_Near.l0 k a1 bD aE (aE.length:Int) 0 aD aI aH)=some r:=zY aZ H
  have Ny506:=zA aZ;clear aZ;have H':=zA H;clear H;go_enter Try.func51,Try.ntmps51
  go_wp2_with (first|((with_reducible refine zgd 2 rfl ?_);refine zbx 2 #[.int .i64 aD,.int .i64 aI,.slice aQ aH.length aN] 26 ?_;intro bJ hg w5 hbox hb;have aA:=zA hbox;have cJ:=zga (w:=w) hg;replace HB:=zbs hb;clear hb hbox hg;obtain⟨cA,bZ,bY,bX,bW,bV⟩:=ze3 aA)|((with_reducible refine zgf 52 rfl ?_);refine zgl 10 Try.func52 #[.agg #[.int .i64 aD,.int .i64 aI,.slice aQ aH.length aN],.int .i64 a1] ?_;(with_reducible refine(impl_IsCell.calls k aD aI _ _ aH a1 true _ ?s1 ?s2 A3.out).mono ?_);(case s1=>exact zCb aR);(case s2=>exact aT.out);rintro e w7 ⟨rfl,hb⟩;refine⟨_,rfl,?_⟩;replace aA:=zkb aA hb;replace HB:=zbs hb;(try clear hb))|((with_reducible refine zgd 12 rfl ?_);refine Kd.R_lit (Kd.int .i64) _ 3 ?hg (N:=12) ?hd (xs:=([]:List Int)) (inner:=[]) (ok:=fun _=>True) (okp:=fun _=>True) ?hr ?hp (fun _ hk=>hk) trivial (Below.refl _ _) (Nat.le_refl _) (by simp) ?_;(case hd=>rfl);(case hg=>rfl);(case hr=>first|(go_simp;done)|(go_simp;rfl));(case hp=>exact(Reps.none _ _));intro v504 w8 ho9 hb hg_ hnew_;clear hg_ hnew_;(first|rw[←Ny503.out] at ho9|(simp only[Int.reduceToNat] at ho9;rw[←Ny503.out] at ho9));have aV:=zA (Kd.R_lower ho9 (below_size zb));replace aA:=zkb aA hb;replace HB:=zbs hb;clear hb ho9;obtain⟨bR,bQ,bP,bO,bN,bM⟩:=ze3 aA)|((with_reducible refine zgd 25 rfl ?_);refine Kd.R_lit (Kd.int .i64) _ 3 ?hg (N:=25) ?hd (xs:=([wrap64 (a1-aD),wrap64 (a1-1),wrap64 (a1+1),wrap64 (a1+aD)]:List Int)) (inner:=[.int .i64 (wrap64 (a1-aD)),.int .i64 (wrap64 (a1-1)),.int .i64 (wrap64 (a1+1)),.int .i64 (wrap64 (a1+aD))]) (ok:=fun _=>True) (okp:=fun _=>True) ?hr ?hp (fun _ hk=>hk) trivial (Below.refl _ _) (Nat.le_refl _) (by simp) ?_;(case hd=>rfl);(case hg=>rfl);(case hr=>first|(go_simp;done)|(go_simp;rfl));(case hp=>exact(Reps.one (show Kd.M (Kd.int .i64) _ _ _ (wrap64 (a1-aD)) [.int .i64 (wrap64 (a1-aD))] from rfl) (Reps.one (show Kd.M (Kd.int .i64) _ _ _ (wrap64 (a1-1)) [.int .i64 (wrap64 (a1-1))] from rfl) (Reps.one (show Kd.M (Kd.int .i64) _ _ _ (wrap64 (a1+1)) [.int .i64 (wrap64 (a1+1))] from rfl) (Reps.one (show Kd.M (Kd.int .i64) _ _ _ (wrap64 (a1+aD)) [.int .i64 (wrap64 (a1+aD))] from rfl) (Reps.none _ _))))));intro v507 eN ho12 hb hg_ hnew_;clear hg_ hnew_;(first|rw[←Ny506.out] at ho12|(simp only[Int.reduceToNat] at ho12;rw[←Ny506.out] at ho12));have bL:=zA (Kd.R_lower (Kd.R_new' ho12 (Kd.R_lt (zR aV))) (below_size zb));replace aV:=zA (Kd.R_elder' (zR aV) (Kd.R_base ho12) hb);replace aA:=zkb aA hb;replace HB:=zbs hb;clear hb ho12;obtain⟨bG,bB,cP⟩:=Kd.R_slice bL.out;subst cP))
  go_loopg [5,27] k (fun kq v5 v27 w'=>∃ (aM:List Int) (aC:Int),v27=.int .i64 aC∧Aside0 (impl_Near.l0 kq a1 aM aE (aE.length:Int) aC aD aI aH=some r)∧Aside0 (kq≤k)∧Aside0 (Kd.R (Kd.int .i64) 3 w' w.heap.size (fun k_=>some k_≠((.slice bG aE.length bB):Value).ownBlock) v5 aM)∧Aside0 (Kd.R (Kd.int .i64) 3 w' w.heap.size (fun k_=>some k_≠(v5:Value).ownBlock) (.slice bG aE.length bB) aE)∧Aside0 (w'.heap[bJ]?=some (.cells #[.int .i64 aD,.int .i64 aI,(.slice aQ aH.length aN)] 26 (0,0)))∧Aside0 (Below w.heap.size w w'))
  case atStart=>exact⟨(bD),(0),zr,H',⟨Nat.le_refl _⟩,⟨z_2 aV⟩,⟨z_2 bL⟩,⟨zk aA⟩,⟨zb⟩⟩
  case round =>
   clear H';(try clear c4);(try clear bR);(try clear bQ);(try clear bP);(try clear cA);(try clear bZ);(try clear bY);(try clear bO);(try clear bN);(try clear bM);(try clear bX);(try clear bW);(try clear bV);obtain⟨aM,aC,rfl,HA,HK1,aJ,aG,aA,HB⟩:=hrel
   cases gk with
   |zero=>exact absurd HA.out (by simp[impl_Near.l0])
   |succ k1 =>
    have H:=HA.out;clear HA;simp only[impl_Near.l0] at H
    by_cases c14:aC<(aE.length:Int)
    ·rw[if_pos c14] at H;have cF:=decide_eq_true c14;clear c14;obtain⟨eD,H⟩:=zifD H;obtain⟨eC,H⟩:=zifD H;obtain⟨cL,cC,H⟩:=zB H
     by_cases bK:cL=true
     ·subst bK;rw[if_pos rfl] at H;obtain⟨aU,cK,H⟩:=zB H
      by_cases c20:aU=1
      ·rw[if_pos c20] at H;have cE:(aU==1)=true:=beq_iff_eq.mpr c20;have cD:(aU != 1)=false:=bne_eq_false_iff_eq.mpr c20;clear c20;obtain⟨cG,H⟩:=zifA H;obtain⟨bS,aY⟩:∃ y_:List Int,y_=(aM++[rd aE aC]):=⟨_,rfl⟩
       replace H:(impl_Near.l0 k1 a1 bS aE (aE.length:Int) (wrap64 (aC+1)) aD aI aH)=some r:=zY aY H
       have Ny515:=zA aY;clear aY;have H':=zA H;clear H;have bU:=zT (0≤(aC:Int));have bT:=zT (aC<(aE.length:Int));obtain⟨bC,aW,aX⟩:=Kd.at_int (Kd.R_reads' aG.out).2.2 aC zd zd;cases aW;obtain⟨dZ,dY,dX,dH,dG,dF⟩:=ze3 aA
       go_wp2_with (first|((with_reducible refine zgf 34 rfl ?_);refine zgl 33 Try.func34 #[.agg #[.int .i64 aD,.int .i64 aI,.slice aQ aH.length aN],.int .i64 (rd aE aC)] ?_;(with_reducible refine(impl_IsOpen.calls k1 aD aI _ _ aH (rd aE aC) true _ ?s1 ?s2 cC.out).mono ?_);(case s1=>exact zCb aR);(case s2=>exact aT.out);rintro e eM ⟨rfl,hb⟩;refine⟨_,rfl,?_⟩;replace aJ:=zRb aJ hb;replace aG:=zRb aG hb;replace aA:=zkb aA hb;replace HB:=zbs hb;(try clear hb);obtain⟨dW,dV,dU,dE,dD,dC⟩:=ze3 aA)|(go_at_call 62;(with_reducible refine(impl_Apart.calls k1 aD aI _ _ aH a1 (rd aE aC) aU _ ?s1 ?s2 cK.out).mono ?_);(case s1=>exact zCb aR);(case s2=>exact aT.out);rintro e eL ⟨rfl,hb⟩;replace aJ:=zRb aJ hb;replace aG:=zRb aG hb;replace aA:=zkb aA hb;replace HB:=zbs hb;(try clear hb))|((with_reducible refine gate_builtin (b:=.append) (xs:=#[.tmp 41,.tmp 43]) rfl ?_);at_builtin;refine Kd.R_append (Kd.int .i64) (w0:=w) w.heap.size rfl (.tmp 41) (.tmp 43) 24 3 (.int .i64 0) 8 rfl Try.underlying24 info3 rfl (by decide) (by omega) u5 aM (rd aE aC) [.int .i64 (rd aE aC)] (fun k_=>some k_≠(.slice (some bC) aE.length bB:Value).ownBlock) (fun _=>False) rfl rfl ?aP (fun _ hk=>hk.elim) ?aF ?aO ?aB ?aS ?aL ?_;(case aP=>exact rfl);(case aB=>exact zb);(case aF=>exact(fun k_ hk=>Kd.fresh' (Kd.R_lt (zR aG)) k_ hk));(case aO=>exact(zR aJ));(case aS=>exact(below_size zb));(case aL=>have:=cG.out;omega);intro v516 eK ho hb hg hat;rw[←Ny515.out] at ho;replace aG:=zA (Kd.R_after (ok:=(fun _=>True)) (z_o aG (fun _ hk=>⟨trivial,hk⟩)) hg hat);replace aA:=zgr aA hg (Kd.R_ne aJ.out aA.out (by decide));replace HB:=zA hb;have cH:=zA ho;clear aJ;clear ho hb hg hat))
       go_roundg k1
       case measure=>have:=HK1.out;omega
       case rel=>exact⟨(bS),(wrap64 (aC+1)),zr,H',⟨by have:=HK1.out;omega⟩,⟨zR cH⟩,⟨z_2 aG⟩,⟨zk aA⟩,⟨zb⟩⟩
      ·rw[if_neg c20] at H;have cE:(aU==1)=false:=beq_eq_false_iff_ne.mpr c20;have cD:(aU != 1)=true:=bne_iff_ne.mpr c20;have H':=zA H;clear H;have bU:=zT (0≤(aC:Int));have bT:=zT (aC<(aE.length:Int));obtain⟨bC,aW,aX⟩:=Kd.at_int (Kd.R_reads' aG.out).2.2 aC zd zd;cases aW;obtain⟨dT,dS,dR,dB,dA,cZ⟩:=ze3 aA
       go_wp2_with (first|((with_reducible refine zgf 34 rfl ?_);refine zgl 33 Try.func34 #[.agg #[.int .i64 aD,.int .i64 aI,.slice aQ aH.length aN],.int .i64 (rd aE aC)] ?_;(with_reducible refine(impl_IsOpen.calls k1 aD aI _ _ aH (rd aE aC) true _ ?s1 ?s2 cC.out).mono ?_);(case s1=>exact zCb aR);(case s2=>exact aT.out);rintro e eJ ⟨rfl,hb⟩;refine⟨_,rfl,?_⟩;replace aJ:=zRb aJ hb;replace aG:=zRb aG hb;replace aA:=zkb aA hb;replace HB:=zbs hb;(try clear hb);obtain⟨dQ,dP,dO,cY,cX,cW⟩:=ze3 aA)|(go_at_call 62;(with_reducible refine(impl_Apart.calls k1 aD aI _ _ aH a1 (rd aE aC) aU _ ?s1 ?s2 cK.out).mono ?_);(case s1=>exact zCb aR);(case s2=>exact aT.out);rintro e eI ⟨rfl,hb⟩;replace aJ:=zRb aJ hb;replace aG:=zRb aG hb;replace aA:=zkb aA hb;replace HB:=zbs hb;(try clear hb)))
       go_roundg k1
       case measure=>have:=HK1.out;omega
       case rel=>exact⟨(aM),(wrap64 (aC+1)),zr,H',⟨by have:=HK1.out;omega⟩,⟨zR aJ⟩,⟨zR aG⟩,⟨zk aA⟩,⟨zb⟩⟩
     ·replace bK:=Bool.eq_false_iff.mpr bK;subst bK;rw[if_neg zNo] at H;have H':=zA H;clear H;have bU:=zT (0≤(aC:Int));have bT:=zT (aC<(aE.length:Int));obtain⟨bC,aW,aX⟩:=Kd.at_int (Kd.R_reads' aG.out).2.2 aC zd zd;cases aW;obtain⟨dN,dM,dL,cV,cU,cT⟩:=ze3 aA
      go_wp2_with (first|((with_reducible refine zgf 34 rfl ?_);refine zgl 33 Try.func34 #[.agg #[.int .i64 aD,.int .i64 aI,.slice aQ aH.length aN],.int .i64 (rd aE aC)] ?_;(with_reducible refine(impl_IsOpen.calls k1 aD aI _ _ aH (rd aE aC) false _ ?s1 ?s2 cC.out).mono ?_);(case s1=>exact zCb aR);(case s2=>exact aT.out);rintro e eH ⟨rfl,hb⟩;refine⟨_,rfl,?_⟩;replace aJ:=zRb aJ hb;replace aG:=zRb aG hb;replace aA:=zkb aA hb;replace HB:=zbs hb;(try clear hb)))
      go_roundg k1
      case measure=>have:=HK1.out;omega
      case rel=>exact⟨(aM),(wrap64 (aC+1)),zr,H',⟨by have:=HK1.out;omega⟩,⟨zR aJ⟩,⟨zR aG⟩,⟨zk aA⟩,⟨zb⟩⟩
    ·rw[if_neg c14] at H;have cF:=decide_eq_false c14;clear c14;obtain⟨cM,eA,H⟩:=zB H;obtain rfl:=zI H;obtain⟨bF,bE,cO⟩:=Kd.R_slice aJ.out;subst cO
     go_wp2_with (first|((with_reducible refine zgf 63 rfl ?_);refine zgl 47 Try.func63 #[.slice bF aM.length bE] ?_;(with_reducible refine(slices_Compact_int_int.calls k1 (fun k_=>some k_=(.slice bF aM.length bE:Value).ownBlock) (.slice bF aM.length bE) aM cM w _ ?s1 ?s2 eA.out).mono ?_);(case s1=>exact zb);(case s2=>exact Kd.R_tight rfl aJ.out);rintro e eG ⟨v510,rfl,ho0,hb,hkp⟩;refine⟨_,rfl,?_⟩;replace aA:=zA (blk_kept (zk aA) hkp (fun hs_=>(fun e_=>(Kd.R_ne aJ.out aA.out (by decide)) e_) hs_));have cI:=zA (Kd.R_mono (ok':=fun k_=>some k_≠(.slice bG aE.length bB:Value).ownBlock) ho0 (fun k_ hk_=>Or.elim hk_ (fun hs_=>fun e_=>(((aG.out).1 k_ e_.symm)) hs_) (fun hn_=>(Kd.fresh' (Kd.R_lt (zR aG)) k_ hn_))));replace aG:=zA (Kd.R_mono (ok':=fun k_=>some k_≠(v510:Value).ownBlock) (Kd.R_keptB (aG.out) hkp (fun k_ hk_ hs_=>(hk_) hs_)) (fun k_ hk_=>fun e_=>Or.elim (ho0.1 k_ e_.symm) (fun hs_=>hk_.2.1 hs_) (fun hn_=>Nat.not_le.2 hk_.2.2 hn_)));replace HB:=zA hb;clear aJ;(try clear hb);(try clear hkp);(try clear ho0)))
     go_ret;exact⟨_,zE,z_t cI,zb⟩
 ·replace c4:=Bool.eq_false_iff.mpr c4;subst c4;rw[if_neg zNo] at H;obtain rfl:=zI H;go_enter Try.func51,Try.ntmps51
  go_wp2_with (first|((with_reducible refine zgd 2 rfl ?_);refine zbx 2 #[.int .i64 aD,.int .i64 aI,.slice aQ aH.length aN] 26 ?_;intro bJ hg eF hbox hb;have aA:=zA hbox;have cJ:=zga (w:=w) hg;replace HB:=zbs hb;clear hb hbox hg;obtain⟨dK,dJ,dI,cS,cR,cQ⟩:=ze3 aA)|((with_reducible refine zgf 52 rfl ?_);refine zgl 10 Try.func52 #[.agg #[.int .i64 aD,.int .i64 aI,.slice aQ aH.length aN],.int .i64 a1] ?_;(with_reducible refine(impl_IsCell.calls k aD aI _ _ aH a1 false _ ?s1 ?s2 A3.out).mono ?_);(case s1=>exact zCb aR);(case s2=>exact aT.out);rintro e eE ⟨rfl,hb⟩;refine⟨_,rfl,?_⟩;replace aA:=zkb aA hb;replace HB:=zbs hb;(try clear hb)))
  go_ret;exact⟨_,zE,by first|exact Kd.R_nil _ _ _ _ _|exact Kd.N_nil _ _ _ _ _|exact Kd.V_nil _ _ _ _ _|exact Kd.Q_nil _ _ _ _ _|exact Kd.S_nil _ _ _ _ _,zb⟩

mutual
def impl_distances.l0:Nat→List Int→List Int→Int→Int→Int→Int→List Int→Option (List Int)
  |0,_,_,_,_,_,_,_=>none
  |k+1,x1,x5,x15,x16,x519000,x519001,x519002=>if x16<x15 then(if x5.length<17592186044416 then(impl_distances.l0 k x1 (x5++[(-1)]) x15 (wrap64 (x16+1)) x519000 x519001 x519002) else(none)) else(impl_distances.l1 k x5 (([]:List Int)) x1 (x1.length:Int) 0 x519000 x519001 x519002)
def impl_distances.l1:Nat→List Int→List Int→List Int→Int→Int→Int→Int→List Int→Option (List Int)
  |0,_,_,_,_,_,_,_,_=>none
  |k+1,x5,x6,x23,x24,x25,x519000,x519001,x519002=>if x25<x24 then(if 0≤x25 then(if x25<(x23.length:Int) then((impl_IsOpen.f k x519000 x519001 x519002 (rd x23 x25)).bind fun t529=>(if t529=true then(if 0≤(rd x23 x25) then(if (rd x23 x25)<(x5.length:Int) then(if (rd x5 (rd x23 x25))<0 then(if x6.length<17592186044416 then(impl_distances.l1 k (x5.set ((rd x23 x25):Int).toNat 0) (x6++[rd x23 x25]) x23 x24 (wrap64 (x25+1)) x519000 x519001 x519002) else(none)) else(impl_distances.l1 k x5 x6 x23 x24 (wrap64 (x25+1)) x519000 x519001 x519002)) else(none)) else(none)) else(impl_distances.l1 k x5 x6 x23 x24 (wrap64 (x25+1)) x519000 x519001 x519002))) else(none)) else(none)) else(impl_distances.l2 k x5 x6 x519000 x519001 x519002)
def impl_distances.l2:Nat→List Int→List Int→Int→Int→List Int→Option (List Int)
  |0,_,_,_,_,_=>none
  |k+1,x5,x6,x519000,x519001,x519002=>if (x6.length:Int)>0 then(if 0<(x6.length:Int) then(if 1≤(x6.length:Int) then((impl_Near.f k x519000 x519001 x519002 (rd x6 0)).bind fun t539=>(impl_distances.l3 k x5 (x6.drop (1:Int).toNat) (rd x6 0) t539 (t539.length:Int) 0 x519000 x519001 x519002)) else(none)) else(none)) else(some x5)
def impl_distances.l3:Nat→List Int→List Int→Int→List Int→Int→Int→Int→Int→List Int→Option (List Int)
  |0,_,_,_,_,_,_,_,_,_=>none
  |k+1,x5,x6,x9,x57,x58,x59,x519000,x519001,x519002=>if x59<x58 then(if 0≤x59 then(if x59<(x57.length:Int) then(if 0≤(rd x57 x59) then(if (rd x57 x59)<(x5.length:Int) then(if (rd x5 (rd x57 x59))<0 then(if 0≤x9 then(if x9<(x5.length:Int) then(if x6.length<17592186044416 then(impl_distances.l3 k (x5.set ((rd x57 x59):Int).toNat (wrap64 ((rd x5 x9)+1))) (x6++[rd x57 x59]) x9 x57 x58 (wrap64 (x59+1)) x519000 x519001 x519002) else(none)) else(none)) else(none)) else(impl_distances.l3 k x5 x6 x9 x57 x58 (wrap64 (x59+1)) x519000 x519001 x519002)) else(none)) else(none)) else(none)) else(none)) else(impl_distances.l2 k x5 x6 x519000 x519001 x519002)
end
def impl_distances.f (k:Nat) (a0_0:Int) (a0_1:Int) (l0_2:List Int) (l1:List Int):Option (List Int):=impl_distances.l0 k l1 (([]:List Int)) (l0_2.length:Int) 0 a0_0 a0_1 l0_2
theorem impl_distances.calls (k:Nat) (aK:Int) (aJ:Int) (aW:Option Addr) (aV:Nat) (aH:List Int) (A1:Option Addr) (c1:Nat) (l1:List Int) (r:List Int) (w:World) (dT:Kd.C (Kd.int .i64) w aW aH.length aH) (dU:aH.length≤aV) (fW:Kd.C (Kd.int .i64) w A1 l1.length l1) (fX:l1.length≤c1) (h:impl_distances.f k aK aJ aH l1=some r) :
  Calls Try.prog 35 #[.agg #[.int .i64 aK,.int .i64 aJ,.slice aW aH.length aV],.slice A1 l1.length c1] w fun e w'=>∃ v0_:Value,e=.returned (v0_)∧Kd.R (Kd.int .i64) 3 w' w.heap.size (fun _=>True) v0_ r∧Below w.heap.size w w':=by
 have hu26:=Try.underlying26;have bP:=zA dT;have bR:=zA dU;clear dT dU;have fC:=zA fW;have hU:=zA fX;clear fW fX;have HB:=zA (Below.refl w.heap.size w);have H:=h;clear h;unfold impl_distances.f at H;obtain⟨eS,dD⟩:∃ y_:List Int,y_=(([]:List Int)):=⟨_,rfl⟩
 replace H:(impl_distances.l0 k l1 eS (aH.length:Int) 0 aK aJ aH)=some r:=zY dD H
 have Ny519:=zA dD;clear dD;have H':=zA H;clear H;go_enter Try.func35,Try.ntmps35
 go_wp2_with (first|((with_reducible refine zgd 2 rfl ?_);refine zbx 2 #[.int .i64 aK,.int .i64 aJ,.slice aW aH.length aV] 26 ?_;intro bO hg w3 hbox hb;have aA:=zA hbox;have gV:=zga (w:=w) hg;replace HB:=zbs hb;clear hb hbox hg)|((with_reducible refine zgd 12 rfl ?_);refine Kd.R_lit (Kd.int .i64) _ 3 ?hg (N:=12) ?hd (xs:=([]:List Int)) (inner:=[]) (ok:=fun _=>True) (okp:=fun _=>True) ?hr ?hp (fun _ hk=>hk) trivial (Below.refl _ _) (Nat.le_refl _) (by simp) ?_;(case hd=>rfl);(case hg=>rfl);(case hr=>first|(go_simp;done)|(go_simp;rfl));(case hp=>exact(Reps.none _ _));intro v520 w4 ho5 hb hg_ hnew_;clear hg_ hnew_;(first|rw[←Ny519.out] at ho5|(simp only[Int.reduceToNat] at ho5;rw[←Ny519.out] at ho5));have fT:=zA (Kd.R_lower ho5 (below_size zb));replace aA:=zkb aA hb;replace HB:=zbs hb;clear hb ho5;obtain⟨bK,bJ,bI,bH,bG,bF⟩:=ze3 aA))
 go_loopg [5,16] k (fun kq v5 v16 w'=>∃ (bC:List Int) (aZ:Int),v16=.int .i64 aZ∧Aside0 (impl_distances.l0 kq l1 bC (aH.length:Int) aZ aK aJ aH=some r)∧Aside0 (kq≤k)∧Aside0 (Kd.R (Kd.int .i64) 3 w' w.heap.size (fun _=>True) v5 bC)∧Aside0 (w'.heap[bO]?=some (.cells #[.int .i64 aK,.int .i64 aJ,(.slice aW aH.length aV)] 26 (0,0)))∧Aside0 (Below w.heap.size w w'))
 case atStart=>exact⟨(eS),(0),zr,H',⟨Nat.le_refl _⟩,⟨zR fT⟩,⟨zk aA⟩,⟨zb⟩⟩
 case round =>
  clear H';(try clear c1);(try clear bK);(try clear bJ);(try clear bI);(try clear bH);(try clear bG);(try clear bF);obtain⟨bC,aZ,rfl,HA,HK1,aC,aA,HB⟩:=hrel
  cases gk with
  |zero=>exact absurd HA.out (by simp[impl_distances.l0])
  |succ k1 =>
   have H:=HA.out;clear HA;simp only[impl_distances.l0] at H
   by_cases c7:aZ<(aH.length:Int)
   ·rw[if_pos c7] at H;have dG:=decide_eq_true c7;clear c7;obtain⟨gM,H⟩:=zifA H;obtain⟨eR,dC⟩:∃ y_:List Int,y_=(bC++[(-1)]):=⟨_,rfl⟩
    replace H:(impl_distances.l0 k1 l1 eR (aH.length:Int) (wrap64 (aZ+1)) aK aJ aH)=some r:=zY dC H
    have Ny522:=zA dC;clear dC;have H':=zA H;clear H
    go_wp2_with (first|((with_reducible refine gate_builtin (b:=.append) (xs:=#[.tmp 18,.tmp 19]) rfl ?_);at_builtin;refine Kd.R_append (Kd.int .i64) (w0:=w) w.heap.size rfl (.tmp 18) (.tmp 19) 24 3 (.int .i64 0) 8 rfl Try.underlying24 info3 rfl (by decide) (by omega) u5 bC (-1) [.int .i64 (-1)] (fun _=>True) (fun _=>False) rfl rfl ?aP (fun _ hk=>hk.elim) ?aF ?aO ?aB ?aS ?aL ?_;(case aP=>exact rfl);(case aB=>exact zb);(case aF=>exact(fun _ _=>trivial));(case aO=>exact(zR aC));(case aS=>exact(below_size zb));(case aL=>have:=gM.out;omega);intro v523 w9 ho hb hg hat;rw[←Ny522.out] at ho;replace aA:=zgr aA hg (Kd.R_ne aC.out aA.out (by decide));replace HB:=zA hb;have fS:=zA ho;clear aC;clear ho hb hg hat))
    go_roundg k1
    case measure=>have:=HK1.out;omega
    case rel=>exact⟨(eR),(wrap64 (aZ+1)),zr,H',⟨by have:=HK1.out;omega⟩,⟨zR fS⟩,⟨zk aA⟩,⟨zb⟩⟩
   ·rw[if_neg c7] at H;have dG:=decide_eq_false c7;clear c7;obtain⟨eQ,dB⟩:∃ y_:List Int,y_=(([]:List Int)):=⟨_,rfl⟩
    replace H:(impl_distances.l1 k1 bC eQ l1 (l1.length:Int) 0 aK aJ aH)=some r:=zY dB H
    have Ny525:=zA dB;clear dB;have H':=zA H;clear H
    go_wp2_with (first|((with_reducible refine zgd 22 rfl ?_);refine Kd.R_lit (Kd.int .i64) _ 3 ?hg (N:=22) ?hd (xs:=([]:List Int)) (inner:=[]) (ok:=fun _=>True) (okp:=fun _=>True) ?hr ?hp (fun _ hk=>hk) trivial (Below.refl _ _) (Nat.le_refl _) (by simp) ?_;(case hd=>rfl);(case hg=>rfl);(case hr=>first|(go_simp;done)|(go_simp;rfl));(case hp=>exact(Reps.none _ _));intro v526 hT ho11 hb hg_ hnew_;clear hg_ hnew_;(first|rw[←Ny525.out] at ho11|(simp only[Int.reduceToNat] at ho11;rw[←Ny525.out] at ho11));have fR:=zA (Kd.R_lower (Kd.R_new' ho11 (Kd.R_lt (zR aC))) (below_size zb));replace aC:=zA (Kd.R_elder' (zR aC) (Kd.R_base ho11) hb);replace aA:=zkb aA hb;replace HB:=zbs hb;clear hb ho11))
    go_loopg [6,25] k1 (fun kq v6 v25 w'=>∃ (aT:List Int) (aX:List Int) (aD:Int),v25=.int .i64 aD∧Aside0 (impl_distances.l1 kq aT aX l1 (l1.length:Int) aD aK aJ aH=some r)∧Aside0 (kq≤k1)∧Aside0 (Kd.R (Kd.int .i64) 3 w' w.heap.size (fun k_=>some k_≠(v6:Value).ownBlock) u5 aT)∧Aside0 (Kd.Q (Kd.int .i64) 3 w' w.heap.size (fun k_=>some k_≠(u5:Value).ownBlock) v6 aX)∧Aside0 (w'.heap[bO]?=some (.cells #[.int .i64 aK,.int .i64 aJ,(.slice aW aH.length aV)] 26 (0,0)))∧Aside0 (Below w.heap.size w w'))
    case atStart=>exact⟨(bC),(eQ),(0),zr,H',⟨Nat.le_refl _⟩,⟨z_2 aC⟩,⟨Kd.Q_of_R (z_2 fR)⟩,⟨zk aA⟩,⟨zb⟩⟩
    case round =>
     clear H';(try clear c1);(try clear c7);(try clear dG);(try clear c8);(try clear bK);(try clear bJ);(try clear bI);(try clear bH);(try clear bG);(try clear bF);obtain⟨aT,aX,aD,rfl,HA,HK2,aC,aM,aA,HB⟩:=hrel
     cases gk with
     |zero=>exact absurd HA.out (by simp[impl_distances.l1])
     |succ k2 =>
      have H:=HA.out;clear HA;simp only[impl_distances.l1] at H
      by_cases c12:aD<(l1.length:Int)
      ·rw[if_pos c12] at H;have dI:=decide_eq_true c12;clear c12;obtain⟨eC,H⟩:=zifD H;obtain⟨eB,H⟩:=zifD H;obtain⟨fY,fE,H⟩:=zB H
       by_cases cP:fY=true
       ·subst cP;rw[if_pos rfl] at H;obtain⟨eA,H⟩:=zifD H;obtain⟨dZ,H⟩:=zifD H
        by_cases c19:(rd aT (rd l1 aD))<0
        ·rw[if_pos c19] at H;have dH:=decide_eq_true c19;clear c19;obtain⟨cR,dA⟩:∃ y_:List Int,y_=(aT.set ((rd l1 aD):Int).toNat 0):=⟨_,rfl⟩
         replace H:(if aX.length<17592186044416 then(impl_distances.l1 k2 cR (aX++[rd l1 aD]) l1 (l1.length:Int) (wrap64 (aD+1)) aK aJ aH) else(none))=some r:=zY dA H
         have Ny531:=zA dA;clear dA;obtain⟨fO,H⟩:=zifA H;obtain⟨eP,cZ⟩:∃ y_:List Int,y_=(aX++[rd l1 aD]):=⟨_,rfl⟩
         replace H:(impl_distances.l1 k2 cR eP l1 (l1.length:Int) (wrap64 (aD+1)) aK aJ aH)=some r:=zY cZ H
         have Ny532:=zA cZ;clear cZ;have H':=zA H;clear H;have cV:=zT (0≤(aD:Int));have cT:=zT (aD<(l1.length:Int));obtain⟨eE,bV,aR⟩:=Kd.at_int fC.out aD zd zd;cases bV;replace aR:=zC HB aR;obtain⟨cO,cN,cM,cF,cE,cD⟩:=ze3 aA
         go_wp2_with (first|((with_reducible refine zgf 34 rfl ?_);refine zgl 31 Try.func34 #[.agg #[.int .i64 aK,.int .i64 aJ,.slice aW aH.length aV],.int .i64 (rd l1 aD)] ?_;(with_reducible refine(impl_IsOpen.calls k2 aK aJ _ _ aH (rd l1 aD) true _ ?s1 ?s2 fE.out).mono ?_);(case s1=>exact zCb bP);(case s2=>exact bR.out);rintro e fV ⟨rfl,hb⟩;refine⟨_,rfl,?_⟩;replace aC:=zRb aC hb;replace aM:=zA (Kd.Q_below (zQ aM) hb);replace aA:=zkb aA hb;replace HB:=zbs hb;(try clear hb);obtain⟨hN,dF,gJ⟩:=Kd.R_slice aC.out;subst gJ;have dN:=zT (0≤((rd l1 aD):Int));have dM:=zT ((rd l1 aD)<(aT.length:Int));obtain⟨fM,dR,bA⟩:=Kd.at_int (Kd.R_reads' aC.out).2.2 (rd l1 aD) zd zd;cases dR;have bU:0≤((rd l1 aD):Int):=zd;have bT:((rd l1 aD):Int)<((aT.length:Int):Int):=zd;obtain⟨go20,hF,fA,eY,gl20,cl20,HG20⟩:=Kd.R_form aC.out (by omega);(first|cases fA|(injection fA with ea_ en_ ec_;(first|subst ea_|(injection ea_ with ea_;subst ea_));subst ec_;clear en_));have GB20:=zA eY;have GG20:=zA HG20;clear eY gl20 HG20;(first|simp only[add_plain] at bA|skip);obtain⟨dK,hf20_0⟩:=Kd.R_celln 0 aC.out ((rd l1 aD):Int) bU bT;replace bU:=eq_true bU;replace bT:=eq_true bT;obtain⟨hy25_,hz25_⟩:=Kd.R_celln 0 aC.out ((rd l1 aD):Int) zd zd;have HP25:=Kd.R_putg aC.out ((rd l1 aD):Int) 0)|((with_reducible refine gate_store (t:=3) (p:=41) rfl ?_);refine store_event (t:=3) (p:=41) (v:=?vo_w26) (w1:=(fV.setCell ⟨go20,((rd l1 aD):Int).toNat,none⟩ (.int .i64 0))) ?hg ?ho ?hn ?hr ?_;(case ho=>rfl);(case hg=>rfl);(case hn=>rfl);(case hr=>first|(go_simp;done)|(go_simp;rfl));intro eU hw;have hg:fV.grownBy eU (some go20):=(by rw[hw];exact HP25.2);have hp_:Kd.R (Kd.int .i64) 3 eU w.heap.size (fun k_=>some k_≠(u6:Value).ownBlock) (.slice (some ⟨go20,0,none⟩) aT.length dF) cR:=(by rw[hw,Ny531.out];exact HP25.1);clear HP25;replace aM:=zA (Kd.Q_after (v:=(.slice (some ⟨go20,0,none⟩) aT.length dF)) (v1:=(.slice (some ⟨go20,0,none⟩) aT.length dF)) (ok:=(fun _=>True)) (by(with_reducible repeat (first|apply Kd.Q_alloc|apply Kd.Q_drewN|apply Kd.Q_drew));exact Kd.Q_mono aM.out (fun _ hk=>⟨trivial,hk⟩)) hg (.inl rfl));replace aA:=zgr aA hg (Kd.R_ne aC.out aA.out (by decide));replace aC:=zA hp_;replace HB:=zA ((by rw[hw];exact below_set (HB.out) GB20.out:Below w.heap.size w eU));clear hg hw hp_)|((with_reducible refine gate_builtin (b:=.append) (xs:=#[.tmp 42,.tmp 44]) rfl ?_);at_builtin;refine Kd.Q_append (Kd.int .i64) (w0:=w) w.heap.size rfl (.tmp 42) (.tmp 44) 24 3 (.int .i64 0) 8 rfl Try.underlying24 info3 rfl (by decide) (by omega) u6 aX (rd l1 aD) [.int .i64 (rd l1 aD)] (fun k_=>some k_≠(.slice (some ⟨go20,0,none⟩) aT.length dF:Value).ownBlock) (fun _=>False) rfl rfl ?aP (fun _ hk=>hk.elim) ?aF ?aO ?aB ?aS ?aL ?_;(case aP=>exact rfl);(case aB=>exact zb);(case aF=>exact(fun k_ hk=>Kd.fresh' (Kd.R_lt (zR aC)) k_ hk));(case aO=>exact(by(with_reducible repeat (first|apply Kd.Q_alloc|apply Kd.Q_drewN|apply Kd.Q_drew));exact Kd.Q_mono aM.out (fun _ hk=>hk.2)));(case aS=>exact(below_size zb));(case aL=>have:=fO.out;omega);intro v533 hS ho hb hg hat;rw[←Ny532.out] at ho;replace aC:=zA (Kd.R_after (ok:=(fun _=>True)) (z_o aC (fun _ hk=>⟨trivial,hk⟩)) hg hat);replace aA:=zgr aA hg (Kd.Q_ne aM.out aA.out (by decide));replace HB:=zA hb;have fQ:=zA ho;clear aM;clear ho hb hg hat))
         go_roundg k2
         case measure=>have:=HK1.out;have:=HK2.out;omega
         case rel=>exact⟨(cR),(eP),(wrap64 (aD+1)),zr,H',⟨by have:=HK1.out;have:=HK2.out;omega⟩,⟨z_2 aC⟩,⟨zQ fQ⟩,⟨zk aA⟩,⟨zb⟩⟩
        ·rw[if_neg c19] at H;have dH:=decide_eq_false c19;clear c19;have H':=zA H;clear H;have cV:=zT (0≤(aD:Int));have cT:=zT (aD<(l1.length:Int));obtain⟨eE,bV,aR⟩:=Kd.at_int fC.out aD zd zd;cases bV;replace aR:=zC HB aR;obtain⟨cL,cK,cJ,cC,cB,cA⟩:=ze3 aA
         go_wp2_with (first|((with_reducible refine zgf 34 rfl ?_);refine zgl 31 Try.func34 #[.agg #[.int .i64 aK,.int .i64 aJ,.slice aW aH.length aV],.int .i64 (rd l1 aD)] ?_;(with_reducible refine(impl_IsOpen.calls k2 aK aJ _ _ aH (rd l1 aD) true _ ?s1 ?s2 fE.out).mono ?_);(case s1=>exact zCb bP);(case s2=>exact bR.out);rintro e hR ⟨rfl,hb⟩;refine⟨_,rfl,?_⟩;replace aC:=zRb aC hb;replace aM:=zA (Kd.Q_below (zQ aM) hb);replace aA:=zkb aA hb;replace HB:=zbs hb;(try clear hb);obtain⟨hM,hE,gI⟩:=Kd.R_slice aC.out;subst gI;have dN:=zT (0≤((rd l1 aD):Int));have dM:=zT ((rd l1 aD)<(aT.length:Int));obtain⟨fM,dR,bA⟩:=Kd.at_int (Kd.R_reads' aC.out).2.2 (rd l1 aD) zd zd;cases dR))
         go_roundg k2
         case measure=>have:=HK1.out;have:=HK2.out;omega
         case rel=>exact⟨(aT),(aX),(wrap64 (aD+1)),zr,H',⟨by have:=HK1.out;have:=HK2.out;omega⟩,⟨zR aC⟩,⟨zQ aM⟩,⟨zk aA⟩,⟨zb⟩⟩
       ·replace cP:=Bool.eq_false_iff.mpr cP;subst cP;rw[if_neg zNo] at H;have H':=zA H;clear H;have cV:=zT (0≤(aD:Int));have cT:=zT (aD<(l1.length:Int));obtain⟨eE,bV,aR⟩:=Kd.at_int fC.out aD zd zd;cases bV;replace aR:=zC HB aR;obtain⟨cI,cH,cG,bZ,bY,bX⟩:=ze3 aA
        go_wp2_with (first|((with_reducible refine zgf 34 rfl ?_);refine zgl 31 Try.func34 #[.agg #[.int .i64 aK,.int .i64 aJ,.slice aW aH.length aV],.int .i64 (rd l1 aD)] ?_;(with_reducible refine(impl_IsOpen.calls k2 aK aJ _ _ aH (rd l1 aD) false _ ?s1 ?s2 fE.out).mono ?_);(case s1=>exact zCb bP);(case s2=>exact bR.out);rintro e hQ ⟨rfl,hb⟩;refine⟨_,rfl,?_⟩;replace aC:=zRb aC hb;replace aM:=zA (Kd.Q_below (zQ aM) hb);replace aA:=zkb aA hb;replace HB:=zbs hb;(try clear hb)))
        go_roundg k2
        case measure=>have:=HK1.out;have:=HK2.out;omega
        case rel=>exact⟨(aT),(aX),(wrap64 (aD+1)),zr,H',⟨by have:=HK1.out;have:=HK2.out;omega⟩,⟨zR aC⟩,⟨zQ aM⟩,⟨zk aA⟩,⟨zb⟩⟩
      ·rw[if_neg c12] at H;have dI:=decide_eq_false c12;clear c12;have H':=zA H;clear H;go_wp2
       go_loopg [6] k2 (fun kq v6 w'=>∃ (bS:List Int) (aI:List Int),Aside0 (impl_distances.l2 kq bS aI aK aJ aH=some r)∧Aside0 (kq≤k2)∧Aside0 (Kd.R (Kd.int .i64) 3 w' w.heap.size (fun k_=>some k_≠(v6:Value).ownBlock) u5 bS)∧Aside0 (Kd.Q (Kd.int .i64) 3 w' w.heap.size (fun k_=>some k_≠(u5:Value).ownBlock) v6 aI)∧Aside0 (w'.heap[bO]?=some (.cells #[.int .i64 aK,.int .i64 aJ,(.slice aW aH.length aV)] 26 (0,0)))∧Aside0 (Below w.heap.size w w'))
       case atStart=>exact⟨(aT),(aX),H',⟨Nat.le_refl _⟩,⟨zR aC⟩,⟨zQ aM⟩,⟨zk aA⟩,⟨zb⟩⟩
       case round =>
        clear H';(try clear c1);(try clear c7);(try clear dG);(try clear c8);(try clear c12);(try clear dI);(try clear c13);(try clear eC);(try clear c14);(try clear eB);(try clear cP);(try clear c17);(try clear eA);(try clear c18);(try clear dZ);(try clear c19);(try clear dH);(try clear bU);(try clear bT);(try clear c21);(try clear cO);(try clear cN);(try clear cM);(try clear cL);(try clear cK);(try clear cJ);(try clear cI);(try clear cH);(try clear cG);(try clear bK);(try clear bJ);(try clear bI);(try clear cF);(try clear cE);(try clear cD);(try clear cC);(try clear cB);(try clear cA);(try clear bZ);(try clear bY);(try clear bX);(try clear bH);(try clear bG);(try clear bF);(try clear dK);(try clear aR);(try clear bA);(try clear bU);(try clear cV);(try clear dN);(try clear bT);(try clear cT);(try clear dM);obtain⟨bS,aI,HA,HK3,aC,aM,aA,HB⟩:=hrel
        cases gk with
        |zero=>exact absurd HA.out (by simp[impl_distances.l2])
        |succ k3 =>
         have H:=HA.out;clear HA;simp only[impl_distances.l2] at H
         by_cases c33:(aI.length:Int)>0
         ·rw[if_pos c33] at H;have dY:decide (0<(aI.length:Int))=true:=decide_eq_true c33;have dX:decide (0<aI.length)=true:=decide_eq_true (by omega);clear c33;obtain⟨fB,H⟩:=zif H;have fK:=decide_eq_true fB;have fJ:decide (0<aI.length)=true:=decide_eq_true (by omega);clear fB;obtain⟨dW,H⟩:=zif H;have fI:=eq_true dW;have fH:=decide_eq_true dW;clear dW;obtain⟨bB,cY⟩:∃ y_:List Int,y_=(aI.drop (1:Int).toNat):=⟨_,rfl⟩
          replace H:((impl_Near.f k3 aK aJ aH (rd aI 0)).bind fun aG=>(impl_distances.l3 k3 bS bB (rd aI 0) aG (aG.length:Int) 0 aK aJ aH))=some r:=zY cY H
          have Ny536:=zA cY;clear cY;obtain⟨aG,gO,H⟩:=zB H;have H':=zA H;clear H;obtain⟨hJ,dE,gH,_⟩:=Kd.Q_slice aM.out;subst gH;have cU:0≤(0:Int):=(by omega);have cS:0<(aI.length:Int):=zd;obtain⟨bM,gL,bN⟩:=Kd.at_int (Kd.Q_reads' aM.out).2.2 0 cU cS;cases gL;have qi535:(0<aI.length)=True:=eq_true (by omega);(try rw[show ((0:Int)).toNat=0 from rfl] at bN);(try rw[Addr.add_zero'] at bN);replace cU:=eq_true cU;replace cS:=eq_true cS;have dJ:(1:Int)≤((aI.length:Int):Int):=zd;obtain⟨i038,hi038,_,hsz38,_⟩:=info_parts info3;have hcut38:=cut_from (P:=Try.prog) 24 3 .i64 Try.underlying24 hi038 1 hsz38 (some bM) aI.length dE 1 (by omega) dJ;have hr38:=Kd.Q_drop (k:=(1:Int).toNat) aM.out (by omega);obtain⟨fD,hA38⟩:∃ A1,A1=(if dE=(1:Int).toNat then(some bM) else((some bM):Option Addr).map (·.add ((1:Int).toNat * 1))):=⟨_,rfl⟩;obtain⟨dV,hc38⟩:∃ c1,c1=dE-(1:Int).toNat:=⟨_,rfl⟩;have dO:bB.length=aI.length-(1:Int).toNat:=(by rw[Ny536.out,List.length_drop]);rw[←Ny536.out] at hr38;rw[←dO,←hA38,←hc38] at hcut38;replace hr38:Kd.Q (Kd.int .i64) 3 wr w.heap.size (fun k_=>some k_≠(u5:Value).ownBlock) (.slice fD bB.length dV) bB:=(by rw[hA38,hc38,dO];exact hr38);have HE38:Aside0 ((Value.slice fD bB.length dV).ownBlock=(.slice (some bM) aI.length dE:Value).ownBlock):=⟨by rw[hA38];split <;> (cases ((some bM):Option Addr) <;> rfl)⟩;clear dO hi038 hsz38 aM hA38 hc38;have bQ:=zA hr38;clear hr38;replace dJ:=eq_true dJ;have n_:=zA (Kd.R_mono (ok':=fun k_=>some k_≠(.slice fD bB.length dV:Value).ownBlock) aC.out (fun k_ hk=>(by rw[HE38.out];exact hk)));clear aC;have aC:=n_;clear n_;obtain⟨eN,eM,eL,eK,eJ,eI⟩:=ze3 aA
          go_wp2_with (first|((with_reducible refine zgf 51 rfl ?_);refine zgl 57 Try.func51 #[.agg #[.int .i64 aK,.int .i64 aJ,.slice aW aH.length aV],.int .i64 (rd aI 0)] ?_;(with_reducible refine(impl_Near.calls k3 aK aJ _ _ aH (rd aI 0) aG _ ?s1 ?s2 gO.out).mono ?_);(case s1=>exact zCb bP);(case s2=>exact bR.out);rintro e hP ⟨v540,rfl,ho0,hb⟩;refine⟨_,rfl,?_⟩;have eF:=zA (Kd.R_lower (Kd.R_new' (Kd.R_new' ho0 (Kd.R_lt (zR aC))) (Kd.Q_lt (zQ bQ))) (below_size zb));replace aC:=zA (Kd.R_elder' (zR aC) (Kd.R_base ho0) hb);replace bQ:=zA (Kd.Q_elder' (zQ bQ) (Kd.R_base ho0) hb);replace aA:=zkb aA hb;replace HB:=zbs hb;(try clear hb);(try clear ho0);obtain⟨dS,bE,gG⟩:=Kd.R_slice eF.out;subst gG))
          go_loopg [6,59] k3 (fun kq v6 v59 w'=>∃ (aQ:List Int) (aY:List Int) (aE:Int),v59=.int .i64 aE∧Aside0 (impl_distances.l3 kq aQ aY (rd aI 0) aG (aG.length:Int) aE aK aJ aH=some r)∧Aside0 (kq≤k3)∧Aside0 (Kd.R (Kd.int .i64) 3 w' w.heap.size (fun k_=>some k_≠(v6:Value).ownBlock∧some k_≠((.slice dS aG.length bE):Value).ownBlock) u5 aQ)∧Aside0 (Kd.Q (Kd.int .i64) 3 w' w.heap.size (fun k_=>some k_≠(u5:Value).ownBlock∧some k_≠((.slice dS aG.length bE):Value).ownBlock) v6 aY)∧Aside0 (Kd.R (Kd.int .i64) 3 w' w.heap.size (fun k_=>some k_≠(u5:Value).ownBlock∧some k_≠(v6:Value).ownBlock) (.slice dS aG.length bE) aG)∧Aside0 (w'.heap[bO]?=some (.cells #[.int .i64 aK,.int .i64 aJ,(.slice aW aH.length aV)] 26 (0,0)))∧Aside0 (Below w.heap.size w w'))
          case atStart=>exact⟨(bS),(bB),(0),zr,H',⟨Nat.le_refl _⟩,⟨zR aC⟩,⟨zQ bQ⟩,⟨z_o eF (fun _ hk=>⟨hk.1.2,hk.2⟩)⟩,⟨zk aA⟩,⟨zb⟩⟩
          case round =>
           clear H';(try clear c1);(try clear c7);(try clear dG);(try clear c8);(try clear c12);(try clear dI);(try clear c13);(try clear eC);(try clear c14);(try clear eB);(try clear cP);(try clear c17);(try clear eA);(try clear c18);(try clear dZ);(try clear c19);(try clear dH);(try clear bU);(try clear bT);(try clear c21);(try clear c33);(try clear dY);(try clear dX);(try clear fB);(try clear fK);(try clear fJ);(try clear dW);(try clear fI);(try clear fH);(try clear dV);(try clear dJ);(try clear cO);(try clear cN);(try clear cM);(try clear cL);(try clear cK);(try clear cJ);(try clear cI);(try clear cH);(try clear cG);(try clear eN);(try clear eM);(try clear eL);(try clear bK);(try clear bJ);(try clear bI);(try clear cF);(try clear cE);(try clear cD);(try clear cC);(try clear cB);(try clear cA);(try clear bZ);(try clear bY);(try clear bX);(try clear eK);(try clear eJ);(try clear eI);(try clear bH);(try clear bG);(try clear bF);(try clear dK);(try clear aR);(try clear bA);(try clear bN);(try clear bU);(try clear cV);(try clear dN);(try clear cU);(try clear bT);(try clear dJ);(try clear cT);(try clear dM);(try clear cS);obtain⟨aQ,aY,aE,rfl,HA,HK4,aC,aM,aU,aA,HB⟩:=hrel
           cases gk with
           |zero=>exact absurd HA.out (by simp[impl_distances.l3])
           |succ k4 =>
            have H:=HA.out;clear HA;simp only[impl_distances.l3] at H
            by_cases c42:aE<(aG.length:Int)
            ·rw[if_pos c42] at H;have fG:=decide_eq_true c42;clear c42;obtain⟨gU,H⟩:=zifD H;obtain⟨gT,H⟩:=zifD H;obtain⟨gS,H⟩:=zifD H;obtain⟨gR,H⟩:=zifD H
             by_cases c47:(rd aQ (rd aG aE))<0
             ·rw[if_pos c47] at H;have fF:=decide_eq_true c47;clear c47;obtain⟨gQ,H⟩:=zifD H;obtain⟨gP,H⟩:=zifD H;obtain⟨cQ,cX⟩:∃ y_:List Int,y_=(aQ.set ((rd aG aE):Int).toNat (wrap64 ((rd aQ (rd aI 0))+1))):=⟨_,rfl⟩
              replace H:(if aY.length<17592186044416 then(impl_distances.l3 k4 cQ (aY++[rd aG aE]) (rd aI 0) aG (aG.length:Int) (wrap64 (aE+1)) aK aJ aH) else(none))=some r:=zY cX H
              have Ny545:=zA cX;clear cX;obtain⟨fN,H⟩:=zifA H;obtain⟨eO,cW⟩:∃ y_:List Int,y_=(aY++[rd aG aE]):=⟨_,rfl⟩
              replace H:(impl_distances.l3 k4 cQ eO (rd aI 0) aG (aG.length:Int) (wrap64 (aE+1)) aK aJ aH)=some r:=zY cW H
              have Ny546:=zA cW;clear cW;have H':=zA H;clear H;have gC:=zT (0≤(aE:Int));have gA:=zT (aE<(aG.length:Int));obtain⟨bL,dQ,eH⟩:=Kd.at_int (Kd.R_reads' aU.out).2.2 aE zd zd;cases dQ;obtain⟨hI,bD,gF⟩:=Kd.R_slice aC.out;subst gF;have gB:=zT (0≤((rd aG aE):Int));have fZ:=zT ((rd aG aE)<(aQ.length:Int));obtain⟨eD,dP,bW⟩:=Kd.at_int (Kd.R_reads' aC.out).2.2 (rd aG aE) zd zd;cases dP;have gX:=zT (0≤((rd aI 0):Int));have gW:=zT ((rd aI 0)<(aQ.length:Int));obtain⟨fL,gK,eG⟩:=Kd.at_int (Kd.R_reads' aC.out).2.2 (rd aI 0) zd zd;obtain rfl:eD=fL:=(by injection gK);have eW:0≤((rd aG aE):Int):=zd;have eV:((rd aG aE):Int)<((aQ.length:Int):Int):=zd;obtain⟨go50,hD,eZ,eX,gl50,cl50,HG50⟩:=Kd.R_form aC.out (by omega);(first|cases eZ|(injection eZ with ea_ en_ ec_;(first|subst ea_|(injection ea_ with ea_;subst ea_));subst ec_;clear en_));have GB50:=zA eX;have GG50:=zA HG50;clear eX gl50 HG50;(first|simp only[add_plain] at bW|skip);(first|simp only[add_plain] at eG|skip);obtain⟨gN,hf50_0⟩:=Kd.R_celln 0 aC.out ((rd aG aE):Int) eW eV;replace eW:=eq_true eW;replace eV:=eq_true eV;have HP53:=Kd.R_putg aC.out ((rd aG aE):Int) (wrap64 ((rd aQ (rd aI 0))+1))
              go_wp2_with (first|((with_reducible refine gate_store (t:=3) (p:=75) rfl ?_);refine store_event (t:=3) (p:=75) (v:=?vo_w54) (w1:=(wr.setCell ⟨go50,((rd aG aE):Int).toNat,none⟩ (.int .i64 (wrap64 ((rd aQ (rd aI 0))+1))))) ?hg ?ho ?hn ?hr ?_;(case ho=>rfl);(case hg=>rfl);(case hn=>rfl);(case hr=>first|(go_simp;done)|(go_simp;rfl));intro eT hw;have hg:wr.grownBy eT (some go50):=(by rw[hw];exact HP53.2);have hp_:Kd.R (Kd.int .i64) 3 eT w.heap.size (fun k_=>some k_≠(u6:Value).ownBlock∧some k_≠(.slice (some bL) aG.length bE:Value).ownBlock) (.slice (some ⟨go50,0,none⟩) aQ.length bD) cQ:=(by rw[hw,Ny545.out];exact HP53.1);clear HP53;replace aM:=zA (Kd.Q_after (v:=(.slice (some ⟨go50,0,none⟩) aQ.length bD)) (v1:=(.slice (some ⟨go50,0,none⟩) aQ.length bD)) (ok:=(fun k_=>some k_≠(.slice (some bL) aG.length bE:Value).ownBlock)) (by(with_reducible repeat (first|apply Kd.Q_alloc|apply Kd.Q_drewN|apply Kd.Q_drew));exact Kd.Q_mono aM.out (fun _ hk=>⟨hk.2,hk.1⟩)) hg (.inl rfl));replace aU:=zA (Kd.R_after (v:=(.slice (some ⟨go50,0,none⟩) aQ.length bD)) (v1:=(.slice (some ⟨go50,0,none⟩) aQ.length bD)) (ok:=(fun k_=>some k_≠(u6:Value).ownBlock)) (z_o aU (fun _ hk=>⟨hk.2,hk.1⟩)) hg (.inl rfl));replace aA:=zgr aA hg (Kd.R_ne aC.out aA.out (by decide));replace aC:=zA hp_;replace HB:=zA ((by rw[hw];exact below_set (HB.out) GB50.out:Below w.heap.size w eT));clear hg hw hp_)|((with_reducible refine gate_builtin (b:=.append) (xs:=#[.tmp 76,.tmp 78]) rfl ?_);at_builtin;refine Kd.Q_append (Kd.int .i64) (w0:=w) w.heap.size rfl (.tmp 76) (.tmp 78) 24 3 (.int .i64 0) 8 rfl Try.underlying24 info3 rfl (by decide) (by omega) u6 aY (rd aG aE) [.int .i64 (rd aG aE)] (fun k_=>some k_≠(.slice (some ⟨go50,0,none⟩) aQ.length bD:Value).ownBlock∧some k_≠(.slice (some bL) aG.length bE:Value).ownBlock) (fun _=>False) rfl rfl ?aP (fun _ hk=>hk.elim) ?aF ?aO ?aB ?aS ?aL ?_;(case aP=>exact rfl);(case aB=>exact zb);(case aF=>exact(fun k_ hk=>⟨Kd.fresh' (Kd.R_lt (zR aC)) k_ hk,Kd.fresh' (Kd.R_lt (zR aU)) k_ hk⟩));(case aO=>exact(by(with_reducible repeat (first|apply Kd.Q_alloc|apply Kd.Q_drewN|apply Kd.Q_drew));exact Kd.Q_mono aM.out (fun _ hk=>⟨hk.2,hk.1⟩)));(case aS=>exact(below_size zb));(case aL=>have:=fN.out;omega);intro v547 hO ho hb hg hat;rw[←Ny546.out] at ho;replace aC:=zA (Kd.R_after (ok:=(fun k_=>some k_≠(.slice (some bL) aG.length bE:Value).ownBlock)) (z_o aC (fun _ hk=>⟨hk.2,hk.1⟩)) hg hat);replace aU:=zA (Kd.R_after (ok:=(fun k_=>some k_≠(.slice (some ⟨go50,0,none⟩) aQ.length bD:Value).ownBlock)) (z_o aU (fun _ hk=>⟨hk.2,hk.1⟩)) hg hat);replace aA:=zgr aA hg (Kd.Q_ne aM.out aA.out (by decide));replace HB:=zA hb;have fP:=zA ho;clear aM;clear ho hb hg hat))
              go_roundg k4
              case measure=>have:=HK1.out;have:=HK2.out;have:=HK3.out;have:=HK4.out;omega
              case rel=>exact⟨(cQ),(eO),(wrap64 (aE+1)),zr,H',⟨by have:=HK1.out;have:=HK2.out;have:=HK3.out;have:=HK4.out;omega⟩,⟨z_o aC (fun _ hk=>⟨hk.2,hk.1⟩)⟩,⟨zQ fP⟩,⟨zR aU⟩,⟨zk aA⟩,⟨zb⟩⟩
             ·rw[if_neg c47] at H;have fF:=decide_eq_false c47;clear c47;have H':=zA H;clear H;have gC:=zT (0≤(aE:Int));have gA:=zT (aE<(aG.length:Int));obtain⟨bL,dQ,eH⟩:=Kd.at_int (Kd.R_reads' aU.out).2.2 aE zd zd;cases dQ;obtain⟨hH,gZ,gE⟩:=Kd.R_slice aC.out;subst gE;have gB:=zT (0≤((rd aG aE):Int));have fZ:=zT ((rd aG aE)<(aQ.length:Int));obtain⟨eD,dP,bW⟩:=Kd.at_int (Kd.R_reads' aC.out).2.2 (rd aG aE) zd zd;cases dP;go_wp2
              go_roundg k4
              case measure=>have:=HK1.out;have:=HK2.out;have:=HK3.out;have:=HK4.out;omega
              case rel=>exact⟨(aQ),(aY),(wrap64 (aE+1)),zr,H',⟨by have:=HK1.out;have:=HK2.out;have:=HK3.out;have:=HK4.out;omega⟩,⟨zR aC⟩,⟨zQ aM⟩,⟨zR aU⟩,⟨zk aA⟩,⟨zb⟩⟩
            ·rw[if_neg c42] at H;have fG:=decide_eq_false c42;clear c42;have H':=zA H;clear H;go_wp2
             go_roundg k4
             case measure=>have:=HK1.out;have:=HK2.out;have:=HK3.out;have:=HK4.out;omega
             case rel=>exact⟨(aQ),(aY),H',⟨by have:=HK1.out;have:=HK2.out;have:=HK3.out;have:=HK4.out;omega⟩,⟨z_o aC (fun _ hk=>hk.1)⟩,⟨by(with_reducible repeat (first|apply Kd.Q_alloc|apply Kd.Q_drewN|apply Kd.Q_drew));exact Kd.Q_mono aM.out (fun _ hk=>hk.1)⟩,⟨zk aA⟩,⟨zb⟩⟩
         ·rw[if_neg c33] at H;have dY:decide (0<(aI.length:Int))=false:=decide_eq_false c33;have dX:decide (0<aI.length)=false:=decide_eq_false (by omega);clear c33;obtain rfl:=zI H;obtain⟨hG,gY,gD,_⟩:=Kd.Q_slice aM.out;subst gD;go_wp2;go_ret;exact⟨_,zE,z_t aC,zb⟩

def impl_Days.f (k:Nat) (a0_0:Int) (a0_1:Int) (l0_2:List Int) (a1:Int) (a2:Int):Option (Int):=(impl_IsOpen.f k a0_0 a0_1 l0_2 a1).bind fun t550=>(if t550=true then((impl_IsOpen.f k a0_0 a0_1 l0_2 a2).bind fun t551=>(if t551=true then((impl_distances.f k a0_0 a0_1 l0_2 (([a1]:List Int))).bind fun t555=>(if 0≤a2 then(if a2<(t555.length:Int) then(some (rd t555 a2)) else(none)) else(none))) else(some (-1)))) else(some (-1)))
theorem impl_Days.calls (k:Nat) (aE:Int) (aD:Int) (aH:Option Addr) (aG:Nat) (aC:List Int) (a1:Int) (a2:Int) (r:Int) (w:World) (aU:Kd.C (Kd.int .i64) w aH aC.length aC) (aV:aC.length≤aG) (h:impl_Days.f k aE aD aC a1 a2=some r) :
  Calls Try.prog 12 #[.agg #[.int .i64 aE,.int .i64 aD,.slice aH aC.length aG],.int .i64 a1,.int .i64 a2] w fun e w'=>e=.returned (.int .i64 r)∧Below w.heap.size w w':=by
 have hu26:=Try.underlying26;have aI:=zA aU;have aK:=zA aV;clear aU aV;have HB:=zA (Below.refl w.heap.size w);have H:=h;clear h;unfold impl_Days.f at H;obtain⟨bC,A4,H⟩:=zB H
 by_cases c5:bC=true
 ·subst c5;rw[if_pos rfl] at H;obtain⟨bB,A6,H⟩:=zB H
  by_cases c7:bB=true
  ·subst c7;rw[if_pos rfl] at H;obtain⟨aT,aR⟩:∃ y_:List Int,y_=(([a1]:List Int)):=⟨_,rfl⟩
   replace H:((impl_distances.f k aE aD aC aT).bind fun aN=>(if 0≤a2 then(if a2<(aN.length:Int) then(some (rd aN a2)) else(none)) else(none)))=some r:=zY aR H
   have Ny552:=zA aR;clear aR;obtain⟨aN,A8,H⟩:=zB H;obtain⟨dA,H⟩:=zifD H;obtain⟨cV,H⟩:=zifD H;obtain rfl:=zI H;go_enter Try.func12,Try.ntmps12
   go_wp2_with (first|((with_reducible refine zgd 3 rfl ?_);refine zbx 3 #[.int .i64 aE,.int .i64 aD,.slice aH aC.length aG] 26 ?_;intro aW hg dM hbox hb;have aA:=zA hbox;have aY:=zga (w:=w) hg;replace HB:=zbs hb;clear hb hbox hg;obtain⟨cT,cS,cR,cB,cA,bZ⟩:=ze3 aA)|((with_reducible refine zgf 34 rfl ?_);refine zgl 9 Try.func34 #[.agg #[.int .i64 aE,.int .i64 aD,.slice aH aC.length aG],.int .i64 a1] ?_;(with_reducible refine(impl_IsOpen.calls k aE aD _ _ aC a1 true _ ?s1 ?s2 A4.out).mono ?_);(case s1=>exact zCb aI);(case s2=>exact aK.out);rintro e dL ⟨rfl,hb⟩;refine⟨_,rfl,?_⟩;replace aA:=zkb aA hb;replace HB:=zbs hb;(try clear hb);obtain⟨cQ,cP,cO,bY,bX,bW⟩:=ze3 aA)|(go_at_call 34;(with_reducible refine(impl_IsOpen.calls k aE aD _ _ aC a2 true _ ?s1 ?s2 A6.out).mono ?_);(case s1=>exact zCb aI);(case s2=>exact aK.out);rintro e dK ⟨rfl,hb⟩;replace aA:=zkb aA hb;replace HB:=zbs hb;(try clear hb);obtain⟨cN,cM,cL,bV,bU,bT⟩:=ze3 aA)|((with_reducible refine zgd 19 rfl ?_);refine Kd.R_lit (Kd.int .i64) _ 3 ?hg (N:=19) ?hd (xs:=([a1]:List Int)) (inner:=[.int .i64 a1]) (ok:=fun _=>True) (okp:=fun _=>True) ?hr ?hp (fun _ hk=>hk) trivial (Below.refl _ _) (Nat.le_refl _) (by simp) ?_;(case hd=>rfl);(case hg=>rfl);(case hr=>first|(go_simp;done)|(go_simp;rfl));(case hp=>exact(Reps.one (show Kd.M (Kd.int .i64) _ _ _ a1 [.int .i64 a1] from rfl) (Reps.none _ _)));intro v553 dJ ho18 hb hg_ hnew_;clear hg_ hnew_;(first|rw[←Ny552.out] at ho18|(simp only[Int.reduceToNat] at ho18;rw[←Ny552.out] at ho18));have aJ:=zA (Kd.R_lower ho18 (below_size zb));replace aA:=zkb aA hb;replace HB:=zbs hb;clear hb ho18;obtain⟨bH,bG,bE⟩:=Kd.R_slice aJ.out;subst bE)|((with_reducible refine zgf 35 rfl ?_);refine zgl 20 Try.func35 #[.agg #[.int .i64 aE,.int .i64 aD,.slice aH aC.length aG],.slice bH aT.length bG] ?_;(with_reducible refine(impl_distances.calls k aE aD _ _ aC _ _ aT aN _ ?s1 ?s2 ?s3 ?s4 A8.out).mono ?_);(case s1=>exact zCb aI);(case s2=>exact aK.out);(case s3=>exact zCx (Kd.R_reads' aJ.out).2.2);(case s4=>exact(Kd.R_reads' aJ.out).2.1);rintro e dI ⟨v556,rfl,ho0,hb⟩;refine⟨_,rfl,?_⟩;have aX:=zA (Kd.R_lower (Kd.R_new' ho0 (Kd.R_lt (zR aJ))) (below_size zb));replace aJ:=zA (Kd.R_elder' (zR aJ) (Kd.R_base ho0) hb);replace aA:=zkb aA hb;replace HB:=zbs hb;(try clear hb);(try clear ho0);obtain⟨dB,cZ,bD⟩:=Kd.R_slice aX.out;subst bD;have cY:=zT (0≤(a2:Int));have cX:=zT (a2<(aN.length:Int));obtain⟨cW,bF,bJ⟩:=Kd.at_int (Kd.R_reads' aX.out).2.2 a2 zd zd;cases bF))
   go_ret;exact⟨zE,zb⟩
  ·replace c7:=Bool.eq_false_iff.mpr c7;subst c7;rw[if_neg zNo] at H;obtain rfl:=zI H;go_enter Try.func12,Try.ntmps12
   go_wp2_with (first|((with_reducible refine zgd 3 rfl ?_);refine zbx 3 #[.int .i64 aE,.int .i64 aD,.slice aH aC.length aG] 26 ?_;intro aW hg dH hbox hb;have aA:=zA hbox;have aY:=zga (w:=w) hg;replace HB:=zbs hb;clear hb hbox hg;obtain⟨cK,cJ,cI,bS,bR,bQ⟩:=ze3 aA)|((with_reducible refine zgf 34 rfl ?_);refine zgl 9 Try.func34 #[.agg #[.int .i64 aE,.int .i64 aD,.slice aH aC.length aG],.int .i64 a1] ?_;(with_reducible refine(impl_IsOpen.calls k aE aD _ _ aC a1 true _ ?s1 ?s2 A4.out).mono ?_);(case s1=>exact zCb aI);(case s2=>exact aK.out);rintro e dG ⟨rfl,hb⟩;refine⟨_,rfl,?_⟩;replace aA:=zkb aA hb;replace HB:=zbs hb;(try clear hb);obtain⟨cH,cG,cF,bP,bO,bN⟩:=ze3 aA)|(go_at_call 34;(with_reducible refine(impl_IsOpen.calls k aE aD _ _ aC a2 false _ ?s1 ?s2 A6.out).mono ?_);(case s1=>exact zCb aI);(case s2=>exact aK.out);rintro e dF ⟨rfl,hb⟩;replace aA:=zkb aA hb;replace HB:=zbs hb;(try clear hb)))
   go_ret;exact⟨zE,zb⟩
 ·replace c5:=Bool.eq_false_iff.mpr c5;subst c5;rw[if_neg zNo] at H;obtain rfl:=zI H;go_enter Try.func12,Try.ntmps12
  go_wp2_with (first|((with_reducible refine zgd 3 rfl ?_);refine zbx 3 #[.int .i64 aE,.int .i64 aD,.slice aH aC.length aG] 26 ?_;intro aW hg dE hbox hb;have aA:=zA hbox;have aY:=zga (w:=w) hg;replace HB:=zbs hb;clear hb hbox hg;obtain⟨cE,cD,cC,bM,bL,bK⟩:=ze3 aA)|((with_reducible refine zgf 34 rfl ?_);refine zgl 9 Try.func34 #[.agg #[.int .i64 aE,.int .i64 aD,.slice aH aC.length aG],.int .i64 a1] ?_;(with_reducible refine(impl_IsOpen.calls k aE aD _ _ aC a1 false _ ?s1 ?s2 A4.out).mono ?_);(case s1=>exact zCb aI);(case s2=>exact aK.out);rintro e dD ⟨rfl,hb⟩;refine⟨_,rfl,?_⟩;replace aA:=zkb aA hb;replace HB:=zbs hb;(try clear hb)))
  go_ret;exact⟨zE,zb⟩
end Go.Proofs.Ytdnbfegkplpngaa.Q
