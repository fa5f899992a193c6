/- Walks of 14 functions of the program: each comes to what a plain function tells. -/
import Derived.Test.YtkonccdanjhngaaG0
import Derived.Test.YtkonccdanjhngaaG1
import Derived.Test.YtkonccdanjhngaaG5
namespace Go.Proofs.Ytkonccdanjhngaa.Q
open Go.RowKit Go.Proofs.YtkonccdanjhngaaW.PrintWords Go.Proofs.YtkonccdanjhngaaW.PrintLast Go.Proofs.YtkonccdanjhngaaW.PrintMore Go.Proofs.YtkonccdanjhngaaW.Zip Go.Proofs.YtkonccdanjhngaaW.PrintWords.Kd
attribute [local go_sem] q5w q5u q6t q6s q5j q5i q5v q5t   -- for this text's walks alone
set_option linter.unusedVariables false
set_option maxHeartbeats 8000000
set_option maxRecDepth 100000
set_option linter.unusedSimpArgs false

def q2x.f (k:Nat) (c:List Int):Option (Int × Int × List Int × Int × Int × Int × (List (S59)) × Int × Int × (List (S95)) × List Bool × Int):=(q4e.f k c).bind fun b=>((q2a.f k b.1 b.2.1 b.2.2).bind fun a=>((q3u.f b.1 a.2.2.2.2.2.2.2.2.2.2.2.1 a.2.2.2.2.2.2.2.2.2.2.2.2 (([1,3,10,a.2.2.2.2.2.2.2.2.1,wrap64 (a.2.2.2.2.2.2.2.2.1+1),0]:List Int))).bind fun d=>(some (a.1,a.2.1,a.2.2.1,a.2.2.2.1,a.2.2.2.2.1,a.2.2.2.2.2.1,a.2.2.2.2.2.2.1,a.2.2.2.2.2.2.2.1,a.2.2.2.2.2.2.2.2.1,a.2.2.2.2.2.2.2.2.2.1,a.2.2.2.2.2.2.2.2.2.2.1,d.1))))
def q2x.T3:Bool × List (List Nat × List Nat):=(true,[([],[]),([],[]),([],[]),([],[]),([],[]),([],[]),([],[]),([6],[6]),([],[]),([8],[8]),([9],[9]),([7,10],[7,10]),([5,11],[5,11]),([0,12,0],[0]),([1,13,0,1,13],[1]),([2,14,0,1,2,13,14],[2]),([3,15,0,1,2,3,13,14,15],[3]),([4,16,0,1,2,3,4,13,14,15,16],[4]),([12,17,0,1,2,3,4,5,6,7,8,9,10,11,12,13,14,15,16,17],[12])])
def q2x.B3:List Nat:=[0,0,0,0,0,0,0,64,0,256,768,1984,4064,8161,16355,32743,65519,131071,262143]
theorem q2x.tab3:q6q .any (opsOf Try.f14 3)=q2x.T3:=by kernel_rfl
theorem q2x.bits3:q4a q2x.T3.2 q2x.B3=true:=by kernel_rfl
theorem q2x.calls (k:Nat) (A0:Option Addr) (c0:Nat) (l0:List Int) (r1:Int) (r2:Int) (r3:List Int) (r4:Int) (r5:Int) (r6:Int) (r7:List (S59)) (r8:Int) (r9:Int) (r10:List (S95)) (r11:List Bool) (r12:Int) (w:World) (eB:Kd.C (Kd.int .u8) w A0 l0.length l0) (eC:l0.length≤c0) (h:q2x.f k l0=some (r1,r2,r3,r4,r5,r6,r7,r8,r9,r10,r11,r12)) :
  Calls Try.prog 14 #[.slice A0 l0.length c0] w fun e w'=>∃ v2_ v6_ v9_ v10_:Value,e=.returned (.tuple #[.agg #[.int .i64 r1,.int .i64 r2,v2_],.int .i64 r4,.agg #[.int .i64 r5,.int .i64 r6],v6_,.agg #[.int .i64 r8,.int .i64 r9,v9_,v10_],.int .i64 r12])∧Kd.Q (Kd.int .i64) 3 w' w.heap.size (fun _=>True) v2_ r3∧Kd.R k59 59 w' w.heap.size (fun _=>True) v6_ r7∧Kd.R k95 95 w' w.heap.size (fun _=>True) v9_ r10∧Kd.R Kd.bool 4 w' w.heap.size (fun _=>True) v10_ r11∧Below w.heap.size w w':=by
 have hu26:=Try.underlying26;have hu28:=Try.underlying28;have hu33:=Try.underlying33;have iX:=zA eB;have iY:=zA eC;clear eB eC;have HB:=zA (Below.refl w.heap.size w);have H:=h;clear h;unfold q2x.f at H;obtain⟨⟨bZ,dP,dO⟩,A2,H⟩:=zB H;obtain⟨⟨bP,bO,bK,dN,bN,bM,dJ,bL,aV,bJ,bI,cB,cA⟩,A3,H⟩:=zB H;obtain⟨dI,dB⟩:∃ y_:List Int,y_=(([1,3,10,aV,wrap64 (aV+1),0]:List Int)):=⟨_,rfl⟩
 replace H:((q3u.f bZ cB cA dI).bind fun bt463=>(some (bP,bO,bK,dN,bN,bM,dJ,bL,aV,bJ,bI,bt463.1)))=some (r1,r2,r3,r4,r5,r6,r7,r8,r9,r10,r11,r12):=zY dB H
 have Ny460:=zA dB;clear dB;obtain⟨⟨eF,eE,eD⟩,A4,H⟩:=zB H;simp only[Option.some.injEq,Prod.mk.injEq] at H;obtain⟨rfl,rfl,rfl,rfl,rfl,rfl,rfl,rfl,rfl,rfl,rfl,rfl⟩:=H;go_enter Try.func14,Try.ntmps14
 try go_wp2_with (first|((with_reducible refine zgd 2 rfl ?_);refine zbx 2 #[.int .i64 0,.int .i64 0,.slice none 0 0] 26 ?_;intro aH hg w5 hbox hb;have aD:=zA hbox;have kR:=zga (w:=w) hg;have bB:=zga (w:=w) hg;replace HB:=zbs hb;clear hb hbox hg)|((with_reducible refine zgd 4 rfl ?_);refine zbx 4 #[.int .i64 0,.int .i64 0] 28 ?_;intro aQ hg w6 hbox hb;have aF:=zA hbox;have kQ:=zga (w:=w) hg;have bA:=zga (w:=w) hg;replace HB:=zbs hb;replace aD:=zlh aD hg hb;obtain⟨cJ,cI,aD⟩:=aD;clear hb hbox hg)|((with_reducible refine zgd 6 rfl ?_);refine zbx 6 #[.int .i64 0,.int .i64 0,.slice none 0 0,.slice none 0 0] 33 ?_;intro aC hg w7 hbox hb;have aE:=zA hbox;have kP:=zga (w:=w) hg;have aZ:=zga (w:=w) hg;replace HB:=zbs hb;replace aD:=zlh aD hg hb;obtain⟨bY,bX,aD⟩:=aD;replace aF:=zlh aF hg hb;obtain⟨cD,cC,aF⟩:=aF;clear hb hbox hg)|((with_reducible refine zgf 27 rfl ?_);refine zgl 15 Try.func27 #[.slice A0 l0.length c0] ?_;(with_reducible refine(q4e.calls k _ _ l0 bZ dP dO w _ ?s1 ?s2 ?s3 A2.out).mono ?_);(case s1=>exact zb);(case s2=>exact iX.out);(case s3=>exact iY.out);rintro e w8 ⟨g435,rfl,hi,hb,hb2⟩;refine⟨_,rfl,?_⟩;replace HB:=zA hb;have HI435:=zA (hi);have aL:=zA (q0g.q8l hi (q1f (g:=aH) (o:=.cells #[.int .i64 0,.int .i64 0,.slice none 0 0] 26 (0,0)) (zk aD) hb2) (by decide));have dA:=zA (Ne.symm (q0g.q8l hi (q1f (g:=aH) (o:=.cells #[.int .i64 0,.int .i64 0,.slice none 0 0] 26 (0,0)) (zk aD) hb2) (by decide)));replace aD:=zA (q1f (g:=aH) (o:=.cells #[.int .i64 0,.int .i64 0,.slice none 0 0] 26 (0,0)) (zk aD) hb2);have aK:=zA (q0g.q8l hi (q1f (g:=aQ) (o:=.cells #[.int .i64 0,.int .i64 0] 28 (0,0)) (zk aF) hb2) (by decide));have cZ:=zA (Ne.symm (q0g.q8l hi (q1f (g:=aQ) (o:=.cells #[.int .i64 0,.int .i64 0] 28 (0,0)) (zk aF) hb2) (by decide)));replace aF:=zA (q1f (g:=aQ) (o:=.cells #[.int .i64 0,.int .i64 0] 28 (0,0)) (zk aF) hb2);have aJ:=zA (q0g.q8l hi (q1f (g:=aC) (o:=.cells #[.int .i64 0,.int .i64 0,.slice none 0 0,.slice none 0 0] 33 (0,0)) (zk aE) hb2) (by decide));have cY:=zA (Ne.symm (q0g.q8l hi (q1f (g:=aC) (o:=.cells #[.int .i64 0,.int .i64 0,.slice none 0 0,.slice none 0 0] 33 (0,0)) (zk aE) hb2) (by decide)));replace aE:=zA (q1f (g:=aC) (o:=.cells #[.int .i64 0,.int .i64 0,.slice none 0 0,.slice none 0 0] 33 (0,0)) (zk aE) hb2);(try clear hb))|((with_reducible refine zgf 28 rfl ?_);refine zgl 18 Try.func28 #[.pointer (some ⟨g435,0,none⟩)] ?_;(with_reducible refine(q2a.calls k g435 bZ dP dO bP bO bK dN bN bM dJ bL aV bJ bI cB cA w _ ?s1 ?s2 A3.out).mono ?_);(case s1=>exact zI1);(case s2=>exact zB1);rintro e w9 ⟨v439,v445,v450,v453,rfl,ho0,ho1,ho2,ho3,hi,hb,hk⟩;refine⟨_,rfl,?_⟩;replace aD:=zkB hk aD dA;replace aF:=zkB hk aF cZ;replace aE:=zkB hk aE cY;have aY:=zA (q8i ho0 (q0f zB1));have bH:=zA (q3f ho1 (q0f zB1));have bE:=zA (q3f ho2 (q0f zB1));have bD:=zA (q3f ho3 (q0f zB1));replace HB:=zA hb;replace HI435:=zA (hi);(try clear hb);(try clear ho0);(try clear ho1);(try clear ho2);(try clear ho3))|((with_reducible refine zgd 9 rfl ?_);refine zbx 9 #[.int .i64 0,.int .i64 0,.slice none 0 0] 26 ?_;intro aB hg lH hbox hb;replace aY:=z_q aY hb;replace bH:=zRb bH hb;replace bE:=zRb bE hb;replace bD:=zRb bD hb;have aM:=zA hbox;have kO:=zA ((by rw[hg];exact(q0f zB1):w.heap.size≤aB));have cE:=zA ((by rw[hg];exact(q0f zB1):w.heap.size≤aB));replace HB:=zA (q1b zB1 hb);replace aD:=zlh aD hg hb;obtain⟨cM,aU,aD⟩:=aD;replace aF:=zlh aF hg hb;obtain⟨cR,bF,aF⟩:=aF;replace aE:=zlh aE hg hb;obtain⟨cH,aN,aE⟩:=aE;have aP:=zA ((by rw[hg];exact Nat.ne_of_lt (q0g.lt (show q0g w _ g435 bZ cB cA from zI1)):g435≠aB));have cX:=zA ((by rw[hg];exact Nat.ne_of_gt (q0g.lt (show q0g w _ g435 bZ cB cA from zI1)):aB≠g435));replace HI435:=zA (q0g.below zI1 hb);clear hb hbox hg)|((with_reducible refine zgd 11 rfl ?_);refine zbx 11 #[.int .i64 0,.int .i64 0] 28 ?_;intro aI hg lG hbox hb;replace aY:=z_q aY hb;replace bH:=zRb bH hb;replace bE:=zRb bE hb;replace bD:=zRb bD hb;have aS:=zA hbox;have kN:=zA ((by rw[hg];exact(q0f zB1):w.heap.size≤aI));have cN:=zA ((by rw[hg];exact(q0f zB1):w.heap.size≤aI));replace HB:=zA (q1b zB1 hb);replace aD:=zlh aD hg hb;obtain⟨cL,bC,aD⟩:=aD;replace aF:=zlh aF hg hb;obtain⟨cQ,bW,aF⟩:=aF;replace aE:=zlh aE hg hb;obtain⟨cG,aT,aE⟩:=aE;replace aM:=zlh aM hg hb;obtain⟨dH,dF,aM⟩:=aM;have aW:=zA ((by rw[hg];exact Nat.ne_of_lt (q0g.lt (show q0g w _ g435 bZ cB cA from zI1)):g435≠aI));have cW:=zA ((by rw[hg];exact Nat.ne_of_gt (q0g.lt (show q0g w _ g435 bZ cB cA from zI1)):aI≠g435));replace HI435:=zA (q0g.below zI1 hb);clear hb hbox hg)|((with_reducible refine zgd 13 rfl ?_);refine zbx 13 #[.int .i64 0,.int .i64 0,.slice none 0 0,.slice none 0 0] 33 ?_;intro aA hg cO hbox hb;replace aY:=z_q aY hb;replace bH:=zRb bH hb;replace bE:=zRb bE hb;replace bD:=zRb bD hb;have aR:=zA hbox;have kM:=zA ((by rw[hg];exact(q0f zB1):w.heap.size≤aA));have cU:=zA ((by rw[hg];exact(q0f zB1):w.heap.size≤aA));replace HB:=zA (q1b zB1 hb);replace aD:=zlh aD hg hb;obtain⟨cK,aO,aD⟩:=aD;replace aF:=zlh aF hg hb;obtain⟨cP,aX,aF⟩:=aF;replace aE:=zlh aE hg hb;obtain⟨cF,aG,aE⟩:=aE;replace aM:=zlh aM hg hb;obtain⟨dG,dD,aM⟩:=aM;replace aS:=zlh aS hg hb;obtain⟨dE,dC,aS⟩:=aS;have bG:=zA ((by rw[hg];exact Nat.ne_of_lt (q0g.lt (show q0g w _ g435 bZ cB cA from zI1)):g435≠aA));have cV:=zA ((by rw[hg];exact Nat.ne_of_gt (q0g.lt (show q0g w _ g435 bZ cB cA from zI1)):aA≠g435));replace HI435:=zA (q0g.below zI1 hb);clear hb hbox hg;have kC:=aU.out;have jN:=cM.out;have kB:=bF.out;have jM:=cR.out;have kA:=aN.out;have jL:=cH.out;have jZ:=dH.out;have jK:=dF.out;have jY:=dG.out;have jJ:=dD.out;have jX:=cX.out;have jI:=aP.out;obtain⟨iV,iU,iT,iM,iL,iK⟩:=ze3 aM;obtain⟨bV,bS,eI,_⟩:=q7h aY.out;subst eI;have jW:=bC.out;have jH:=cL.out;have jV:=bW.out;have jG:=cQ.out;have jU:=aT.out;have jF:=cG.out;have jT:=dE.out;have jE:=dC.out;have jS:=cW.out;have jD:=aW.out;obtain⟨iS,iR,iJ,iI⟩:=ze2 aS;have jR:=aO.out;have jC:=cK.out;have jQ:=aX.out;have jB:=cP.out;have jP:=aG.out;have jA:=cF.out;have jO:=cV.out;have iZ:=bG.out;obtain⟨iQ,iP,iO,iN,iH,iG,iF,iE⟩:=ze4 aR;obtain⟨bU,bR,eH⟩:=q0j bE.out;subst eH;obtain⟨bT,bQ,eG⟩:=q0j bD.out;subst eG))
 obtain⟨iW,hx_⟩:∃ x_,x_=((((((((cO.setCell ⟨aB,0,none⟩ (.int .i64 bP)).setCell ⟨aB,1,none⟩ (.int .i64 bO)).setCell ⟨aB,2,none⟩ (.slice bV bK.length bS)).setCell ⟨aI,0,none⟩ (.int .i64 bN)).setCell ⟨aI,1,none⟩ (.int .i64 bM)).setCell ⟨aA,0,none⟩ (.int .i64 bL)).setCell ⟨aA,1,none⟩ (.int .i64 aV)).setCell ⟨aA,2,none⟩ (.slice bU bJ.length bR)).setCell ⟨aA,3,none⟩ (.slice bT bI.length bQ):=⟨_,rfl⟩;have dZ:q0a (Kd.Q (Kd.int .i64) 3 iW w.heap.size (fun _=>True) (.slice bV bK.length bS) bK):=⟨by rw[hx_];exact zG3 aY aM aS aR⟩;have dY:q0a (Kd.R k59 59 iW w.heap.size (fun _=>True) v445 dJ):=⟨by rw[hx_];exact zF3 bH aM aS aR⟩;have dX:q0a (Kd.R k95 95 iW w.heap.size (fun _=>True) (.slice bU bJ.length bR) bJ):=⟨by rw[hx_];exact zF3 bE aM aS aR⟩;have dW:q0a (Kd.R Kd.bool 4 iW w.heap.size (fun _=>True) (.slice bT bI.length bQ) bI):=⟨by rw[hx_];exact zF3 bD aM aS aR⟩;have dV:q0a (iW.heap[aH]?=some (.cells #[.int .i64 0,.int .i64 0,.slice none 0 0] 26 (0,0))):=⟨by rw[hx_];exact zkf aD⟩
 have dU:q0a (iW.heap[aQ]?=some (.cells #[.int .i64 0,.int .i64 0] 28 (0,0))):=⟨by rw[hx_];exact zkf aF⟩;have dT:q0a (iW.heap[aC]?=some (.cells #[.int .i64 0,.int .i64 0,.slice none 0 0,.slice none 0 0] 33 (0,0))):=⟨by rw[hx_];exact zkf aE⟩;have dS:q0a (iW.heap[aB]?=some (.cells #[.int .i64 bP,.int .i64 bO,.slice bV bK.length bS] 26 (0,0))):=⟨by rw[hx_];exact zkp aM⟩
 have dR:q0a (iW.heap[aI]?=some (.cells #[.int .i64 bN,.int .i64 bM] 28 (0,0))):=⟨by rw[hx_];exact zkp aS⟩;have dQ:q0a (iW.heap[aA]?=some (.cells #[.int .i64 bL,.int .i64 aV,.slice bU bJ.length bR,.slice bT bI.length bQ] 33 (0,0))):=⟨by rw[hx_];exact zkp aR⟩
 have dL:q0a (q0g w iW g435 bZ cB cA):=⟨by rw[hx_];exact zI1⟩;have dK:q0a (Below w.heap.size w iW):=⟨by rw[hx_];exact zB1⟩;(try clear aY bH bE bD aD aF aE aM aS aR);(try clear HI435);(try clear HB);rw[← hx_];clear hx_;have aY:=dZ;have bH:=dY;have bE:=dX;have bD:=dW;have aD:=dV;have aF:=dU;have aE:=dT;have aM:=dS;have aS:=dR;have aR:=dQ;have HI435:=dL;have HB:=dK;clear dZ dY dX dW dV dU dT dS dR dQ dL dK;replace aY:=zA (q7e aY.out);replace bH:=z_d bH;replace bE:=z_d bE;replace bD:=z_d bD;replace aD:=q4h aD;replace aF:=q4h aF;replace aE:=q4h aE;replace aM:=q4h aM;replace aS:=q4h aS;replace aR:=q4h aR;replace HI435:=zA (q0g.drew HI435.out);replace HB:=z_b HB;refine q3g (n:=19) (S:=fun w'=>w'.cell? ⟨aB,0,none⟩=some (.int .i64 bP)∧w'.cell? ⟨aB,1,none⟩=some (.int .i64 bO)∧w'.cell? ⟨aB,2,none⟩=some (.slice bV bK.length bS)∧w'.cell? ⟨aI,0,none⟩=some (.int .i64 bN)∧w'.cell? ⟨aI,1,none⟩=some (.int .i64 bM)∧w'.cell? ⟨aA,0,none⟩=some (.int .i64 bL)∧w'.cell? ⟨aA,1,none⟩=some (.int .i64 aV)∧w'.cell? ⟨aA,2,none⟩=some (.slice bU bJ.length bR)∧w'.cell? ⟨aA,3,none⟩=some (.slice bT bI.length bQ)) (ds:=[]) _ (by kernel_rfl) rfl rfl ⟨zq aM 0,zq aM 1,zq aM 2,zq aS 0,zq aS 1,zq aR 0,zq aR 1,zq aR 2,zq aR 3⟩ (fun hHeld=>?_);refine q1m q2x.tab3 q2x.bits3 (fun HT_ HW_=>?_)
 generalize iW.drew=lF at aY bH bE bD aD aF aE aM aS aR HI435 HB hHeld ⊢;refine z_p 1 ?_;refine z_p 3 ?_;refine z_p 5 ?_;refine z_p 6 ?_;refine z_p 8 ?_;refine zt 0 24 HT_ HW_ hHeld ?_;refine zt 2 26 HT_ HW_ hHeld ?_;refine zt 4 28 HT_ HW_ hHeld ?_;refine zt 7 31 HT_ HW_ hHeld ?_;refine zt 9 33 HT_ HW_ hHeld ?_;refine z_p 10 ?_;refine zo 11 35 HT_ (fun K hK=>?_);refine q5g (Kd.int .i64) _ 3 ?hg (N:=35) ?hd (xs:=([1,3,10,aV,wrap64 (aV+1),0]:List Int)) (inner:=[.int .i64 1,.int .i64 3,.int .i64 10,.int .i64 aV,.int .i64 (wrap64 (aV+1)),.int .i64 0]) (ok:=fun _=>True) (okp:=fun _=>True) ?hr ?hp (fun _ hk=>hk) trivial (Below.refl _ _) (Nat.le_refl _) (by simp) ?_;(case hd=>rfl);(case hg=>rfl);(case hr=>first|(go_simp;done)|(go_simp;rfl));(case hp=>exact(q3o.one (show Kd.M (Kd.int .i64) _ _ _ 1 [.int .i64 1] from rfl) (q3o.one (show Kd.M (Kd.int .i64) _ _ _ 3 [.int .i64 3] from rfl) (q3o.one (show Kd.M (Kd.int .i64) _ _ _ 10 [.int .i64 10] from rfl) (q3o.one (show Kd.M (Kd.int .i64) _ _ _ aV [.int .i64 aV] from rfl) (q3o.one (show Kd.M (Kd.int .i64) _ _ _ (wrap64 (aV+1)) [.int .i64 (wrap64 (aV+1))] from rfl) (q3o.one (show Kd.M (Kd.int .i64) _ _ _ 0 [.int .i64 0] from rfl) (q3o.none _ _))))))));intro v461 lE ho37 hb hg_ hnew_;clear hg_ hnew_;(first|rw[←Ny460.out] at ho37|(simp only[Int.reduceToNat] at ho37;rw[←Ny460.out] at ho37));replace bH:=zRb bH hb;replace bE:=zRb bE hb;replace bD:=zRb bD hb;have cS:=zA (q3f (q5y ho37 (Q_lt (zQ aY))) (q0f zB1));replace aY:=zA (q7b (zQ aY) (q5f ho37) hb);replace aD:=zkb aD hb;replace aF:=zkb aF hb;replace aE:=zkb aE hb;replace aM:=zkb aM hb;replace aS:=zkb aS hb;replace aR:=zkb aR hb;replace HB:=zA (q1b zB1 hb);replace HI435:=zA (q0g.below zI1 hb);clear hb ho37;obtain⟨eL,eJ,eA⟩:=q0j cS.out;(first|subst eA|(injection eA with f1_ f2_ f3_;have f4_:=f1_.symm;have f5_:=f3_.symm;clear f1_ f2_ f3_;subst f4_;subst f5_));refine hK.out _ _ ⟨zq aM 0,zq aM 1,zq aM 2,zq aS 0,zq aS 1,zq aR 0,zq aR 1,zq aR 2,zq aR 3⟩ (fun hHeld=>?_);clear hK K;refine q1j zV ?_;refine zo 12 36 HT_ (fun K hK=>?_);refine zgo Try.func30 #[.pointer (some ⟨g435,0,none⟩),.slice eL dI.length eJ] ?_
 with_reducible refine(q3u.calls g435 bZ cB cA _ _ dI eF eE eD w _ ?s1 ?s2 ?s3 ?s4 ?s5 A4.out).mono ?_
 (case s1=>exact zI1);(case s2=>exact zB1);(case s3=>exact zCx (q0b cS.out).2.2);(case s4=>exact(q0b cS.out).2.1);(case s5=>exact q7n (q0g.q7c HI435.out cS.out (by decide)));rintro e cT ⟨rfl,hi,hb,hk⟩;refine⟨_,rfl,?_⟩;replace aD:=zkB hk aD dA;replace aF:=zkB hk aF cZ;replace aE:=zkB hk aE cY;replace aY:=zA (q6p (Q_keep (q0g.apartQ (show q0g w _ g435 bZ cB cA from zI1) (zQ aY) (by decide)) hk (fun _ h=>h.2)) (fun _ h=>h.1));replace bH:=zA (q2s (q6o (q0g.apart (show q0g w _ g435 bZ cB cA from zI1) (zR bH) (by decide)) hk (fun _ h=>h.2)) (fun _ h=>h.1));replace bE:=zA (q2s (q6o (q0g.apart (show q0g w _ g435 bZ cB cA from zI1) (zR bE) (by decide)) hk (fun _ h=>h.2)) (fun _ h=>h.1));replace bD:=zA (q2s (q6o (q0g.apart (show q0g w _ g435 bZ cB cA from zI1) (zR bD) (by decide)) hk (fun _ h=>h.2)) (fun _ h=>h.1));replace aM:=zkB hk aM cX
 replace aS:=zkB hk aS cW;replace aR:=zkB hk aR cV;replace cS:=zA (q2s (q6o (q0g.apart (show q0g w _ g435 bZ cB cA from zI1) (zR cS) (by decide)) hk (fun _ h=>h.2)) (fun _ h=>h.1));replace HB:=zA hb;replace HI435:=zA (hi);(try clear hb);refine hK.out _ _ ⟨zq aM 0,zq aM 1,zq aM 2,zq aS 0,zq aS 1,zq aR 0,zq aR 1,zq aR 2,zq aR 3⟩ (fun hHeld=>?_);clear hK K;refine q1j zV ?_;refine zon 13 HT_ (fun K hK=>?_);have lA:cT.cell? ⟨aH,0,none⟩=some (.int .i64 0):=zq aD 0;have kL:=q0c aD.out 0;have gF:=cI.out;have gE:=bX.out;have gD:=aU.out;have gC:=bC.out;have gB:=aO.out;have iD:=cJ.out;have iC:=bY.out;have iB:=cM.out;have iA:=cL.out;have hZ:=cK.out;have kZ:cT.cell? ⟨aH,1,none⟩=some (.int .i64 0):=zq aD 1;have kK:=q0c aD.out 1;have gA:=cI.out;have fZ:=bX.out;have fY:=aU.out;have fX:=bC.out;have fW:=aO.out;have hY:=cJ.out;have hX:=bY.out;have hW:=cM.out;have hV:=cL.out;have hU:=cK.out;have kY:cT.cell? ⟨aH,2,none⟩=some (.slice none 0 0):=zq aD 2;have kJ:=q0c aD.out 2;have fV:=cI.out;have fU:=bX.out;have fT:=aU.out;have fS:=bC.out;have fR:=aO.out;have hT:=cJ.out;have hS:=bY.out;have hR:=cM.out;have hQ:=cL.out;have hP:=cK.out;refine q6i (w1:=?_) (by rfl) rfl ?_ ?_;rotate_left
 ·go_simp
  rfl
 refine hK.out _ _ ⟨(zCF hHeld.1),(zCF hHeld.2.1),(zCF hHeld.2.2.1),(zCF hHeld.2.2.2.1),(zCF hHeld.2.2.2.2.1),(zCF hHeld.2.2.2.2.2.1),(zCF hHeld.2.2.2.2.2.2.1),(zCF hHeld.2.2.2.2.2.2.2.1),(zCF hHeld.2.2.2.2.2.2.2.2)⟩ (fun hHeld=>?_);clear hK K;refine z_p 14 ?_;refine zon 15 HT_ (fun K hK=>?_);have kX:cT.cell? ⟨aQ,0,none⟩=some (.int .i64 0):=zq aF 0;have kI:=q0c aF.out 0;have fQ:=cJ.out;have fP:=cC.out;have fO:=bF.out;have fN:=bW.out;have fM:=aX.out;have hO:=cI.out;have hN:=cD.out;have hM:=cR.out;have hJ:=cQ.out;have hI:=cP.out;have kW:cT.cell? ⟨aQ,1,none⟩=some (.int .i64 0):=zq aF 1;have kH:=q0c aF.out 1;have fL:=cJ.out;have fK:=cC.out;have fJ:=bF.out;have fI:=bW.out;have fH:=aX.out;have hH:=cI.out;have hG:=cD.out;have hF:=cR.out;have hE:=cQ.out;have hD:=cP.out;refine q6i (w1:=?_) (by rfl) rfl ?_ ?_;rotate_left
 ·go_simp
  rfl
 refine hK.out _ _ ⟨(zCF hHeld.1),(zCF hHeld.2.1),(zCF hHeld.2.2.1),(zCF hHeld.2.2.2.1),(zCF hHeld.2.2.2.2.1),(zCF hHeld.2.2.2.2.2.1),(zCF hHeld.2.2.2.2.2.2.1),(zCF hHeld.2.2.2.2.2.2.2.1),(zCF hHeld.2.2.2.2.2.2.2.2)⟩ (fun hHeld=>?_);clear hK K;refine z_p 16 ?_;refine zon 17 HT_ (fun K hK=>?_);have kV:cT.cell? ⟨aC,0,none⟩=some (.int .i64 0):=zq aE 0;have kG:=q0c aE.out 0;have fG:=bY.out;have fF:=cD.out;have fE:=aN.out;have fD:=aT.out;have fC:=aG.out;have gZ:=bX.out;have gY:=cC.out;have gX:=cH.out;have gW:=cG.out;have gV:=cF.out;have kU:cT.cell? ⟨aC,1,none⟩=some (.int .i64 0):=zq aE 1;have kF:=q0c aE.out 1;have fB:=bY.out;have fA:=cD.out;have eZ:=aN.out;have eY:=aT.out;have eX:=aG.out;have gU:=bX.out;have gT:=cC.out;have gS:=cH.out;have gR:=cG.out;have gQ:=cF.out;have kT:cT.cell? ⟨aC,2,none⟩=some (.slice none 0 0):=zq aE 2;have kE:=q0c aE.out 2;have eW:=bY.out;have eV:=cD.out;have eU:=aN.out;have eT:=aT.out;have eS:=aG.out;have gP:=bX.out;have gO:=cC.out;have gN:=cH.out;have gM:=cG.out;have gL:=cF.out;have kS:cT.cell? ⟨aC,3,none⟩=some (.slice none 0 0):=zq aE 3;have kD:=q0c aE.out 3;have eR:=bY.out;have eQ:=cD.out;have eP:=aN.out;have eO:=aT.out;have eN:=aG.out;have gK:=bX.out;have gJ:=cC.out;have gI:=cH.out;have gH:=cG.out;have gG:=cF.out;refine q6i (w1:=?_) (by rfl) rfl ?_ ?_;rotate_left
 ·go_simp
  rfl
 refine hK.out _ _ ⟨(zCF hHeld.1),(zCF hHeld.2.1),(zCF hHeld.2.2.1),(zCF hHeld.2.2.2.1),(zCF hHeld.2.2.2.2.1),(zCF hHeld.2.2.2.2.2.1),(zCF hHeld.2.2.2.2.2.2.1),(zCF hHeld.2.2.2.2.2.2.2.1),(zCF hHeld.2.2.2.2.2.2.2.2)⟩ (fun hHeld=>?_);clear hK K;refine z_p 18 ?_;refine q4j (q2e HT_.out (by kernel_rfl)) ?_
 try go_wp2
 refine bodyPost_ret (q5o (rs:=[.cell 2 26,.tmp 3,.cell 4 28,.tmp 5,.cell 6 33,.tmp 7]) rfl (by simp) (.cell aH 26 #[.int .i64 bP,.int .i64 bO,.slice bV bK.length bS] (0,0) _ rfl (zkp aD) Try.underlying26 rfl (by kernel_rfl) (.tmp (.cell aQ 28 #[.int .i64 bN,.int .i64 bM] (0,0) _ rfl (zkp aF) Try.underlying28 rfl (by kernel_rfl) (.tmp (.cell aC 33 #[.int .i64 bL,.int .i64 aV,.slice bU bJ.length bR,.slice bT bI.length bQ] (0,0) _ rfl (zkp aE) Try.underlying33 rfl (by kernel_rfl) (.tmp .nil))))))) rfl ?_;exact⟨_,_,_,_,zE,zG3 aY aD aF aE,zF3 bH aD aF aE,zF3 bE aD aF aE,zF3 bD aD aF aE,zB1⟩

def q4w.f (k:Nat) (b:List Int):Option (Int × Int × List Int × Int × Int × Int × (List (S59)) × Int × Int × (List (S95)) × List Bool × Int):=(q2x.f k b).bind fun a=>(some (a.1,a.2.1,a.2.2.1,a.2.2.2.1,a.2.2.2.2.1,a.2.2.2.2.2.1,a.2.2.2.2.2.2.1,a.2.2.2.2.2.2.2.1,a.2.2.2.2.2.2.2.2.1,a.2.2.2.2.2.2.2.2.2.1,a.2.2.2.2.2.2.2.2.2.2.1,a.2.2.2.2.2.2.2.2.2.2.2))
theorem q4w.calls (k:Nat) (A0:Option Addr) (c0:Nat) (l0:List Int) (r1:Int) (r2:Int) (r3:List Int) (r4:Int) (r5:Int) (r6:Int) (r7:List (S59)) (r8:Int) (r9:Int) (r10:List (S95)) (r11:List Bool) (r12:Int) (w:World) (bA:Kd.C (Kd.int .u8) w A0 l0.length l0) (bB:l0.length≤c0) (h:q4w.f k l0=some (r1,r2,r3,r4,r5,r6,r7,r8,r9,r10,r11,r12)) :
  Calls Try.prog 5 #[.slice A0 l0.length c0] w fun e w'=>∃ v2_ v6_ v9_ v10_:Value,e=.returned (.tuple #[.agg #[.int .i64 r1,.int .i64 r2,v2_],.int .i64 r4,.agg #[.int .i64 r5,.int .i64 r6],v6_,.agg #[.int .i64 r8,.int .i64 r9,v9_,v10_],.int .i64 r12])∧Kd.Q (Kd.int .i64) 3 w' w.heap.size (fun _=>True) v2_ r3∧Kd.R k59 59 w' w.heap.size (fun _=>True) v6_ r7∧Kd.R k95 95 w' w.heap.size (fun _=>True) v9_ r10∧Kd.R Kd.bool 4 w' w.heap.size (fun _=>True) v10_ r11∧Below w.heap.size w w':=by
 have hu26:=Try.underlying26;have hu28:=Try.underlying28;have hu33:=Try.underlying33;have cI:=zA bA;have cJ:=zA bB;clear bA bB;have HB:=zA (Below.refl w.heap.size w);have H:=h;clear h;unfold q4w.f at H;obtain⟨⟨aV,aU,aT,bE,aS,aR,bD,aQ,aP,aO,aN,bC⟩,A2,H⟩:=zB H;simp only[Option.some.injEq,Prod.mk.injEq] at H;obtain⟨rfl,rfl,rfl,rfl,rfl,rfl,rfl,rfl,rfl,rfl,rfl,rfl⟩:=H;go_enter Try.func5,Try.ntmps5
 go_wp2_with (first|((with_reducible refine zgd 2 rfl ?_);refine zbx 2 #[.int .i64 0,.int .i64 0,.slice none 0 0] 26 ?_;intro aY hg w3 hbox hb;have aA:=zA hbox;have cO:=zga (w:=w) hg;replace HB:=zbs hb;clear hb hbox hg)|((with_reducible refine zgd 4 rfl ?_);refine zbx 4 #[.int .i64 0,.int .i64 0] 28 ?_;intro aX hg w4 hbox hb;have aB:=zA hbox;have cN:=zga (w:=w) hg;replace HB:=zbs hb;replace aA:=zlh aA hg hb;obtain⟨aI,aG,aA⟩:=aA;clear hb hbox hg)|((with_reducible refine zgd 6 rfl ?_);refine zbx 6 #[.int .i64 0,.int .i64 0,.slice none 0 0,.slice none 0 0] 33 ?_;intro aW hg w5 hbox hb;have aC:=zA hbox;have cM:=zga (w:=w) hg;replace HB:=zbs hb;replace aA:=zlh aA hg hb;obtain⟨aH,aE,aA⟩:=aA;replace aB:=zlh aB hg hb;obtain⟨aF,aD,aB⟩:=aB;clear hb hbox hg)|((with_reducible refine zgf 14 rfl ?_);refine zgl 9 Try.func14 #[.slice A0 l0.length c0] ?_;(with_reducible refine(q2x.calls k _ _ l0 aV aU aT bE aS aR bD aQ aP aO aN bC _ ?s1 ?s2 A2.out).mono ?_);(case s1=>exact zCb cI);(case s2=>exact cJ.out);rintro e w6 ⟨v472,v478,v483,v486,rfl,ho0,ho1,ho2,ho3,hb⟩;refine⟨_,rfl,?_⟩;have aM:=zA (q8i ho0 (q0f zb));have aZ:=z_l ho1;have aL:=z_l ho2;have aK:=z_l ho3;replace aA:=zkb aA hb;replace aB:=zkb aB hb;replace aC:=zkb aC hb;replace HB:=zbs hb;(try clear hb);(try clear ho0);(try clear ho1);(try clear ho2);(try clear ho3);have cS:=aI.out;have cQ:=aG.out;have cR:=aH.out;have cP:=aE.out;obtain⟨cH,cG,cF,cE,cD,cC⟩:=ze3 aA;obtain⟨bO,bK,bH,_⟩:=q7h aM.out;subst bH;have cL:=aF.out;have cK:=aD.out;obtain⟨cB,cA,bV,bU⟩:=ze2 aB;obtain⟨bZ,bY,bX,bW,bT,bS,bR,bQ⟩:=ze4 aC;obtain⟨bN,bJ,bG⟩:=q0j aL.out;subst bG;obtain⟨bM,bI,bF⟩:=q0j aK.out;subst bF))
 refine bodyPost_ret (q5o (rs:=[.cell 2 26,.tmp 3,.cell 4 28,.tmp 5,.cell 6 33,.tmp 7]) rfl (by simp) (.cell aY 26 #[.int .i64 aV,.int .i64 aU,.slice bO aT.length bK] (0,0) _ rfl (zkp aA) Try.underlying26 rfl (by kernel_rfl) (.tmp (.cell aX 28 #[.int .i64 aS,.int .i64 aR] (0,0) _ rfl (zkp aB) Try.underlying28 rfl (by kernel_rfl) (.tmp (.cell aW 33 #[.int .i64 aQ,.int .i64 aP,.slice bN aO.length bJ,.slice bM aN.length bI] (0,0) _ rfl (zkp aC) Try.underlying33 rfl (by kernel_rfl) (.tmp .nil))))))) rfl ?_;exact⟨_,_,_,_,zE,zG3 aM aA aB aC,zF3 aZ aA aB aC,zF3 aL aA aB aC,zF3 aK aA aB aC,zb⟩

def q0q.f (a:Int) (b:Int) (c:Int):Option (Bool):=if b≤a then(some (decide (a≤c))) else(some false)
theorem q0q.calls (a0:Int) (a1:Int) (a2:Int) (r:Bool) (w:World) (h:q0q.f a0 a1 a2=some r) :
  Calls Try.prog 22 #[.int .i64 a0,.int .i64 a1,.int .i64 a2] w fun e w'=>e=.returned (.bool r)∧q2k w w':=by
 have H:=h;clear h;unfold q0q.f at H;go_enter Try.func22,Try.ntmps22
 by_cases c4:a1≤a0
 ·rw[if_pos c4] at H;have aA:=decide_eq_true c4;clear c4;obtain rfl:=zI H;(try simp only[aA]);go_wp2;go_ret;exact⟨by first|rfl|(simp;done)|(simp[*];done),by repeat (first|exact q2k.refl _|apply q2k.step)⟩
 ·rw[if_neg c4] at H;have aA:=decide_eq_false c4;clear c4;obtain rfl:=zI H;(try simp only[aA]);go_wp2;go_ret;exact⟨by first|rfl|(simp;done)|(simp[*];done),by repeat (first|exact q2k.refl _|apply q2k.step)⟩

def q4o.l0:Nat→Int→Int→List Int→Int→Int→Option (Bool)
  |0,_,_,_,_,_=>none
  |k+1,c,d,b,e,a=>if a<e then(if 0≤a then(if a<(b.length:Int) then((q0q.f (rd b a) c d).bind fun f=>(if f=true then(q4o.l0 k c d b e (wrap64 (a+1))) else(some false))) else(none)) else(none)) else(some true)
def q4o.f (k:Nat) (a:List Int) (b:Int) (c:Int):Option (Bool):=q4o.l0 k b c a (a.length:Int) 0
theorem q4o.calls (k:Nat) (A0:Option Addr) (c0:Nat) (l0:List Int) (a1:Int) (a2:Int) (r:Bool) (w:World) (aF:Kd.C (Kd.int .i64) w A0 l0.length l0) (aG:l0.length≤c0) (h:q4o.f k l0 a1 a2=some r) :
  Calls Try.prog 76 #[.slice A0 l0.length c0,.int .i64 a1,.int .i64 a2] w fun e w'=>e=.returned (.bool r)∧q2k w w':=by
 have aM:=zA aF;have aU:=zA aG;clear aF aG;have H:=h;clear h;unfold q4o.f at H;have H':=zA H;clear H;go_enter Try.func76,Try.ntmps76;go_wp2
 go_loopg [11] k (fun kq v11 w'=>∃ (aA:Int),v11=.int .i64 aA∧q0a (q4o.l0 kq a1 a2 l0 (l0.length:Int) aA=some r)∧q0a (kq≤k)∧q2k w w')
 case atStart=>exact⟨(0),zr,H',⟨Nat.le_refl _⟩,by repeat (first|exact q2k.refl _|apply q2k.step)⟩
 case round =>
  clear H';obtain⟨aA,rfl,HA,HK1,⟨m1,rfl⟩⟩:=hrel
  cases gk with
  |zero=>exact absurd HA.out (by simp[q4o.l0])
  |succ k1 =>
   have H:=HA.out;clear HA;simp only[q4o.l0] at H
   by_cases c4:aA<(l0.length:Int)
   ·rw[if_pos c4] at H;have aJ:=decide_eq_true c4;clear c4;obtain⟨aT,H⟩:=q5b H;obtain⟨aS,H⟩:=q5b H;obtain⟨aH,A7,H⟩:=zB H;have aR:=zT (0≤(aA:Int));have aQ:=zT (aA<(l0.length:Int));obtain⟨aP,aI,aK⟩:=q3r aM.out aA zd zd;cases aI
    by_cases c8:aH=true
    ·subst c8;rw[if_pos rfl] at H;have H':=zA H;clear H
     go_wp2_with (first|((with_reducible refine zgf 22 rfl ?_);refine zgl 18 Try.func22 #[.int .i64 (rd l0 aA),.int .i64 a1,.int .i64 a2] ?_;(with_reducible refine(q0q.calls (rd l0 aA) a1 a2 true _ A7.out).mono ?_);rintro e w' ⟨rfl,⟨nd,rfl⟩⟩;refine⟨_,rfl,?_⟩))
     go_roundg k1
     case measure=>have:=HK1.out;omega
     case rel=>exact⟨(wrap64 (aA+1)),zr,H',⟨by have:=HK1.out;omega⟩,by repeat (first|exact q2k.refl _|apply q2k.step)⟩
    ·replace c8:=Bool.eq_false_iff.mpr c8;subst c8;rw[if_neg zNo] at H;obtain rfl:=zI H
     go_wp2_with (first|((with_reducible refine zgf 22 rfl ?_);refine zgl 18 Try.func22 #[.int .i64 (rd l0 aA),.int .i64 a1,.int .i64 a2] ?_;(with_reducible refine(q0q.calls (rd l0 aA) a1 a2 false _ A7.out).mono ?_);rintro e w' ⟨rfl,⟨nd,rfl⟩⟩;refine⟨_,rfl,?_⟩))
     go_ret;exact⟨by first|rfl|(simp;done)|(simp[*];done),by repeat (first|exact q2k.refl _|apply q2k.step)⟩
   ·rw[if_neg c4] at H;have aJ:=decide_eq_false c4;clear c4;obtain rfl:=zI H;go_wp2;go_ret;exact⟨by first|rfl|(simp;done)|(simp[*];done),by repeat (first|exact q2k.refl _|apply q2k.step)⟩

def q3l.f (k:Nat) (a:Int) (b:Int) (c:List Int):Option (Bool):=(q0q.f a 1 8).bind fun d=>(if d=true then((q0q.f b 1 8).bind fun e=>(if e=true then(if (c.length:Int)=(wrap64 (a * b)) then((q4o.f k c 0 2).bind fun f=>(some f)) else(some false)) else(some false))) else(some false))
theorem q3l.calls (k:Nat) (aA:Int) (aC:Int) (aF:Option Addr) (aE:Nat) (aB:List Int) (r:Bool) (w:World) (aK:Kd.C (Kd.int .i64) w aF aB.length aB) (aL:aB.length≤aE) (h:q3l.f k aA aC aB=some r) :
  Calls Try.prog 58 #[.agg #[.int .i64 aA,.int .i64 aC,.slice aF aB.length aE]] w fun e w'=>e=.returned (.bool r)∧Below w.heap.size w w':=by
 have hu26:=Try.underlying26;have aO:=zA aK;have aP:=zA aL;clear aK aL;have HB:=zA (Below.refl w.heap.size w);have H:=h;clear h;unfold q3l.f at H;obtain⟨aT,A2,H⟩:=zB H;go_enter Try.func58,Try.ntmps58
 by_cases c3:aT=true
 ·subst c3;rw[if_pos rfl] at H;obtain⟨aS,A4,H⟩:=zB H
  by_cases c5:aS=true
  ·subst c5;rw[if_pos rfl] at H
   by_cases c6:(aB.length:Int)=(wrap64 (aA * aC))
   ·rw[if_pos c6] at H;have aJ:((aB.length:Int)==(wrap64 (aA * aC)))=true:=beq_iff_eq.mpr c6;have aI:((aB.length:Int) != (wrap64 (aA * aC)))=false:=bne_eq_false_iff_eq.mpr c6;clear c6;obtain⟨aR,A7,H⟩:=zB H;obtain rfl:=zI H;(try simp only[aJ,aI])
    go_wp2_with (first|((with_reducible refine zgd 1 rfl ?_);(try (refine q1w (by rfl) ?_;dsimp only));refine zbx 1 #[.int .i64 aA,.int .i64 aC,.slice aF aB.length aE] 26 ?_;intro aG hg w8 hbox hb;have aD:=zA hbox;have aH:=zga (w:=w) hg;replace HB:=zbs hb;clear hb hbox hg;obtain⟨bS,bR,bQ,bP,bO,bN⟩:=ze3 aD)|((with_reducible refine zgf 22 rfl ?_);refine zgl 5 Try.func22 #[.int .i64 aA,.int .i64 1,.int .i64 8] ?_;(with_reducible refine(q0q.calls aA 1 8 true _ A2.out).mono ?_);rintro e w' ⟨rfl,⟨nd,rfl⟩⟩;refine⟨_,rfl,?_⟩)|(go_at_call 22;(with_reducible refine(q0q.calls aC 1 8 true _ A4.out).mono ?_);rintro e w' ⟨rfl,⟨nd,rfl⟩⟩)|(go_at_call 76;(with_reducible refine(q4o.calls k _ _ aB 0 2 aR _ ?s1 ?s2 A7.out).mono ?_);(case s1=>exact zCb aO);(case s2=>exact aP.out);rintro e w' ⟨rfl,⟨nd,rfl⟩⟩))
    go_ret;exact⟨zE,zb⟩
   ·rw[if_neg c6] at H;have aJ:((aB.length:Int)==(wrap64 (aA * aC)))=false:=beq_eq_false_iff_ne.mpr c6;have aI:((aB.length:Int) != (wrap64 (aA * aC)))=true:=bne_iff_ne.mpr c6;obtain rfl:=zI H;(try simp only[aJ,aI])
    go_wp2_with (first|((with_reducible refine zgd 1 rfl ?_);(try (refine q1w (by rfl) ?_;dsimp only));refine zbx 1 #[.int .i64 aA,.int .i64 aC,.slice aF aB.length aE] 26 ?_;intro aG hg bW hbox hb;have aD:=zA hbox;have aH:=zga (w:=w) hg;replace HB:=zbs hb;clear hb hbox hg;obtain⟨bM,bL,bK,bD,bC,bB⟩:=ze3 aD)|((with_reducible refine zgf 22 rfl ?_);refine zgl 5 Try.func22 #[.int .i64 aA,.int .i64 1,.int .i64 8] ?_;(with_reducible refine(q0q.calls aA 1 8 true _ A2.out).mono ?_);rintro e w' ⟨rfl,⟨nd,rfl⟩⟩;refine⟨_,rfl,?_⟩)|(go_at_call 22;(with_reducible refine(q0q.calls aC 1 8 true _ A4.out).mono ?_);rintro e w' ⟨rfl,⟨nd,rfl⟩⟩))
    go_ret;exact⟨zE,zb⟩
  ·replace c5:=Bool.eq_false_iff.mpr c5;subst c5;rw[if_neg zNo] at H;obtain rfl:=zI H
   go_wp2_with (first|((with_reducible refine zgd 1 rfl ?_);(try (refine q1w (by rfl) ?_;dsimp only));refine zbx 1 #[.int .i64 aA,.int .i64 aC,.slice aF aB.length aE] 26 ?_;intro aG hg bV hbox hb;have aD:=zA hbox;have aH:=zga (w:=w) hg;replace HB:=zbs hb;clear hb hbox hg;obtain⟨bJ,bI,bH,bA,aZ,aY⟩:=ze3 aD)|((with_reducible refine zgf 22 rfl ?_);refine zgl 5 Try.func22 #[.int .i64 aA,.int .i64 1,.int .i64 8] ?_;(with_reducible refine(q0q.calls aA 1 8 true _ A2.out).mono ?_);rintro e w' ⟨rfl,⟨nd,rfl⟩⟩;refine⟨_,rfl,?_⟩)|(go_at_call 22;(with_reducible refine(q0q.calls aC 1 8 false _ A4.out).mono ?_);rintro e w' ⟨rfl,⟨nd,rfl⟩⟩))
   go_ret;exact⟨zE,zb⟩
 ·replace c3:=Bool.eq_false_iff.mpr c3;subst c3;rw[if_neg zNo] at H;obtain rfl:=zI H
  go_wp2_with (first|((with_reducible refine zgd 1 rfl ?_);(try (refine q1w (by rfl) ?_;dsimp only));refine zbx 1 #[.int .i64 aA,.int .i64 aC,.slice aF aB.length aE] 26 ?_;intro aG hg bU hbox hb;have aD:=zA hbox;have aH:=zga (w:=w) hg;replace HB:=zbs hb;clear hb hbox hg;obtain⟨bG,bF,bE,aX,aW,aV⟩:=ze3 aD)|((with_reducible refine zgf 22 rfl ?_);refine zgl 5 Try.func22 #[.int .i64 aA,.int .i64 1,.int .i64 8] ?_;(with_reducible refine(q0q.calls aA 1 8 false _ A2.out).mono ?_);rintro e w' ⟨rfl,⟨nd,rfl⟩⟩;refine⟨_,rfl,?_⟩))
  go_ret;exact⟨zE,zb⟩

def q3q.f (k:Nat) (b:Int) (c:Int) (a:List Int) (d:Int):Option (Bool):=(q3l.f k b c a).bind fun e=>(if e=true then((q0q.f d 0 (wrap64 ((a.length:Int)-1))).bind fun f=>(some f)) else(some false))
theorem q3q.calls (k:Nat) (aD:Int) (aC:Int) (aF:Option Addr) (aE:Nat) (aA:List Int) (a1:Int) (r:Bool) (w:World) (aG:Kd.C (Kd.int .i64) w aF aA.length aA) (aH:aA.length≤aE) (h:q3q.f k aD aC aA a1=some r) :
  Calls Try.prog 75 #[.agg #[.int .i64 aD,.int .i64 aC,.slice aF aA.length aE],.int .i64 a1] w fun e w'=>e=.returned (.bool r)∧Below w.heap.size w w':=by
 have hu26:=Try.underlying26;have aI:=zA aG;have aJ:=zA aH;clear aG aH;have HB:=zA (Below.refl w.heap.size w);have H:=h;clear h;unfold q3q.f at H;obtain⟨aO,A3,H⟩:=zB H;go_enter Try.func75,Try.ntmps75
 by_cases c4:aO=true
 ·subst c4;rw[if_pos rfl] at H;obtain⟨aN,A5,H⟩:=zB H;obtain rfl:=zI H
  go_wp2_with (first|((with_reducible refine zgd 2 rfl ?_);(try (refine q1w (by rfl) ?_;dsimp only));refine zbx 2 #[.int .i64 aD,.int .i64 aC,.slice aF aA.length aE] 26 ?_;intro aK hg w6 hbox hb;have aB:=zA hbox;have aM:=zga (w:=w) hg;replace HB:=zbs hb;clear hb hbox hg;obtain⟨bH,bG,bF,bB,bA,aZ⟩:=ze3 aB)|((with_reducible refine zgf 58 rfl ?_);refine zgl 6 Try.func58 #[.agg #[.int .i64 aD,.int .i64 aC,.slice aF aA.length aE]] ?_;(with_reducible refine(q3l.calls k aD aC _ _ aA true _ ?s1 ?s2 A3.out).mono ?_);(case s1=>exact zCb aI);(case s2=>exact aJ.out);rintro e w8 ⟨rfl,hb⟩;refine⟨_,rfl,?_⟩;replace aB:=zkb aB hb;replace HB:=zbs hb;(try clear hb);obtain⟨bE,bD,bC,aY,aX,aW⟩:=ze3 aB)|(go_at_call 22;(with_reducible refine(q0q.calls a1 0 (wrap64 ((aA.length:Int)-1)) aN _ A5.out).mono ?_);rintro e w' ⟨rfl,⟨nd,rfl⟩⟩))
  go_ret;exact⟨zE,zb⟩
 ·replace c4:=Bool.eq_false_iff.mpr c4;subst c4;rw[if_neg zNo] at H;obtain rfl:=zI H
  go_wp2_with (first|((with_reducible refine zgd 2 rfl ?_);(try (refine q1w (by rfl) ?_;dsimp only));refine zbx 2 #[.int .i64 aD,.int .i64 aC,.slice aF aA.length aE] 26 ?_;intro aK hg bL hbox hb;have aB:=zA hbox;have aM:=zga (w:=w) hg;replace HB:=zbs hb;clear hb hbox hg;obtain⟨aV,aU,aT,aS,aR,aQ⟩:=ze3 aB)|((with_reducible refine zgf 58 rfl ?_);refine zgl 6 Try.func58 #[.agg #[.int .i64 aD,.int .i64 aC,.slice aF aA.length aE]] ?_;(with_reducible refine(q3l.calls k aD aC _ _ aA false _ ?s1 ?s2 A3.out).mono ?_);(case s1=>exact zCb aI);(case s2=>exact aJ.out);rintro e bK ⟨rfl,hb⟩;refine⟨_,rfl,?_⟩;replace aB:=zkb aB hb;replace HB:=zbs hb;(try clear hb)))
  go_ret;exact⟨zE,zb⟩

def q1r.f (k:Nat) (c:Int) (d:Int) (b:List Int) (a:Int):Option (Bool):=(q3q.f k c d b a).bind fun e=>(if e=true then(if 0≤a then(if a<(b.length:Int) then(some ((rd b a) != 2)) else(none)) else(none)) else(some false))
theorem q1r.calls (k:Nat) (aD:Int) (aC:Int) (aF:Option Addr) (aE:Nat) (aA:List Int) (a1:Int) (r:Bool) (w:World) (aJ:Kd.C (Kd.int .i64) w aF aA.length aA) (aK:aA.length≤aE) (h:q1r.f k aD aC aA a1=some r) :
  Calls Try.prog 57 #[.agg #[.int .i64 aD,.int .i64 aC,.slice aF aA.length aE],.int .i64 a1] w fun e w'=>e=.returned (.bool r)∧Below w.heap.size w w':=by
 have hu26:=Try.underlying26;have aI:=zA aJ;have aL:=zA aK;clear aJ aK;have HB:=zA (Below.refl w.heap.size w);have H:=h;clear h;unfold q1r.f at H;obtain⟨aP,A3,H⟩:=zB H;go_enter Try.func57,Try.ntmps57
 by_cases c4:aP=true
 ·subst c4;rw[if_pos rfl] at H;obtain⟨bO,H⟩:=q5b H;obtain⟨bN,H⟩:=q5b H;obtain rfl:=zI H
  go_wp2_with (first|((with_reducible refine zgd 2 rfl ?_);refine zbx 2 #[.int .i64 aD,.int .i64 aC,.slice aF aA.length aE] 26 ?_;intro aM hg w7 hbox hb;have aB:=zA hbox;have aO:=zga (w:=w) hg;replace HB:=zbs hb;clear hb hbox hg;obtain⟨bI,bH,bG,bF,bE,bD⟩:=ze3 aB)|((with_reducible refine zgf 75 rfl ?_);refine zgl 7 Try.func75 #[.agg #[.int .i64 aD,.int .i64 aC,.slice aF aA.length aE],.int .i64 a1] ?_;(with_reducible refine(q3q.calls k aD aC _ _ aA a1 true _ ?s1 ?s2 A3.out).mono ?_);(case s1=>exact zCb aI);(case s2=>exact aL.out);rintro e w9 ⟨rfl,hb⟩;refine⟨_,rfl,?_⟩;replace aB:=zkb aB hb;replace HB:=zbs hb;(try clear hb);obtain⟨bC,bB,bA,aW,aV,aU⟩:=ze3 aB;have bM:=zT (0≤(a1:Int));have bL:=zT (a1<(aA.length:Int));obtain⟨bK,aQ,aG⟩:=q3r aI.out a1 zd zd;cases aQ;replace aG:=zC HB aG))
  go_ret;exact⟨zE,zb⟩
 ·replace c4:=Bool.eq_false_iff.mpr c4;subst c4;rw[if_neg zNo] at H;obtain rfl:=zI H
  go_wp2_with (first|((with_reducible refine zgd 2 rfl ?_);refine zbx 2 #[.int .i64 aD,.int .i64 aC,.slice aF aA.length aE] 26 ?_;intro aM hg bQ hbox hb;have aB:=zA hbox;have aO:=zga (w:=w) hg;replace HB:=zbs hb;clear hb hbox hg;obtain⟨aZ,aY,aX,aT,aS,aR⟩:=ze3 aB)|((with_reducible refine zgf 75 rfl ?_);refine zgl 7 Try.func75 #[.agg #[.int .i64 aD,.int .i64 aC,.slice aF aA.length aE],.int .i64 a1] ?_;(with_reducible refine(q3q.calls k aD aC _ _ aA a1 false _ ?s1 ?s2 A3.out).mono ?_);(case s1=>exact zCb aI);(case s2=>exact aL.out);rintro e bP ⟨rfl,hb⟩;refine⟨_,rfl,?_⟩;replace aB:=zkb aB hb;replace HB:=zbs hb;(try clear hb)))
  go_ret;exact⟨zE,zb⟩

def q0l.l0:Nat→List (S59)→List (S59)→Int→Int→Int→Int→List Int→Option (Bool)
  |0,_,_,_,_,_,_,_=>none
  |k+1,c,b,g,a,d,e,f=>if a<g then(if 0≤a then(if a<(b.length:Int) then((q1r.f k d e f ((q0e b a).f0)).bind fun h=>(if h=true then(if a>0 then(if 0≤(wrap64 (a-1)) then(if (wrap64 (a-1))<(c.length:Int) then(if ((q0e b a).f0)≤((q0e c (wrap64 (a-1))).f0) then(some false) else((q0q.f ((q0e b a).f1) 1 10000).bind fun i=>(if i=true then(q0l.l0 k c b g (wrap64 (a+1)) d e f) else(some false)))) else(none)) else(none)) else((q0q.f ((q0e b a).f1) 1 10000).bind fun j=>(if j=true then(q0l.l0 k c b g (wrap64 (a+1)) d e f) else(some false)))) else(some false))) else(none)) else(none)) else((q3l.f k d e f).bind fun l=>(if l=true then(some (decide ((c.length:Int)≤20))) else(some false)))
def q0l.f (k:Nat) (b:Int) (c:Int) (d:List Int) (a:List (S59)):Option (Bool):=q0l.l0 k a a (a.length:Int) 0 b c d
def q0l.T4:Bool × List (List Nat × List Nat):=(true,[([],[]),([],[]),([1],[1]),([0,2],[0,2]),([3],[3]),([4,3],[4]),([5],[5]),([6,5],[5,6]),([7,5,5],[5,7]),([8],[8]),([9,8],[8,9]),([8],[8]),([8],[8]),([12,8],[8,12]),([11,13,8],[8,11,13]),([14,8],[8,14]),([15,8],[8,15]),([10,16,8],[8,10,16]),([8,17,5],[5,8,17]),([5,18],[5,18]),([19,8],[19]),([20],[20]),([21,20],[20,21]),([22,20,20],[20,22]),([23,20],[20,23]),([20,24],[20,24])])
def q0l.B4:List Nat:=[0,0,2,7,15,31,63,127,255,511,1023,511,511,4607,14847,31231,63999,131071,262143,524287,1048575,2097151,4194303,8388607,16777215,33554431]
theorem q0l.q9n:q6q .any (opsOf Try.f36 4)=q0l.T4:=by kernel_rfl
theorem q0l.q6y:q4a q0l.T4.2 q0l.B4=true:=by kernel_rfl
theorem q0l.calls (k:Nat) (aH:Int) (aG:Int) (aL:Option Addr) (aK:Nat) (aE:List Int) (A1:Option Addr) (c1:Nat) (l1:List (S59)) (r:Bool) (w:World) (bA:Kd.C (Kd.int .i64) w aL aE.length aE) (bB:aE.length≤aK) (bN:Kd.C k59 w A1 l1.length l1) (bO:l1.length≤c1) (h:q0l.f k aH aG aE l1=some r) :
  Calls Try.prog 36 #[.agg #[.int .i64 aH,.int .i64 aG,.slice aL aE.length aK],.slice A1 l1.length c1] w fun e w'=>e=.returned (.bool r)∧Below w.heap.size w w':=by
 have hu26:=Try.underlying26;have hu59:=Try.underlying59;have aN:=zA bA;have aO:=zA bB;clear bA bB;have bP:=zA bN;have dF:=zA bO;clear bN bO;have HB:=zA (Below.refl w.heap.size w);have H:=h;clear h;unfold q0l.f at H;have H':=zA H;clear H;go_enter Try.func36,Try.ntmps36
 go_wp2_with (first|((with_reducible refine zgd 2 rfl ?_);(try (refine q1w (by rfl) ?_;dsimp only));refine zbx 2 #[.int .i64 aH,.int .i64 aG,.slice aL aE.length aK] 26 ?_;intro aI hg w3 hbox hb;have aA:=zA hbox;have cQ:=zga (w:=w) hg;replace HB:=zbs hb;clear hb hbox hg))
 go_loopg [9] k (fun kq v9 w'=>∃ (aB:Int),v9=.int .i64 aB∧q0a (q0l.l0 kq l1 l1 (l1.length:Int) aB aH aG aE=some r)∧q0a (kq≤k)∧q0a (w'.heap[aI]?=some (.cells #[.int .i64 aH,.int .i64 aG,(.slice aL aE.length aK)] 26 (0,0)))∧q0a (Below w.heap.size w w'))
 case atStart=>exact⟨(0),zr,H',⟨Nat.le_refl _⟩,⟨zk aA⟩,⟨zb⟩⟩
 case round =>
  clear H';(try clear c1);obtain⟨aB,rfl,HA,HK1,aA,HB⟩:=hrel
  cases gk with
  |zero=>exact absurd HA.out (by simp[q0l.l0])
  |succ k1 =>
   have H:=HA.out;clear HA;simp only[q0l.l0] at H
   by_cases c4:aB<(l1.length:Int)
   ·rw[if_pos c4] at H;have bV:=decide_eq_true c4;clear c4;obtain⟨cW,H⟩:=q5b H;obtain⟨cV,H⟩:=q5b H;obtain⟨bR,A7,H⟩:=zB H;have cU:=zT (0≤(aB:Int));have cS:=zT (aB<(l1.length:Int));obtain⟨aR,bU,aT,aS⟩:=q5x bP.out aB zd zd;cases bU;replace aT:=zC HB aT;replace aS:=zC HB aS
    try go_wp2_with (first|((with_reducible refine zgd 6 rfl ?_);(try (refine q1w (by rfl) ?_;dsimp only));refine zbx 6 #[.int .i64 0,.int .i64 0] 59 ?_;intro aF hg aZ hbox hb;have aC:=zA hbox;have cP:=zga (w:=w) hg;replace HB:=zbs hb;replace aA:=zlh aA hg hb;obtain⟨aX,aW,aA⟩:=aA;clear hb hbox hg;have cM:=aW.out;have cL:=aX.out;obtain⟨cG,cF,cB,cA⟩:=ze2 aC))
    obtain⟨bF,hx_⟩:∃ x_,x_=(aZ.setCell ⟨aF,0,none⟩ (.int .i64 ((q0e l1 aB).f0))).setCell ⟨aF,1,none⟩ (.int .i64 ((q0e l1 aB).f1)):=⟨_,rfl⟩;have bJ:q0a (bF.heap[aI]?=some (.cells #[.int .i64 aH,.int .i64 aG,.slice aL aE.length aK] 26 (0,0))):=⟨by rw[hx_];exact zkf aA⟩;have bI:q0a (bF.heap[aF]?=some (.cells #[.int .i64 ((q0e l1 aB).f0),.int .i64 ((q0e l1 aB).f1)] 59 (0,0))):=⟨by rw[hx_];exact zkp aC⟩;have bH:q0a (Below w.heap.size w bF):=⟨by rw[hx_];exact zb⟩;(try clear aA aC HB);rw[← hx_];clear hx_;have aA:=bJ;have aC:=bI;have HB:=bH;clear bJ bI bH;replace aA:=q4h aA;replace aC:=q4h aC;replace HB:=z_b HB
    by_cases c8:bR=true
    ·subst c8;rw[if_pos rfl] at H
     by_cases c9:aB>0
     ·rw[if_pos c9] at H;have aY:decide (0<aB)=true:=decide_eq_true c9;clear c9;obtain⟨aJ,aM⟩:∃ j_:Int,(wrap64 (aB-1))=j_:=⟨_,rfl⟩
      replace H:(if 0≤(aJ) then(if (aJ)<(l1.length:Int) then(if ((q0e l1 aB).f0)≤((q0e l1 (aJ)).f0) then(some false) else((q0q.f ((q0e l1 aB).f1) 1 10000).bind fun aU=>(if aU=true then(q0l.l0 k1 l1 l1 (l1.length:Int) (wrap64 (aB+1)) aH aG aE) else(some false)))) else(none)) else(none))=some r:=by first|(rw[aM] at H;exact H)|(simp only[aM] at H ⊢;exact H)
      (try rw[aM] at A7);have cH:(IntKind.i64.wrap (aB-1))=aJ:=(q2n _).trans aM;obtain⟨cO,H⟩:=q5b H;obtain⟨cN,H⟩:=q5b H;(try simp only[aY]);have cT:=zT (0≤((aJ):Int));have cR:=zT ((aJ)<(l1.length:Int));obtain⟨bL,bT,aQ,aP⟩:=q5x bP.out (aJ) zd zd;obtain rfl:aR=bL:=(by injection bT);refine q3g (n:=26) (S:=fun w'=>w'.cell? ⟨aI,0,none⟩=some (.int .i64 aH)∧w'.cell? ⟨aI,1,none⟩=some (.int .i64 aG)∧w'.cell? ⟨aI,2,none⟩=some (.slice aL aE.length aK)∧w'.cell? ⟨aF,0,none⟩=some (.int .i64 ((q0e l1 aB).f0))∧w'.cell? ⟨aF,1,none⟩=some (.int .i64 ((q0e l1 aB).f1))∧w'.cell? (aR.add (((aJ)).toNat * 2))=some (.int .i64 ((q0e l1 (aJ)).f0))∧w'.cell? ⟨(aR.add (((aJ)).toNat * 2)).block,(aR.add (((aJ)).toNat * 2)).off+1,none⟩=some (.int .i64 ((q0e l1 (aJ)).f1))) (ds:=[]) _ (by kernel_rfl) rfl rfl ⟨zq aA 0,zq aA 1,zq aA 2,zq aC 0,zq aC 1,(zC HB aQ),(zC HB aP)⟩ (fun hHeld=>?_);refine q1m q0l.q9n q0l.q6y (fun HT_ HW_=>?_);generalize bF.drew=dE at aA aC HB hHeld ⊢;refine z_p 1 ?_;refine zt 0 14 HT_ HW_ hHeld ?_;refine zt 2 16 HT_ HW_ hHeld ?_;refine zo 3 17 HT_ (fun K hK=>?_);refine zgo Try.func57 #[.agg #[.int .i64 aH,.int .i64 aG,.slice aL aE.length aK],.int .i64 ((q0e l1 aB).f0)] ?_
      with_reducible refine(q1r.calls k1 aH aG _ _ aE ((q0e l1 aB).f0) true _ ?s1 ?s2 A7.out).mono ?_
      (case s1=>exact zCb aN);(case s2=>exact aO.out);rintro e dD ⟨rfl,hb⟩;refine⟨_,rfl,?_⟩;replace aA:=zkb aA hb;replace aC:=zA (q1f (g:=aF) (o:=.cells #[.int .i64 ((q0e l1 aB).f0),.int .i64 ((q0e l1 aB).f1)] 59 (0,0)) (zk aC) hb);replace HB:=zbs hb;(try clear hb);refine hK.out _ _ ⟨zq aA 0,zq aA 1,zq aA 2,zq aC 0,zq aC 1,(zC HB aQ),(zC HB aP)⟩ (fun hHeld=>?_);clear hK K;refine q1j zV ?_;refine z_p 4 ?_;refine z_p 5 ?_;refine z_p 6 ?_;refine z_p 7 ?_;refine z_p 8 ?_;refine z_p 9 ?_;refine z_p 11 ?_;refine z_p 12 ?_;refine z_p 13 ?_;refine z_p 14 ?_;refine z_p 15 ?_;refine zt 10 24 HT_ HW_ hHeld ?_;refine zt 16 30 HT_ HW_ hHeld ?_;refine z_p 17 ?_;refine z_p 18 ?_;refine z_p 19 ?_;refine z_p 20 ?_
      by_cases c13:((q0e l1 aB).f0)≤((q0e l1 (aJ)).f0)
      ·rw[if_pos c13] at H;have aV:=decide_eq_true c13;clear c13;obtain rfl:=zI H;(try simp only[aV]);refine z_u 21 ?_;refine z_u 22 ?_;refine z_u 23 ?_;refine z_u 24 ?_;refine z_p 25 ?_;refine q4j (q2e HT_.out (by kernel_rfl)) ?_
       try go_wp2
       go_ret;exact⟨by first|rfl|(simp[q1o,q1n] <;> rfl)|(simp only[←aM];first|rfl|(simp[q1o,q1n] <;> rfl))|(simp[*,q1o,q1n] <;> rfl),zb⟩
      ·rw[if_neg c13] at H;have aV:=decide_eq_false c13;clear c13;obtain⟨aU,cJ,H⟩:=zB H;(try simp only[aV]);refine z_p 21 ?_;refine zt 22 36 HT_ HW_ hHeld ?_;refine zo 23 37 HT_ (fun K hK=>?_);refine zgo Try.func22 #[.int .i64 ((q0e l1 aB).f1),.int .i64 1,.int .i64 10000] ?_
       with_reducible refine(q0q.calls ((q0e l1 aB).f1) 1 10000 aU _ cJ.out).mono ?_
       rintro e w' ⟨rfl,⟨nd,rfl⟩⟩;refine⟨_,rfl,?_⟩;refine hK.out _ _ ⟨zq aA 0,zq aA 1,zq aA 2,zq aC 0,zq aC 1,(zC HB aQ :),(zC HB aP :)⟩ (fun hHeld=>?_);clear hK K;refine q1j zV ?_;refine z_p 24 ?_;refine z_p 25 ?_;refine q4j (q2e HT_.out (by kernel_rfl)) ?_
       by_cases bE:aU=true
       ·subst bE;rw[if_pos rfl] at H;have H':=zA H;clear H
        try go_wp2
        go_roundg k1
        case measure=>have:=HK1.out;omega
        case rel=>exact⟨(wrap64 (aB+1)),zr,H',⟨by have:=HK1.out;omega⟩,⟨zk aA⟩,⟨zb⟩⟩
       ·replace bE:=Bool.eq_false_iff.mpr bE;subst bE;rw[if_neg zNo] at H;obtain rfl:=zI H
        try go_wp2
        go_ret;exact⟨by first|rfl|(simp[q1o,q1n] <;> rfl)|(simp only[←aM];first|rfl|(simp[q1o,q1n] <;> rfl))|(simp[*,q1o,q1n] <;> rfl),zb⟩
     ·rw[if_neg c9] at H;have aY:decide (0<aB)=false:=decide_eq_false c9;clear c9;obtain⟨bG,cI,H⟩:=zB H;(try simp only[aY]);refine q3g (n:=26) (S:=fun w'=>w'.cell? ⟨aI,0,none⟩=some (.int .i64 aH)∧w'.cell? ⟨aI,1,none⟩=some (.int .i64 aG)∧w'.cell? ⟨aI,2,none⟩=some (.slice aL aE.length aK)∧w'.cell? ⟨aF,0,none⟩=some (.int .i64 ((q0e l1 aB).f0))∧w'.cell? ⟨aF,1,none⟩=some (.int .i64 ((q0e l1 aB).f1))) (ds:=[]) _ (by kernel_rfl) rfl rfl ⟨zq aA 0,zq aA 1,zq aA 2,zq aC 0,zq aC 1⟩ (fun hHeld=>?_);refine q1m q0l.q9n q0l.q6y (fun HT_ HW_=>?_);generalize bF.drew=dC at aA aC HB hHeld ⊢;refine z_p 1 ?_;refine zt 0 14 HT_ HW_ hHeld ?_;refine zt 2 16 HT_ HW_ hHeld ?_;refine zo 3 17 HT_ (fun K hK=>?_);refine zgo Try.func57 #[.agg #[.int .i64 aH,.int .i64 aG,.slice aL aE.length aK],.int .i64 ((q0e l1 aB).f0)] ?_
      with_reducible refine(q1r.calls k1 aH aG _ _ aE ((q0e l1 aB).f0) true _ ?s1 ?s2 A7.out).mono ?_
      (case s1=>exact zCb aN);(case s2=>exact aO.out);rintro e dB ⟨rfl,hb⟩;refine⟨_,rfl,?_⟩;replace aA:=zkb aA hb;replace aC:=zA (q1f (g:=aF) (o:=.cells #[.int .i64 ((q0e l1 aB).f0),.int .i64 ((q0e l1 aB).f1)] 59 (0,0)) (zk aC) hb);replace HB:=zbs hb;(try clear hb);refine hK.out _ _ ⟨zq aA 0,zq aA 1,zq aA 2,zq aC 0,zq aC 1⟩ (fun hHeld=>?_);clear hK K;refine q1j zV ?_;refine z_p 4 ?_;refine z_p 5 ?_;refine z_p 6 ?_;refine z_p 7 ?_;refine z_p 8 ?_;refine z_u 9 ?_;refine z_u 10 ?_;refine z_u 11 ?_;refine z_u 12 ?_;refine z_u 13 ?_;refine z_u 14 ?_;refine z_u 15 ?_;refine z_u 16 ?_;refine z_u 17 ?_;refine z_p 18 ?_;refine z_p 19 ?_;refine z_p 20 ?_;refine z_p 21 ?_;refine zt 22 36 HT_ HW_ hHeld ?_;refine zo 23 37 HT_ (fun K hK=>?_);refine zgo Try.func22 #[.int .i64 ((q0e l1 aB).f1),.int .i64 1,.int .i64 10000] ?_
      with_reducible refine(q0q.calls ((q0e l1 aB).f1) 1 10000 bG _ cI.out).mono ?_
      rintro e w' ⟨rfl,⟨nd,rfl⟩⟩;refine⟨_,rfl,?_⟩;refine hK.out _ _ ⟨zq aA 0,zq aA 1,zq aA 2,zq aC 0,zq aC 1⟩ (fun hHeld=>?_);clear hK K;refine q1j zV ?_;refine z_p 24 ?_;refine z_p 25 ?_;refine q4j (q2e HT_.out (by kernel_rfl)) ?_
      by_cases bD:bG=true
      ·subst bD;rw[if_pos rfl] at H;have H':=zA H;clear H
       try go_wp2
       go_roundg k1
       case measure=>have:=HK1.out;omega
       case rel=>exact⟨(wrap64 (aB+1)),zr,H',⟨by have:=HK1.out;omega⟩,⟨zk aA⟩,⟨zb⟩⟩
      ·replace bD:=Bool.eq_false_iff.mpr bD;subst bD;rw[if_neg zNo] at H;obtain rfl:=zI H
       try go_wp2
       go_ret;exact⟨zE,zb⟩
    ·replace c8:=Bool.eq_false_iff.mpr c8;subst c8;rw[if_neg zNo] at H;obtain rfl:=zI H;refine q3g (n:=26) (S:=fun w'=>w'.cell? ⟨aI,0,none⟩=some (.int .i64 aH)∧w'.cell? ⟨aI,1,none⟩=some (.int .i64 aG)∧w'.cell? ⟨aI,2,none⟩=some (.slice aL aE.length aK)∧w'.cell? ⟨aF,0,none⟩=some (.int .i64 ((q0e l1 aB).f0))∧w'.cell? ⟨aF,1,none⟩=some (.int .i64 ((q0e l1 aB).f1))) (ds:=[]) _ (by kernel_rfl) rfl rfl ⟨zq aA 0,zq aA 1,zq aA 2,zq aC 0,zq aC 1⟩ (fun hHeld=>?_);refine q1m q0l.q9n q0l.q6y (fun HT_ HW_=>?_);generalize bF.drew=dA at aA aC HB hHeld ⊢;refine z_p 1 ?_;refine zt 0 14 HT_ HW_ hHeld ?_;refine zt 2 16 HT_ HW_ hHeld ?_;refine zo 3 17 HT_ (fun K hK=>?_);refine zgo Try.func57 #[.agg #[.int .i64 aH,.int .i64 aG,.slice aL aE.length aK],.int .i64 ((q0e l1 aB).f0)] ?_
     with_reducible refine(q1r.calls k1 aH aG _ _ aE ((q0e l1 aB).f0) false _ ?s1 ?s2 A7.out).mono ?_
     (case s1=>exact zCb aN);(case s2=>exact aO.out);rintro e cZ ⟨rfl,hb⟩;refine⟨_,rfl,?_⟩;replace aA:=zkb aA hb;replace aC:=zA (q1f (g:=aF) (o:=.cells #[.int .i64 ((q0e l1 aB).f0),.int .i64 ((q0e l1 aB).f1)] 59 (0,0)) (zk aC) hb);replace HB:=zbs hb;(try clear hb);refine hK.out _ _ ⟨zq aA 0,zq aA 1,zq aA 2,zq aC 0,zq aC 1⟩ (fun hHeld=>?_);clear hK K;refine q1j zV ?_;refine z_p 4 ?_;refine z_p 5 ?_;refine z_u 6 ?_;refine z_u 7 ?_;refine z_u 8 ?_;refine z_u 9 ?_;refine z_u 10 ?_;refine z_u 11 ?_;refine z_u 12 ?_;refine z_u 13 ?_;refine z_u 14 ?_;refine z_u 15 ?_;refine z_u 16 ?_;refine z_u 17 ?_;refine z_u 18 ?_;refine z_p 19 ?_;refine z_p 20 ?_;refine z_u 21 ?_;refine z_u 22 ?_;refine z_u 23 ?_;refine z_u 24 ?_;refine z_p 25 ?_;refine q4j (q2e HT_.out (by kernel_rfl)) ?_
     try go_wp2
     go_ret;exact⟨zE,zb⟩
   ·rw[if_neg c4] at H;have bV:=decide_eq_false c4;clear c4;obtain⟨bS,bQ,H⟩:=zB H;obtain⟨cE,cD,cC,bZ,bY,bX⟩:=ze3 aA
    by_cases bC:bS=true
    ·subst bC;rw[if_pos rfl] at H;obtain rfl:=zI H
     go_wp2_with (first|((with_reducible refine zgf 58 rfl ?_);refine zgl 42 Try.func58 #[.agg #[.int .i64 aH,.int .i64 aG,.slice aL aE.length aK]] ?_;(with_reducible refine(q3l.calls k1 aH aG _ _ aE true _ ?s1 ?s2 bQ.out).mono ?_);(case s1=>exact zCb aN);(case s2=>exact aO.out);rintro e cY ⟨rfl,hb⟩;refine⟨_,rfl,?_⟩;replace aA:=zkb aA hb;replace HB:=zbs hb;(try clear hb)))
     go_ret;exact⟨zE,zb⟩
    ·replace bC:=Bool.eq_false_iff.mpr bC;subst bC;rw[if_neg zNo] at H;obtain rfl:=zI H
     go_wp2_with (first|((with_reducible refine zgf 58 rfl ?_);refine zgl 42 Try.func58 #[.agg #[.int .i64 aH,.int .i64 aG,.slice aL aE.length aK]] ?_;(with_reducible refine(q3l.calls k1 aH aG _ _ aE false _ ?s1 ?s2 bQ.out).mono ?_);(case s1=>exact zCb aN);(case s2=>exact aO.out);rintro e cX ⟨rfl,hb⟩;refine⟨_,rfl,?_⟩;replace aA:=zkb aA hb;replace HB:=zbs hb;(try clear hb)))
     go_ret;exact⟨zE,zb⟩

def q4m.f (b:Int) (a:Int):Option (Bool):=(q0q.f a 1 10).bind fun c=>(if c=true then((q0q.f b 0 (wrap64 (a-1))).bind fun d=>(some d)) else(some false))
theorem q4m.calls (aB:Int) (aA:Int) (r:Bool) (w:World) (h:q4m.f aB aA=some r) :
  Calls Try.prog 41 #[.agg #[.int .i64 aB,.int .i64 aA]] w fun e w'=>e=.returned (.bool r)∧Below w.heap.size w w':=by
 have hu28:=Try.underlying28;have HB:=zA (Below.refl w.heap.size w);have H:=h;clear h;unfold q4m.f at H;obtain⟨aH,A2,H⟩:=zB H;go_enter Try.func41,Try.ntmps41
 by_cases c3:aH=true
 ·subst c3;rw[if_pos rfl] at H;obtain⟨aG,A4,H⟩:=zB H;obtain rfl:=zI H
  go_wp2_with (first|((with_reducible refine zgd 1 rfl ?_);refine zbx 1 #[.int .i64 aB,.int .i64 aA] 28 ?_;intro aD hg w5 hbox hb;have aC:=zA hbox;have aF:=zga (w:=w) hg;replace HB:=zbs hb;clear hb hbox hg;obtain⟨aP,aO,aL,aK⟩:=ze2 aC)|((with_reducible refine zgf 22 rfl ?_);refine zgl 5 Try.func22 #[.int .i64 aA,.int .i64 1,.int .i64 10] ?_;(with_reducible refine(q0q.calls aA 1 10 true _ A2.out).mono ?_);rintro e w' ⟨rfl,⟨nd,rfl⟩⟩;refine⟨_,rfl,?_⟩)|(go_at_call 22;(with_reducible refine(q0q.calls aB 0 (wrap64 (aA-1)) aG _ A4.out).mono ?_);rintro e w' ⟨rfl,⟨nd,rfl⟩⟩))
  go_ret;exact⟨zE,zb⟩
 ·replace c3:=Bool.eq_false_iff.mpr c3;subst c3;rw[if_neg zNo] at H;obtain rfl:=zI H
  go_wp2_with (first|((with_reducible refine zgd 1 rfl ?_);refine zbx 1 #[.int .i64 aB,.int .i64 aA] 28 ?_;intro aD hg w7 hbox hb;have aC:=zA hbox;have aF:=zga (w:=w) hg;replace HB:=zbs hb;clear hb hbox hg;obtain⟨aN,aM,aJ,aI⟩:=ze2 aC)|((with_reducible refine zgf 22 rfl ?_);refine zgl 5 Try.func22 #[.int .i64 aA,.int .i64 1,.int .i64 10] ?_;(with_reducible refine(q0q.calls aA 1 10 false _ A2.out).mono ?_);rintro e w' ⟨rfl,⟨nd,rfl⟩⟩;refine⟨_,rfl,?_⟩))
  go_ret;exact⟨zE,zb⟩

def q0u.l0:Nat→List (S95)→List (S95)→Int→Int→Option (Bool)
  |0,_,_,_,_=>none
  |k+1,c,b,d,a=>if a<d then(if 0≤a then(if a<(b.length:Int) then((q0q.f ((q0n b a).f0) 1 99).bind fun e=>(if e=true then(if a>0 then(if 0≤(wrap64 (a-1)) then(if (wrap64 (a-1))<(c.length:Int) then(if ((q0n b a).f0)≤((q0n c (wrap64 (a-1))).f0) then(some false) else((q0q.f ((q0n b a).f1) 0 100).bind fun f=>(if f=true then((q0q.f ((q0n b a).f2) 1 10).bind fun g=>(if g=true then(q0u.l0 k c b d (wrap64 (a+1))) else(some false))) else(some false)))) else(none)) else(none)) else((q0q.f ((q0n b a).f1) 0 100).bind fun h=>(if h=true then((q0q.f ((q0n b a).f2) 1 10).bind fun i=>(if i=true then(q0u.l0 k c b d (wrap64 (a+1))) else(some false))) else(some false)))) else(some false))) else(none)) else(none)) else((q0q.f (c.length:Int) 1 8).bind fun j=>(some j))
def q0u.f (k:Nat) (a:List (S95)):Option (Bool):=q0u.l0 k a a (a.length:Int) 0
def q0u.T4:Bool × List (List Nat × List Nat):=(true,[([],[]),([0],[0]),([1],[1]),([2],[2]),([3,2],[3]),([4],[4]),([5,4],[4,5]),([6,4,4],[4,6]),([7],[7]),([8,7],[7,8]),([7],[7]),([7],[7]),([11,7],[7,11]),([10,12,7],[7,10,12]),([13,7],[7,13]),([14,7],[7,14]),([9,15,7],[7,9,15]),([7,16,4],[4,7,16]),([4,17],[4,17]),([18,7],[18]),([19],[19]),([20,19],[19,20]),([21,19,19],[19,21]),([22,19],[19,22]),([19,23],[19,23]),([24,22],[24]),([25],[25]),([26,25],[25,26]),([27,25,25],[25,27]),([28,25],[25,28]),([25,29],[25,29])])
def q0u.B4:List Nat:=[0,1,3,7,15,31,63,127,255,511,255,255,2303,7423,15615,31999,65535,131071,262143,524287,1048575,2097151,4194303,8388607,16777215,33554431,67108863,134217727,268435455,536870911,1073741823]
theorem q0u.q9n:q6q .any (opsOf Try.f62 4)=q0u.T4:=by kernel_rfl
theorem q0u.q6y:q4a q0u.T4.2 q0u.B4=true:=by kernel_rfl
theorem q0u.calls (k:Nat) (A0:Option Addr) (c0:Nat) (l0:List (S95)) (r:Bool) (w:World) (bG:Kd.C k95 w A0 l0.length l0) (bH:l0.length≤c0) (h:q0u.f k l0=some r) :
  Calls Try.prog 62 #[.slice A0 l0.length c0] w fun e w'=>e=.returned (.bool r)∧Below w.heap.size w w':=by
 have hu95:=Try.underlying95;have bI:=zA bG;have cQ:=zA bH;clear bG bH;have HB:=zA (Below.refl w.heap.size w);have H:=h;clear h;unfold q0u.f at H;have H':=zA H;clear H;go_enter Try.func62,Try.ntmps62;go_wp2
 go_loopg [7] k (fun kq v7 w'=>∃ (aB:Int),v7=.int .i64 aB∧q0a (q0u.l0 kq l0 l0 (l0.length:Int) aB=some r)∧q0a (kq≤k)∧q0a (Below w.heap.size w w'))
 case atStart=>exact⟨(0),zr,H',⟨Nat.le_refl _⟩,⟨zb⟩⟩
 case round =>
  clear H';obtain⟨aB,rfl,HA,HK1,HB⟩:=hrel
  cases gk with
  |zero=>exact absurd HA.out (by simp[q0u.l0])
  |succ k1 =>
   have H:=HA.out;clear HA;simp only[q0u.l0] at H
   by_cases c2:aB<(l0.length:Int)
   ·rw[if_pos c2] at H;have bN:=decide_eq_true c2;clear c2;obtain⟨cM,H⟩:=q5b H;obtain⟨cL,H⟩:=q5b H;obtain⟨bJ,A5,H⟩:=zB H;have cJ:=zT (0≤(aB:Int));have cH:=zT (aB<(l0.length:Int));obtain⟨aF,bM,aO,aN,aM,aL⟩:=q7o bI.out aB zd zd;cases bM;replace aO:=zC HB aO;replace aN:=zC HB aN;replace aM:=zC HB aM;replace aL:=zC HB aL
    try go_wp2_with (first|((with_reducible refine zgd 4 rfl ?_);refine zbx 4 #[.int .i64 0,.int .i64 0,.int .i64 0,.bool false] 95 ?_;intro aD hg aY hbox hb;have aA:=zA hbox;have cF:=zga (w:=w) hg;replace HB:=zbs hb;clear hb hbox hg;obtain⟨bV,bU,bT,bS,bR,bQ,bP,bO⟩:=ze4 aA))
    have bC:q0a (((((aY.setCell ⟨aD,0,none⟩ (.int .i64 ((q0n l0 aB).f0))).setCell ⟨aD,1,none⟩ (.int .i64 ((q0n l0 aB).f1))).setCell ⟨aD,2,none⟩ (.int .i64 ((q0n l0 aB).f2))).setCell ⟨aD,3,none⟩ (.bool ((q0n l0 aB).f3))).heap[aD]?=some (.cells #[.int .i64 ((q0n l0 aB).f0),.int .i64 ((q0n l0 aB).f1),.int .i64 ((q0n l0 aB).f2),.bool ((q0n l0 aB).f3)] 95 (0,0))):=⟨zkp aA⟩;have bB:q0a (Below w.heap.size w ((((aY.setCell ⟨aD,0,none⟩ (.int .i64 ((q0n l0 aB).f0))).setCell ⟨aD,1,none⟩ (.int .i64 ((q0n l0 aB).f1))).setCell ⟨aD,2,none⟩ (.int .i64 ((q0n l0 aB).f2))).setCell ⟨aD,3,none⟩ (.bool ((q0n l0 aB).f3)))):=⟨zb⟩;(try clear aA HB);generalize ((((aY.setCell ⟨aD,0,none⟩ (.int .i64 ((q0n l0 aB).f0))).setCell ⟨aD,1,none⟩ (.int .i64 ((q0n l0 aB).f1))).setCell ⟨aD,2,none⟩ (.int .i64 ((q0n l0 aB).f2))).setCell ⟨aD,3,none⟩ (.bool ((q0n l0 aB).f3)))=aX at bC bB ⊢;have aA:=bC;have HB:=bB;clear bC bB;replace aA:=q4h aA;replace HB:=z_b HB
    by_cases c6:bJ=true
    ·subst c6;rw[if_pos rfl] at H
     by_cases c7:aB>0
     ·rw[if_pos c7] at H;have aS:decide (0<aB)=true:=decide_eq_true c7;clear c7;obtain⟨aE,aK⟩:∃ j_:Int,(wrap64 (aB-1))=j_:=⟨_,rfl⟩
      replace H:(if 0≤(aE) then(if (aE)<(l0.length:Int) then(if ((q0n l0 aB).f0)≤((q0n l0 (aE)).f0) then(some false) else((q0q.f ((q0n l0 aB).f1) 0 100).bind fun aQ=>(if aQ=true then((q0q.f ((q0n l0 aB).f2) 1 10).bind fun aP=>(if aP=true then(q0u.l0 k1 l0 l0 (l0.length:Int) (wrap64 (aB+1))) else(some false))) else(some false)))) else(none)) else(none))=some r:=by first|(rw[aK] at H;exact H)|(simp only[aK] at H ⊢;exact H)
      (try rw[aK] at A5);have cD:(IntKind.i64.wrap (aB-1))=aE:=(q2n _).trans aK;obtain⟨cK,H⟩:=q5b H;obtain⟨cE,H⟩:=q5b H;(try simp only[aS]);have cI:=zT (0≤((aE):Int));have cG:=zT ((aE)<(l0.length:Int));obtain⟨bE,bL,aJ,aI,aH,aG⟩:=q7o bI.out (aE) zd zd;obtain rfl:aF=bE:=(by injection bL);refine q3g (n:=31) (S:=fun w'=>w'.cell? ⟨aD,0,none⟩=some (.int .i64 ((q0n l0 aB).f0))∧w'.cell? ⟨aD,1,none⟩=some (.int .i64 ((q0n l0 aB).f1))∧w'.cell? ⟨aD,2,none⟩=some (.int .i64 ((q0n l0 aB).f2))∧w'.cell? ⟨aD,3,none⟩=some (.bool ((q0n l0 aB).f3))∧w'.cell? (aF.add (((aE)).toNat * 4))=some (.int .i64 ((q0n l0 (aE)).f0))∧w'.cell? ⟨(aF.add (((aE)).toNat * 4)).block,(aF.add (((aE)).toNat * 4)).off+1,none⟩=some (.int .i64 ((q0n l0 (aE)).f1))∧w'.cell? ⟨(aF.add (((aE)).toNat * 4)).block,(aF.add (((aE)).toNat * 4)).off+2,none⟩=some (.int .i64 ((q0n l0 (aE)).f2))∧w'.cell? ⟨(aF.add (((aE)).toNat * 4)).block,(aF.add (((aE)).toNat * 4)).off+3,none⟩=some (.bool ((q0n l0 (aE)).f3))) (ds:=[]) _ (by kernel_rfl) rfl rfl ⟨zq aA 0,zq aA 1,zq aA 2,zq aA 3,(zC HB aJ),(zC HB aI),(zC HB aH),(zC HB aG)⟩ (fun hHeld=>?_);refine q1m q0u.q9n q0u.q6y (fun HT_ HW_=>?_)
      generalize aX.drew=cP at aA HB hHeld ⊢;refine z_p 0 ?_;refine zt 1 13 HT_ HW_ hHeld ?_;refine zo 2 14 HT_ (fun K hK=>?_);refine zgo Try.func22 #[.int .i64 ((q0n l0 aB).f0),.int .i64 1,.int .i64 99] ?_
      with_reducible refine(q0q.calls ((q0n l0 aB).f0) 1 99 true _ A5.out).mono ?_
      rintro e w' ⟨rfl,⟨nd,rfl⟩⟩;refine⟨_,rfl,?_⟩;refine hK.out _ _ ⟨zq aA 0,zq aA 1,zq aA 2,zq aA 3,(zC HB aJ :),(zC HB aI :),(zC HB aH :),(zC HB aG :)⟩ (fun hHeld=>?_);clear hK K;refine q1j zV ?_;refine z_p 3 ?_;refine z_p 4 ?_;refine z_p 5 ?_;refine z_p 6 ?_;refine z_p 7 ?_;refine z_p 8 ?_;refine z_p 10 ?_;refine z_p 11 ?_;refine z_p 12 ?_;refine z_p 13 ?_;refine z_p 14 ?_;refine zt 9 21 HT_ HW_ hHeld ?_;refine zt 15 27 HT_ HW_ hHeld ?_;refine z_p 16 ?_;refine z_p 17 ?_;refine z_p 18 ?_;refine z_p 19 ?_
      by_cases c11:((q0n l0 aB).f0)≤((q0n l0 (aE)).f0)
      ·rw[if_pos c11] at H;have aR:=decide_eq_true c11;clear c11;obtain rfl:=zI H;(try simp only[aR]);refine z_u 20 ?_;refine z_u 21 ?_;refine z_u 22 ?_;refine z_u 23 ?_;refine z_p 24 ?_;refine z_p 25 ?_;refine z_u 26 ?_;refine z_u 27 ?_;refine z_u 28 ?_;refine z_u 29 ?_;refine z_p 30 ?_;refine q4j (q2e HT_.out (by kernel_rfl)) ?_
       try go_wp2
       go_ret;exact⟨by first|rfl|(simp[q1o,q1n] <;> rfl)|(simp only[←aK];first|rfl|(simp[q1o,q1n] <;> rfl))|(simp[*,q1o,q1n] <;> rfl),zb⟩
      ·rw[if_neg c11] at H;have aR:=decide_eq_false c11;clear c11;obtain⟨aQ,cB,H⟩:=zB H;(try simp only[aR]);refine z_p 20 ?_;refine zt 21 33 HT_ HW_ hHeld ?_;refine zo 22 34 HT_ (fun K hK=>?_);refine zgo Try.func22 #[.int .i64 ((q0n l0 aB).f1),.int .i64 0,.int .i64 100] ?_
       with_reducible refine(q0q.calls ((q0n l0 aB).f1) 0 100 aQ _ cB.out).mono ?_
       rintro e w' ⟨rfl,⟨nd,rfl⟩⟩;refine⟨_,rfl,?_⟩;refine hK.out _ _ ⟨zq aA 0,zq aA 1,zq aA 2,zq aA 3,(zC HB aJ :),(zC HB aI :),(zC HB aH :),(zC HB aG :)⟩ (fun hHeld=>?_);clear hK K;refine q1j zV ?_;refine z_p 23 ?_;refine z_p 24 ?_;refine z_p 25 ?_
       by_cases aW:aQ=true
       ·subst aW;rw[if_pos rfl] at H;obtain⟨aP,cA,H⟩:=zB H;refine z_p 26 ?_;refine zt 27 39 HT_ HW_ hHeld ?_;refine zo 28 40 HT_ (fun K hK=>?_);refine zgo Try.func22 #[.int .i64 ((q0n l0 aB).f2),.int .i64 1,.int .i64 10] ?_
        with_reducible refine(q0q.calls ((q0n l0 aB).f2) 1 10 aP _ cA.out).mono ?_
        rintro e w' ⟨rfl,⟨nd,rfl⟩⟩;refine⟨_,rfl,?_⟩;refine hK.out _ _ ⟨zq aA 0,zq aA 1,zq aA 2,zq aA 3,(zC HB aJ :),(zC HB aI :),(zC HB aH :),(zC HB aG :)⟩ (fun hHeld=>?_);clear hK K;refine q1j zV ?_;refine z_p 29 ?_;refine z_p 30 ?_;refine q4j (q2e HT_.out (by kernel_rfl)) ?_
        by_cases aV:aP=true
        ·subst aV;rw[if_pos rfl] at H;have H':=zA H;clear H
         try go_wp2
         go_roundg k1
         case measure=>have:=HK1.out;omega
         case rel=>exact⟨(wrap64 (aB+1)),zr,H',⟨by have:=HK1.out;omega⟩,⟨zb⟩⟩
        ·replace aV:=Bool.eq_false_iff.mpr aV;subst aV;rw[if_neg zNo] at H;obtain rfl:=zI H
         try go_wp2
         go_ret;exact⟨by first|rfl|(simp[q1o,q1n] <;> rfl)|(simp only[←aK];first|rfl|(simp[q1o,q1n] <;> rfl))|(simp[*,q1o,q1n] <;> rfl),zb⟩
       ·replace aW:=Bool.eq_false_iff.mpr aW;subst aW;rw[if_neg zNo] at H;obtain rfl:=zI H;refine z_u 26 ?_;refine z_u 27 ?_;refine z_u 28 ?_;refine z_u 29 ?_;refine z_p 30 ?_;refine q4j (q2e HT_.out (by kernel_rfl)) ?_
        try go_wp2
        go_ret;exact⟨by first|rfl|(simp[q1o,q1n] <;> rfl)|(simp only[←aK];first|rfl|(simp[q1o,q1n] <;> rfl))|(simp[*,q1o,q1n] <;> rfl),zb⟩
     ·rw[if_neg c7] at H;have aS:decide (0<aB)=false:=decide_eq_false c7;clear c7;obtain⟨bA,bZ,H⟩:=zB H;(try simp only[aS]);refine q3g (n:=31) (S:=fun w'=>w'.cell? ⟨aD,0,none⟩=some (.int .i64 ((q0n l0 aB).f0))∧w'.cell? ⟨aD,1,none⟩=some (.int .i64 ((q0n l0 aB).f1))∧w'.cell? ⟨aD,2,none⟩=some (.int .i64 ((q0n l0 aB).f2))∧w'.cell? ⟨aD,3,none⟩=some (.bool ((q0n l0 aB).f3))) (ds:=[]) _ (by kernel_rfl) rfl rfl ⟨zq aA 0,zq aA 1,zq aA 2,zq aA 3⟩ (fun hHeld=>?_);refine q1m q0u.q9n q0u.q6y (fun HT_ HW_=>?_);generalize aX.drew=cO at aA HB hHeld ⊢;refine z_p 0 ?_;refine zt 1 13 HT_ HW_ hHeld ?_;refine zo 2 14 HT_ (fun K hK=>?_);refine zgo Try.func22 #[.int .i64 ((q0n l0 aB).f0),.int .i64 1,.int .i64 99] ?_
      with_reducible refine(q0q.calls ((q0n l0 aB).f0) 1 99 true _ A5.out).mono ?_
      rintro e w' ⟨rfl,⟨nd,rfl⟩⟩;refine⟨_,rfl,?_⟩;refine hK.out _ _ ⟨zq aA 0,zq aA 1,zq aA 2,zq aA 3⟩ (fun hHeld=>?_);clear hK K;refine q1j zV ?_;refine z_p 3 ?_;refine z_p 4 ?_;refine z_p 5 ?_;refine z_p 6 ?_;refine z_p 7 ?_;refine z_u 8 ?_;refine z_u 9 ?_;refine z_u 10 ?_;refine z_u 11 ?_;refine z_u 12 ?_;refine z_u 13 ?_;refine z_u 14 ?_;refine z_u 15 ?_;refine z_u 16 ?_;refine z_p 17 ?_;refine z_p 18 ?_;refine z_p 19 ?_;refine z_p 20 ?_;refine zt 21 33 HT_ HW_ hHeld ?_;refine zo 22 34 HT_ (fun K hK=>?_);refine zgo Try.func22 #[.int .i64 ((q0n l0 aB).f1),.int .i64 0,.int .i64 100] ?_
      with_reducible refine(q0q.calls ((q0n l0 aB).f1) 0 100 bA _ bZ.out).mono ?_
      rintro e w' ⟨rfl,⟨nd,rfl⟩⟩;refine⟨_,rfl,?_⟩;refine hK.out _ _ ⟨zq aA 0,zq aA 1,zq aA 2,zq aA 3⟩ (fun hHeld=>?_);clear hK K;refine q1j zV ?_;refine z_p 23 ?_;refine z_p 24 ?_;refine z_p 25 ?_
      by_cases aU:bA=true
      ·subst aU;rw[if_pos rfl] at H;obtain⟨aZ,bY,H⟩:=zB H;refine z_p 26 ?_;refine zt 27 39 HT_ HW_ hHeld ?_;refine zo 28 40 HT_ (fun K hK=>?_);refine zgo Try.func22 #[.int .i64 ((q0n l0 aB).f2),.int .i64 1,.int .i64 10] ?_
       with_reducible refine(q0q.calls ((q0n l0 aB).f2) 1 10 aZ _ bY.out).mono ?_
       rintro e w' ⟨rfl,⟨nd,rfl⟩⟩;refine⟨_,rfl,?_⟩;refine hK.out _ _ ⟨zq aA 0,zq aA 1,zq aA 2,zq aA 3⟩ (fun hHeld=>?_);clear hK K;refine q1j zV ?_;refine z_p 29 ?_;refine z_p 30 ?_;refine q4j (q2e HT_.out (by kernel_rfl)) ?_
       by_cases aT:aZ=true
       ·subst aT;rw[if_pos rfl] at H;have H':=zA H;clear H
        try go_wp2
        go_roundg k1
        case measure=>have:=HK1.out;omega
        case rel=>exact⟨(wrap64 (aB+1)),zr,H',⟨by have:=HK1.out;omega⟩,⟨zb⟩⟩
       ·replace aT:=Bool.eq_false_iff.mpr aT;subst aT;rw[if_neg zNo] at H;obtain rfl:=zI H
        try go_wp2
        go_ret;exact⟨zE,zb⟩
      ·replace aU:=Bool.eq_false_iff.mpr aU;subst aU;rw[if_neg zNo] at H;obtain rfl:=zI H;refine z_u 26 ?_;refine z_u 27 ?_;refine z_u 28 ?_;refine z_u 29 ?_;refine z_p 30 ?_;refine q4j (q2e HT_.out (by kernel_rfl)) ?_
       try go_wp2
       go_ret;exact⟨zE,zb⟩
    ·replace c6:=Bool.eq_false_iff.mpr c6;subst c6;rw[if_neg zNo] at H;obtain rfl:=zI H;refine q3g (n:=31) (S:=fun w'=>w'.cell? ⟨aD,0,none⟩=some (.int .i64 ((q0n l0 aB).f0))∧w'.cell? ⟨aD,1,none⟩=some (.int .i64 ((q0n l0 aB).f1))∧w'.cell? ⟨aD,2,none⟩=some (.int .i64 ((q0n l0 aB).f2))∧w'.cell? ⟨aD,3,none⟩=some (.bool ((q0n l0 aB).f3))) (ds:=[]) _ (by kernel_rfl) rfl rfl ⟨zq aA 0,zq aA 1,zq aA 2,zq aA 3⟩ (fun hHeld=>?_);refine q1m q0u.q9n q0u.q6y (fun HT_ HW_=>?_);generalize aX.drew=cN at aA HB hHeld ⊢;refine z_p 0 ?_;refine zt 1 13 HT_ HW_ hHeld ?_;refine zo 2 14 HT_ (fun K hK=>?_);refine zgo Try.func22 #[.int .i64 ((q0n l0 aB).f0),.int .i64 1,.int .i64 99] ?_
     with_reducible refine(q0q.calls ((q0n l0 aB).f0) 1 99 false _ A5.out).mono ?_
     rintro e w' ⟨rfl,⟨nd,rfl⟩⟩;refine⟨_,rfl,?_⟩;refine hK.out _ _ ⟨zq aA 0,zq aA 1,zq aA 2,zq aA 3⟩ (fun hHeld=>?_);clear hK K;refine q1j zV ?_;refine z_p 3 ?_;refine z_p 4 ?_;refine z_u 5 ?_;refine z_u 6 ?_;refine z_u 7 ?_;refine z_u 8 ?_;refine z_u 9 ?_;refine z_u 10 ?_;refine z_u 11 ?_;refine z_u 12 ?_;refine z_u 13 ?_;refine z_u 14 ?_;refine z_u 15 ?_;refine z_u 16 ?_;refine z_u 17 ?_;refine z_p 18 ?_;refine z_p 19 ?_;refine z_u 20 ?_;refine z_u 21 ?_;refine z_u 22 ?_;refine z_u 23 ?_;refine z_p 24 ?_;refine z_p 25 ?_;refine z_u 26 ?_;refine z_u 27 ?_;refine z_u 28 ?_;refine z_u 29 ?_;refine z_p 30 ?_;refine q4j (q2e HT_.out (by kernel_rfl)) ?_
     try go_wp2
     go_ret;exact⟨zE,zb⟩
   ·rw[if_neg c2] at H;have bN:=decide_eq_false c2;clear c2;obtain⟨bK,bX,H⟩:=zB H;obtain rfl:=zI H
    go_wp2_with (first|((with_reducible refine zgf 22 rfl ?_);refine zgl 46 Try.func22 #[.int .i64 (l0.length:Int),.int .i64 1,.int .i64 8] ?_;(with_reducible refine(q0q.calls (l0.length:Int) 1 8 bK _ bX.out).mono ?_);rintro e w' ⟨rfl,⟨nd,rfl⟩⟩;refine⟨_,rfl,?_⟩))
    go_ret;exact⟨zE,zb⟩

def q3n.f (k:Nat) (a:Int) (b:Int) (c:List Int) (d:Int) (e:Int) (f:List (S95)) (g:List Bool):Option (Bool):=(q1r.f k a b c d).bind fun h=>(if h=true then((q0u.f k f).bind fun i=>(if i=true then((q0q.f e 0 10000).bind fun j=>(if j=true then(some (decide ((g.length:Int)≤10))) else(some false))) else(some false))) else(some false))
theorem q3n.calls (k:Nat) (aH:Int) (aG:Int) (aK:Option Addr) (aJ:Nat) (aC:List Int) (aF:Int) (aM:Int) (aQ:Option Addr) (aO:Nat) (aI:List (S95)) (aP:Option Addr) (aN:Nat) (aL:List Bool) (r:Bool) (w:World) (bB:Kd.C (Kd.int .i64) w aK aC.length aC) (bE:aC.length≤aJ) (bA:Kd.C k95 w aQ aI.length aI) (bD:aI.length≤aO) (aZ:Kd.C Kd.bool w aP aL.length aL) (bC:aL.length≤aN) (h:q3n.f k aH aG aC aF aM aI aL=some r) :
  Calls Try.prog 42 #[.agg #[.int .i64 aH,.int .i64 aG,.slice aK aC.length aJ],.agg #[.int .i64 aF,.int .i64 aM,.slice aQ aI.length aO,.slice aP aL.length aN]] w fun e w'=>e=.returned (.bool r)∧Below w.heap.size w w':=by
 have hu26:=Try.underlying26;have hu33:=Try.underlying33;have aR:=zA bB;have aS:=zA bE;clear bB bE;have aV:=zA bA;have aW:=zA bD;clear bA bD;have fO:=zA aZ;have fP:=zA bC;clear aZ bC;have HB:=zA (Below.refl w.heap.size w);have H:=h;clear h;unfold q3n.f at H;obtain⟨bL,A3,H⟩:=zB H;go_enter Try.func42,Try.ntmps42
 by_cases c4:bL=true
 ·subst c4;rw[if_pos rfl] at H;obtain⟨bK,A5,H⟩:=zB H
  by_cases c6:bK=true
  ·subst c6;rw[if_pos rfl] at H;obtain⟨bJ,A7,H⟩:=zB H
   by_cases c8:bJ=true
   ·subst c8;rw[if_pos rfl] at H;obtain rfl:=zI H
    go_wp2_with (first|((with_reducible refine zgd 2 rfl ?_);(try (refine q1w (by rfl) ?_;dsimp only));refine zbx 2 #[.int .i64 aH,.int .i64 aG,.slice aK aC.length aJ] 26 ?_;intro aU hg w9 hbox hb;have aA:=zA hbox;have aY:=zga (w:=w) hg;replace HB:=zbs hb;clear hb hbox hg)|((with_reducible refine zgd 3 rfl ?_);(try (refine q1w (by rfl) ?_;dsimp only));refine zbx 3 #[.int .i64 aF,.int .i64 aM,.slice aQ aI.length aO,.slice aP aL.length aN] 33 ?_;intro aT hg gD hbox hb;have aB:=zA hbox;have aX:=zga (w:=w) hg;replace HB:=zbs hb;replace aA:=zlh aA hg hb;obtain⟨aE,aD,aA⟩:=aA;clear hb hbox hg;have fN:=aE.out;have fJ:=aD.out;obtain⟨fE,fD,fC,dI,dH,dG⟩:=ze3 aA;obtain⟨fB,fA,eZ,eY,dF,dE,dD,dC⟩:=ze4 aB)|((with_reducible refine zgf 57 rfl ?_);refine zgl 8 Try.func57 #[.agg #[.int .i64 aH,.int .i64 aG,.slice aK aC.length aJ],.int .i64 aF] ?_;(with_reducible refine(q1r.calls k aH aG _ _ aC aF true _ ?s1 ?s2 A3.out).mono ?_);(case s1=>exact zCb aR);(case s2=>exact aS.out);rintro e gC ⟨rfl,hb⟩;refine⟨_,rfl,?_⟩;replace aA:=zkb aA hb;replace aB:=zkb aB hb;replace HB:=zbs hb;(try clear hb);obtain⟨eX,eW,eV,eU,dB,dA,cZ,cY⟩:=ze4 aB)|(go_at_call 62;(with_reducible refine(q0u.calls k _ _ aI true _ ?s1 ?s2 A5.out).mono ?_);(case s1=>exact zCb aV);(case s2=>exact aW.out);rintro e gB ⟨rfl,hb⟩;replace aA:=zkb aA hb;replace aB:=zkb aB hb;replace HB:=zbs hb;(try clear hb);obtain⟨eT,eS,eR,eQ,cX,cW,cV,cU⟩:=ze4 aB)|(go_at_call 22;(with_reducible refine(q0q.calls aM 0 10000 true _ A7.out).mono ?_);rintro e w' ⟨rfl,⟨nd,rfl⟩⟩))
    go_ret;exact⟨zE,zb⟩
   ·replace c8:=Bool.eq_false_iff.mpr c8;subst c8;rw[if_neg zNo] at H;obtain rfl:=zI H
    go_wp2_with (first|((with_reducible refine zgd 2 rfl ?_);(try (refine q1w (by rfl) ?_;dsimp only));refine zbx 2 #[.int .i64 aH,.int .i64 aG,.slice aK aC.length aJ] 26 ?_;intro aU hg gA hbox hb;have aA:=zA hbox;have aY:=zga (w:=w) hg;replace HB:=zbs hb;clear hb hbox hg)|((with_reducible refine zgd 3 rfl ?_);(try (refine q1w (by rfl) ?_;dsimp only));refine zbx 3 #[.int .i64 aF,.int .i64 aM,.slice aQ aI.length aO,.slice aP aL.length aN] 33 ?_;intro aT hg fZ hbox hb;have aB:=zA hbox;have aX:=zga (w:=w) hg;replace HB:=zbs hb;replace aA:=zlh aA hg hb;obtain⟨aE,aD,aA⟩:=aA;clear hb hbox hg;have fM:=aE.out;have fI:=aD.out;obtain⟨eP,eO,eN,cT,cS,cR⟩:=ze3 aA;obtain⟨eM,eL,eK,eJ,cQ,cP,cO,cN⟩:=ze4 aB)|((with_reducible refine zgf 57 rfl ?_);refine zgl 8 Try.func57 #[.agg #[.int .i64 aH,.int .i64 aG,.slice aK aC.length aJ],.int .i64 aF] ?_;(with_reducible refine(q1r.calls k aH aG _ _ aC aF true _ ?s1 ?s2 A3.out).mono ?_);(case s1=>exact zCb aR);(case s2=>exact aS.out);rintro e fY ⟨rfl,hb⟩;refine⟨_,rfl,?_⟩;replace aA:=zkb aA hb;replace aB:=zkb aB hb;replace HB:=zbs hb;(try clear hb);obtain⟨eI,eH,eG,eF,cM,cL,cK,cJ⟩:=ze4 aB)|(go_at_call 62;(with_reducible refine(q0u.calls k _ _ aI true _ ?s1 ?s2 A5.out).mono ?_);(case s1=>exact zCb aV);(case s2=>exact aW.out);rintro e fX ⟨rfl,hb⟩;replace aA:=zkb aA hb;replace aB:=zkb aB hb;replace HB:=zbs hb;(try clear hb);obtain⟨eE,eD,eC,eB,cI,cH,cG,cF⟩:=ze4 aB)|(go_at_call 22;(with_reducible refine(q0q.calls aM 0 10000 false _ A7.out).mono ?_);rintro e w' ⟨rfl,⟨nd,rfl⟩⟩))
    go_ret;exact⟨zE,zb⟩
  ·replace c6:=Bool.eq_false_iff.mpr c6;subst c6;rw[if_neg zNo] at H;obtain rfl:=zI H
   go_wp2_with (first|((with_reducible refine zgd 2 rfl ?_);(try (refine q1w (by rfl) ?_;dsimp only));refine zbx 2 #[.int .i64 aH,.int .i64 aG,.slice aK aC.length aJ] 26 ?_;intro aU hg fW hbox hb;have aA:=zA hbox;have aY:=zga (w:=w) hg;replace HB:=zbs hb;clear hb hbox hg)|((with_reducible refine zgd 3 rfl ?_);(try (refine q1w (by rfl) ?_;dsimp only));refine zbx 3 #[.int .i64 aF,.int .i64 aM,.slice aQ aI.length aO,.slice aP aL.length aN] 33 ?_;intro aT hg fV hbox hb;have aB:=zA hbox;have aX:=zga (w:=w) hg;replace HB:=zbs hb;replace aA:=zlh aA hg hb;obtain⟨aE,aD,aA⟩:=aA;clear hb hbox hg;have fL:=aE.out;have fH:=aD.out;obtain⟨eA,dZ,dY,cE,cD,cC⟩:=ze3 aA;obtain⟨dX,dW,dV,dU,cB,cA,bZ,bY⟩:=ze4 aB)|((with_reducible refine zgf 57 rfl ?_);refine zgl 8 Try.func57 #[.agg #[.int .i64 aH,.int .i64 aG,.slice aK aC.length aJ],.int .i64 aF] ?_;(with_reducible refine(q1r.calls k aH aG _ _ aC aF true _ ?s1 ?s2 A3.out).mono ?_);(case s1=>exact zCb aR);(case s2=>exact aS.out);rintro e fU ⟨rfl,hb⟩;refine⟨_,rfl,?_⟩;replace aA:=zkb aA hb;replace aB:=zkb aB hb;replace HB:=zbs hb;(try clear hb);obtain⟨dT,dS,dR,dQ,bX,bW,bV,bU⟩:=ze4 aB)|(go_at_call 62;(with_reducible refine(q0u.calls k _ _ aI false _ ?s1 ?s2 A5.out).mono ?_);(case s1=>exact zCb aV);(case s2=>exact aW.out);rintro e fT ⟨rfl,hb⟩;replace aA:=zkb aA hb;replace aB:=zkb aB hb;replace HB:=zbs hb;(try clear hb)))
   go_ret;exact⟨zE,zb⟩
 ·replace c4:=Bool.eq_false_iff.mpr c4;subst c4;rw[if_neg zNo] at H;obtain rfl:=zI H
  go_wp2_with (first|((with_reducible refine zgd 2 rfl ?_);(try (refine q1w (by rfl) ?_;dsimp only));refine zbx 2 #[.int .i64 aH,.int .i64 aG,.slice aK aC.length aJ] 26 ?_;intro aU hg fS hbox hb;have aA:=zA hbox;have aY:=zga (w:=w) hg;replace HB:=zbs hb;clear hb hbox hg)|((with_reducible refine zgd 3 rfl ?_);(try (refine q1w (by rfl) ?_;dsimp only));refine zbx 3 #[.int .i64 aF,.int .i64 aM,.slice aQ aI.length aO,.slice aP aL.length aN] 33 ?_;intro aT hg fR hbox hb;have aB:=zA hbox;have aX:=zga (w:=w) hg;replace HB:=zbs hb;replace aA:=zlh aA hg hb;obtain⟨aE,aD,aA⟩:=aA;clear hb hbox hg;have fK:=aE.out;have fG:=aD.out;obtain⟨dP,dO,dN,bT,bS,bR⟩:=ze3 aA;obtain⟨dM,dL,dK,dJ,bQ,bP,bO,bN⟩:=ze4 aB)|((with_reducible refine zgf 57 rfl ?_);refine zgl 8 Try.func57 #[.agg #[.int .i64 aH,.int .i64 aG,.slice aK aC.length aJ],.int .i64 aF] ?_;(with_reducible refine(q1r.calls k aH aG _ _ aC aF false _ ?s1 ?s2 A3.out).mono ?_);(case s1=>exact zCb aR);(case s2=>exact aS.out);rintro e fQ ⟨rfl,hb⟩;refine⟨_,rfl,?_⟩;replace aA:=zkb aA hb;replace aB:=zkb aB hb;replace HB:=zbs hb;(try clear hb)))
  go_ret;exact⟨zE,zb⟩

def q6u.f (a:Int):Option (Int):=some (mx a (wrap64 (-a)))
theorem q6u.calls (a0:Int) (r:Int) (w:World) (h:q6u.f a0=some r) :
  Calls Try.prog 94 #[.int .i64 a0] w fun e w'=>e=.returned (.int .i64 r)∧Below w.heap.size w w':=by
 have HB:=zA (Below.refl w.heap.size w);have H:=h;clear h;unfold q6u.f at H;obtain⟨aC,aA⟩:∃ j_:Int,(mx a0 (wrap64 (-a0)))=j_:=⟨_,rfl⟩
 replace H:(some aC)=some r:=by first|(rw[aA] at H;exact H)|(simp only[aA] at H ⊢;exact H)
 have aD:(if a0<(wrap64 (-a0)) then(wrap64 (-a0)) else a0)=aC:=aA;obtain rfl:=zI H;go_enter Try.func94,Try.ntmps94;go_wp2;go_ret;exact⟨by first|rfl|(simp[q1o,q1n] <;> rfl)|(simp only[←aA];first|rfl|(simp[q1o,q1n] <;> rfl))|(simp[*,q1o,q1n] <;> rfl),zb⟩

def q3j.j0:Nat→Int→Int→Bool→Int→Int→List Int→Option (Int)
  |0,_,_,_,_,_,_=>none
  |k+1,b,c,d,a,g,h=>if d=true then(some (-1)) else(if a=0 then(none) else((q6u.f (wrap64 ((Int.tmod b a)-(Int.tmod c a)))).bind fun e=>((q6u.f (wrap64 ((wrap64 (Int.tdiv b a))-(wrap64 (Int.tdiv c a))))).bind fun f=>(some (wrap64 (e+f))))))
def q3j.f (k:Nat) (a:Int) (b:Int) (c:List Int) (d:Int) (e:Int):Option (Int):=(q3q.f k a b c d).bind fun f=>(if f=true then((q3q.f k a b c e).bind fun g=>(q3j.j0 k d e (!g) a b c)) else(q3j.j0 k d e true a b c))
def q3j.T3:Bool × List (List Nat × List Nat):=(true,[([],[]),([],[]),([1],[1]),([0,2],[0,2]),([],[]),([],[]),([5],[5]),([4,6],[4,6]),([3,7],[3,7]),([8],[8]),([],[]),([],[]),([11],[11]),([10,12],[10,12]),([],[]),([],[]),([15],[15]),([14,16],[14,16]),([13,17],[13,17]),([18,9],[18]),([9,19],[9,19]),([20,19,0,1,2,3,4,5,6,7,8,9,10,11,12,13,14,15,16,17,18,19,20],[20])])
def q3j.B3:List Nat:=[0,0,2,7,0,0,32,112,255,511,0,0,2048,7168,0,0,32768,114688,261120,524287,1048575,2097151]
theorem q3j.tab3:q6q .any (opsOf Try.f85 3)=q3j.T3:=by kernel_rfl
theorem q3j.bits3:q4a q3j.T3.2 q3j.B3=true:=by kernel_rfl
theorem q3j.calls (k:Nat) (aB:Int) (aD:Int) (aF:Option Addr) (aE:Nat) (aC:List Int) (a1:Int) (a2:Int) (r:Int) (w:World) (aM:Kd.C (Kd.int .i64) w aF aC.length aC) (aN:aC.length≤aE) (h:q3j.f k aB aD aC a1 a2=some r) :
  Calls Try.prog 85 #[.agg #[.int .i64 aB,.int .i64 aD,.slice aF aC.length aE],.int .i64 a1,.int .i64 a2] w fun e w'=>e=.returned (.int .i64 r)∧Below w.heap.size w w':=by
 have hu26:=Try.underlying26;have aJ:=zA aM;have aK:=zA aN;clear aM aN;have HB:=zA (Below.refl w.heap.size w);have H:=h;clear h;unfold q3j.f at H;have bD:=zA H;clear H;go_enter Try.func85,Try.ntmps85
 go_upto_region 1 with (first|((with_reducible refine zgd 3 rfl ?_);refine zbx 3 #[.int .i64 aB,.int .i64 aD,.slice aF aC.length aE] 26 ?_;intro aH hg w5 hbox hb;have aA:=zA hbox;have bM:=zga (w:=w) hg;replace HB:=zbs hb;clear hb hbox hg))
 (try simp only[Act.put,z_L])
 go_cut [16] (fun v16 wc=>∃ (kq:Nat) (aG:Bool),v16=.bool aG∧q0a (q3j.j0 kq a1 a2 aG aB aD aC=some r)∧q0a (kq≤k)∧q0a (wc.heap[aH]?=some (.cells #[.int .i64 aB,.int .i64 aD,(.slice aF aC.length aE)] 26 (0,0)))∧q0a (Below w.heap.size w wc))
 case first =>
  have H:=bD.out;clear bD;obtain⟨bG,A6,H⟩:=zB H;obtain⟨bB,bA,aZ,aY,aX,aW⟩:=ze3 aA
  by_cases c7:bG=true
  ·subst c7;rw[if_pos rfl] at H;obtain⟨aV,A8,H⟩:=zB H;have H':=zA H;clear H
   go_wp2_with (first|((with_reducible refine zgf 75 rfl ?_);refine zgl 9 Try.func75 #[.agg #[.int .i64 aB,.int .i64 aD,.slice aF aC.length aE],.int .i64 a1] ?_;(with_reducible refine(q3q.calls k aB aD _ _ aC a1 true _ ?s1 ?s2 A6.out).mono ?_);(case s1=>exact zCb aJ);(case s2=>exact aK.out);rintro e bT ⟨rfl,hb⟩;refine⟨_,rfl,?_⟩;replace aA:=zkb aA hb;replace HB:=zbs hb;(try clear hb);obtain⟨aU,aT,aS,aR,aQ,aP⟩:=ze3 aA)|(go_at_call 75;(with_reducible refine(q3q.calls k aB aD _ _ aC a2 aV _ ?s1 ?s2 A8.out).mono ?_);(case s1=>exact zCb aJ);(case s2=>exact aK.out);rintro e bS ⟨rfl,hb⟩;replace aA:=zkb aA hb;replace HB:=zbs hb;(try clear hb)))
   go_meet
   case rel=>exact⟨_,(!aV),zr,H',⟨by first|omega|exact Nat.le_refl _⟩,⟨zk aA⟩,⟨zb⟩⟩
  ·replace c7:=Bool.eq_false_iff.mpr c7;subst c7;rw[if_neg zNo] at H;have H':=zA H;clear H
   go_wp2_with (first|((with_reducible refine zgf 75 rfl ?_);refine zgl 9 Try.func75 #[.agg #[.int .i64 aB,.int .i64 aD,.slice aF aC.length aE],.int .i64 a1] ?_;(with_reducible refine(q3q.calls k aB aD _ _ aC a1 false _ ?s1 ?s2 A6.out).mono ?_);(case s1=>exact zCb aJ);(case s2=>exact aK.out);rintro e bR ⟨rfl,hb⟩;refine⟨_,rfl,?_⟩;replace aA:=zkb aA hb;replace HB:=zbs hb;(try clear hb)))
   go_meet
   case rel=>exact⟨_,(true),zr,H',⟨by first|omega|exact Nat.le_refl _⟩,⟨zk aA⟩,⟨zb⟩⟩
 case rest =>
  clear bD;(try clear c7);(try clear aU);(try clear aT);(try clear aS);(try clear bB);(try clear bA);(try clear aZ);(try clear aR);(try clear aQ);(try clear aP);(try clear aY);(try clear aX);(try clear aW);obtain⟨kq,aG,rfl,HA,HJ3,aA,HB⟩:=hcut;cases kq with
  |zero=>exact absurd HA.out (by simp[q3j.j0])
  |succ kj3 =>
   have H:=HA.out;clear HA;simp only[q3j.j0] at H
   by_cases aO:aG=true
   ·subst aO;rw[if_pos rfl] at H;obtain rfl:=zI H;go_wp2;go_ret;exact⟨zE,zb⟩
   ·replace aO:=Bool.eq_false_iff.mpr aO;subst aO;rw[if_neg zNo] at H
    by_cases c16:aB=0
    ·rw[if_pos c16] at H;exact absurd H (by simp)
    ·rw[if_neg c16] at H;have bL:(aB==0)=false:=beq_eq_false_iff_ne.mpr c16;have bK:(aB != 0)=true:=bne_iff_ne.mpr c16;obtain⟨bF,bJ,H⟩:=zB H;obtain⟨bE,bI,H⟩:=zB H;obtain rfl:=zI H
     try go_wp2
     replace aA:=q4h aA;replace HB:=z_b HB;refine q3g (n:=22) (S:=fun w'=>w'.cell? ⟨aH,0,none⟩=some (.int .i64 aB)∧w'.cell? ⟨aH,1,none⟩=some (.int .i64 aD)∧w'.cell? ⟨aH,2,none⟩=some (.slice aF aC.length aE)) (ds:=[]) _ (by kernel_rfl) rfl rfl ⟨zq aA 0,zq aA 1,zq aA 2⟩ (fun hHeld=>?_);refine q1m q3j.tab3 q3j.bits3 (fun HT_ HW_=>?_);generalize wc.drew=bQ at aA HB hHeld ⊢;refine z_p 0 ?_;refine z_p 1 ?_;refine z_p 4 ?_;refine z_p 5 ?_;refine z_p 10 ?_;refine z_p 11 ?_;refine z_p 14 ?_;refine z_p 15 ?_;refine zt 2 19 HT_ HW_ hHeld ?_;refine z_p 3 ?_;refine zt 6 23 HT_ HW_ hHeld ?_;refine z_p 7 ?_;refine z_p 8 ?_;refine zt 12 29 HT_ HW_ hHeld ?_;refine z_p 13 ?_;refine zt 16 33 HT_ HW_ hHeld ?_;refine z_p 17 ?_;refine z_p 18 ?_;refine zo 9 26 HT_ (fun K hK=>?_);refine zgo Try.func94 #[.int .i64 (wrap64 ((Int.tmod a1 aB)-(Int.tmod a2 aB)))] ?_
     with_reducible refine(q6u.calls (wrap64 ((Int.tmod a1 aB)-(Int.tmod a2 aB))) bF _ bJ.out).mono ?_
     rintro e bP ⟨rfl,hb⟩;refine⟨_,rfl,?_⟩;replace aA:=zkb aA hb;replace HB:=zbs hb;(try clear hb);refine hK.out _ _ ⟨zq aA 0,zq aA 1,zq aA 2⟩ (fun hHeld=>?_);clear hK K;refine q1j zV ?_;refine zo 19 36 HT_ (fun K hK=>?_);refine zgo Try.func94 #[.int .i64 (wrap64 ((wrap64 (Int.tdiv a1 aB))-(wrap64 (Int.tdiv a2 aB))))] ?_
     with_reducible refine(q6u.calls (wrap64 ((wrap64 (Int.tdiv a1 aB))-(wrap64 (Int.tdiv a2 aB)))) bE _ bI.out).mono ?_
     rintro e bO ⟨rfl,hb⟩;refine⟨_,rfl,?_⟩;replace aA:=zkb aA hb;replace HB:=zbs hb;(try clear hb);refine hK.out _ _ ⟨zq aA 0,zq aA 1,zq aA 2⟩ (fun hHeld=>?_);clear hK K;refine q1j zV ?_;refine z_p 20 ?_;refine z_p 21 ?_;refine q4j (q2e HT_.out (by kernel_rfl)) ?_
     try go_wp2
     go_ret;exact⟨zE,zb⟩

/-! #### clear within a row of the call's own; a slice of a row, read in the row itself -/
def rs (x0 x4:List Int) (i:Int):Int:=rd x0 ((x0.length:Int)-(x4.length:Int)+i)
theorem y0c {w:World} {e base n c m L:Nat} {ok:Nat→Prop} {ad:Addr} {A:Option Addr} {x0 y:List Int} (HO:Kd.R (Kd.int .i64) e w base ok (.slice (some ad) n c) x0)
  (hA:A=if c=m then some ad else((some ad):Option Addr).map (·.add (m * 1))) (hy:y.length=L-m) (hL:L=x0.length) (hm:m≤L) (i:Int) (h0:0≤i) (hi:i<(y.length:Int)) :
  ∃ ad',A=some ad'∧w.cell? (ad'.add i.toNat)=some (.int .i64 (rs x0 y i)):=by
 obtain⟨hn,hc,hC⟩:=q0b HO
 obtain⟨ad2,e2,hx⟩:=q3r hC ((m:Int)+i) (by omega) (by omega)
 injection e2 with e2
 subst e2
 refine⟨ad.add m,?_,?_⟩
 ·rw[hA,if_neg (by omega)];simp
 ·rw[Addr.add_add,show m+i.toNat=((m:Int)+i).toNat by omega,hx]
  unfold rs
  rw[show (x0.length:Int)-(y.length:Int)+i=(m:Int)+i by omega]
def y0h:Nat→List Int→List Int→List Int
  |_,[],y=>y
  |o,v :: r,y=>y0h (o+1) r (y.set o v)
theorem putAllC_eq:∀ (vs:List Int) (o:Nat) (y:List Int),o+vs.length≤y.length→y0h o vs y=y.take o++vs++y.drop (o+vs.length)
  |[],o,y,h=>by simp[y0h]
  |v :: r,o,y,h=>by
    simp only[List.length_cons] at h
    rw[y0h,putAllC_eq r (o+1) (y.set o v) (by simp;omega)]
    rw[List.take_set,List.drop_set]
    have h1:o<y.length:=by omega
    rw[if_pos (by omega),List.take_succ_eq_append_getElem h1,List.length_cons,show o+1+r.length=o+(r.length+1) by omega]
    congr 1
    rw[List.set_append_right _ _ (by simp;omega)]
    simp[Nat.min_eq_left (Nat.le_of_lt h1)]
theorem setCells_R {e base g n cap:Nat} {ok:Nat→Prop}:∀ (vs:List Int) (o:Nat) (W:World) (xs:List Int),(Kd.int .i64).R e W base ok (.slice (some ⟨g,0,none⟩) n cap) xs →
    (Kd.int .i64).R e (W.setCells g o (vs.map (Value.int .i64))) base ok (.slice (some ⟨g,0,none⟩) n cap) (y0h o vs xs)∧W.grownBy (W.setCells g o (vs.map (Value.int .i64))) (some g)
  |[],o,W,xs,h=>⟨h,World.grownBy.refl _ _⟩
  |v :: r,o,W,xs,h=>by
    obtain⟨h1,h2⟩:=q9u h (o:Int) v
    rw[Int.toNat_natCast] at h1 h2
    obtain⟨h3,h4⟩:=setCells_R r (o+1) _ _ h1
    exact⟨h3,h2.trans h4⟩
theorem run_clearS {P:Program} {W:World} {t e ty:TypeId} {base n cap:Nat} {ok:Nat→Prop} {xs:List Int} {ad:Addr} (ht:P.underlying t=some (.slice e)) (hz:∀ w,(zeroValue e).run P w=.ok (.int .i64 0) w)
  (h:(Kd.int .i64).R e W base ok (.slice (some ad) n cap) xs) (k:Nat) (hk:k≤xs.length) (A:Option Addr) (hA:k<xs.length→A=some (ad.add k)) (c:Nat) :
  ∃ W1,(Builtin.clear_ #[t] ty #[.slice A (xs.length-k) c]).run P W=.ok (.tuple #[]) W1∧(Kd.int .i64).R e W1 base ok (.slice (some ad) n cap) (xs.take k++List.replicate (xs.length-k) 0)∧W.grownBy W1 (Value.slice (some ad) n cap).ownBlock:=by
 by_cases hlt:k<xs.length
 ·obtain⟨g,cap',hv,_,_,_⟩:=q8z h (by omega)
  injection hv with h1 h2 h3
  injection h1 with h1
  subst h1
  obtain rfl:=hA hlt
  obtain⟨hn,hc,_⟩:=q0b h
  have hr:=Lib.run_clear_slice (P:=P) W t e ty (.int .i64 0) ht hz rfl rfl g k (xs.length-k) c (by omega)
   (fun j hj=>by
    have h2:=(q7g 0 h ((k+j:Nat):Int) (by omega) (by omega)).1
    rw[Int.toNat_natCast] at h2
    rw[h2];rfl)
   (fun j hj=>by
    have h2:=(q7g 0 h ((k+j:Nat):Int) (by omega) (by omega)).2
    rwa [Int.toNat_natCast] at h2)
  obtain⟨h3,h4⟩:=setCells_R (List.replicate (xs.length-k) 0) k W xs h
  rw[List.map_replicate] at h3 h4
  rw[add_plain]
  refine⟨_,hr,?_,h4⟩
  have e0:xs.drop (k+(xs.length-k))=[]:=List.drop_eq_nil_of_le (by omega)
  rw[putAllC_eq _ _ _ (by rw[List.length_replicate];omega),List.length_replicate,e0,List.append_nil] at h3
  exact h3
 ·have e1:xs.length-k=0:=by omega
  refine⟨W,?_,?_,World.grownBy.refl _ _⟩
  ·rw[e1]
   cases A <;> simp[Builtin.clear_,run_underlying ht]
  ·rw[e1,List.replicate_zero,List.append_nil,List.take_of_length_le (by omega)]
   exact h
theorem drop_at {P:Program} (t e:TypeId) {i:TypeInfo} (ht:P.underlying t=some (.slice e)) (hi:P.info? e=some i) (hsz:i.size=1) (ad:Addr) (n c:Nat) (j:Int) (h0:0≤j) (hm:j≤n) (hc:n≤c) :
  ∃ A':Option Addr,(∀ W:World,(Instr.slice t (.slice (some ad) n c) (some (.int .i64 j)) none none).run P W=.ok (.slice A' (n-j.toNat) (c-j.toNat)) W)∧(j<n→A'=some (ad.add j.toNat)):=by
 have hel:P.elem t=e:=by simp[Program.elem,ht]
 have hu:P.underlying t=some (.slice (P.elem t)):=by rw[hel];exact ht
 refine⟨if c=j.toNat then some ad else some (ad.add j.toNat),fun W=>?_,fun h=>?_⟩
 ·rw[run_slice_l W t _ n c hu .i64 j h0 (by omega),hel]
  simp[sizeOf,typeInfo,hi,hsz,sliced,Result.andThen]
 ·rw[if_neg (by omega)]
theorem clear_step {P:Program} {ops:Array Oper} {rest:List Oper} {o:Oper} {a:Act} {Q:Exit→Act→World→Prop} {W W1:World} {t ty:TypeId} {u:Value} (hr:(Builtin.clear_ #[t] ty #[u]).run P W=.ok (.tuple #[]) W1) (s:Operand)
  (hgd:o.guard=none) (hty:o.type=ty) (ho:o.op=.call { callee:=.builtin .clear,args:=#[s],argTypes:=#[t] }) (hd:o.dst=none) (hs:a.eval s=u)
  (h:wpList P ops Q rest a W1):wpList P ops Q (o :: rest) a W:=by
 refine wpList_plain hgd fun K hK=>?_
 subst hty
 unfold Oper.wp execOp
 simp only[ho,resolve,invoke,builtin,Sem.run_bind,Sem.run_pure,Result.andThen_ok,List.map_toArray,List.map_cons,List.map_nil,hs,hr]
 refine hK _ _ ?_
 rw[hd]
 exact h
theorem growB {w0 W W1:World} {row:Option Nat} (HB:Below w0.heap.size w0 W) (g:W.grownBy W1 row) (hr:∀ k,row=some k→w0.heap.size≤k):Below w0.heap.size w0 W1:=HB.grown g HB.size hr
theorem take_zero_ (xs:List Int) (k m:Nat) (h:k≤xs.length):(xs.take k++List.replicate m 0).take k=xs.take k:=by
 rw[List.take_append_of_le_length (by rw[List.length_take];omega),List.take_take,Nat.min_self]
theorem zero3 (w:World):(zeroValue 3).run Try.prog w=.ok (.int .i64 0) w:=by kernel_rfl
mutual
def q0i.l0:Nat→List Int→Int→Option (List Int)
  |0,_,_=>none
  |k+1,b,a=>if a<(b.length:Int) then(if 0≤a then(if 0≤(wrap64 (a-1)) then(if (wrap64 (a-1))<(b.length:Int) then(if (rd b a)=(rd b (wrap64 (a-1))) then(if a≤(b.length:Int) then(q0i.l1 k b a (b.drop (a:Int).toNat) 1) else(none)) else(q0i.l0 k b (wrap64 (a+1)))) else(none)) else(none)) else(none)) else(some b)
def q0i.l1:Nat→List Int→Int→List Int→Int→Option (List Int)
  |0,_,_,_,_=>none
  |k+1,b,c,d,a=>if a<(d.length:Int) then(if 0≤a then(if 0≤(wrap64 (a-1)) then(if (wrap64 (a-1))<(d.length:Int) then(if (rs b d a)=(rs b d (wrap64 (a-1))) then(q0i.l1 k b c d (wrap64 (a+1))) else(if 0≤c then(if c<(b.length:Int) then(q0i.l1 k (b.set (c:Int).toNat (rs b d a)) (wrap64 (c+1)) d (wrap64 (a+1))) else(none)) else(none))) else(none)) else(none)) else(none)) else(if 0≤c then(if c≤(b.length:Int) then(some (b.take (c:Int).toNat)) else(none)) else(none))
end
def q0i.f (k:Nat) (a:List Int):Option (List Int):=if (a.length:Int)<2 then(some a) else(q0i.l0 k a 1)
theorem q0i.calls (k:Nat) (P0_:Nat→Prop) (u9000_:Value) (l0:List Int) (r:List Int) (w0 w:World) (hB:Below w0.heap.size w0 w) (ho0:Kd.R (Kd.int .i64) 3 w w0.heap.size P0_ u9000_ l0) (h:q0i.f k l0=some r) :
  Calls Try.prog 86 #[u9000_] w fun e w'=>∃ v0_:Value,e=.returned (v0_)∧Kd.R (Kd.int .i64) 3 w' w0.heap.size (fun k_=>(P0_ k_∨w.heap.size≤k_)) v0_ r∧Below w0.heap.size w0 w'∧Kept w w' (fun k_=>P0_ k_):=by
 have aX:=zA (show Kd.R (Kd.int .i64) 3 w w0.heap.size (fun k_=>(P0_ k_∨w.heap.size≤k_)) u9000_ l0 from q2s ho0 (fun k_ hk=>(.inl hk)))
 have HK:=zA (Kept.refl w (fun k_=>P0_ k_))
 have HW0:=zA hB.size
 have HB:=zA hB
 clear hB
 have H:(if (l0.length:Int)<2 then(some l0) else(q0i.l0 k l0 1))=some r:=h
 clear h
 obtain⟨Ao3,aL,eo3⟩:=q0j aX.out
 subst eo3
 go_enter Try.func86,Try.ntmps86
 by_cases c2:(l0.length:Int)<2
 ·rw[if_pos c2] at H
  have aP:decide ((l0.length:Int)<2)=true:=decide_eq_true c2
  have c2b1:decide (l0.length<2)=true:=decide_eq_true (by omega)
  clear c2
  obtain rfl:=zI H;(try simp only[aP,c2b1])
  go_wp2
  repeat (go_quiet (fail);try go_wp2)
  go_ret
  exact⟨_,zE,zR aX,zb,by repeat (first|(with_reducible first|exact HK.out|apply Kept.alloc|apply Kept.drewN|apply Kept.drew)|exact HK.out)⟩
 ·rw[if_neg c2] at H
  have aP:decide ((l0.length:Int)<2)=false:=decide_eq_false c2
  have c2b1:decide (l0.length<2)=false:=decide_eq_false (by omega)
  clear c2
  have H':=zA H
  clear H;(try simp only[aP,c2b1])
  go_wp2
  repeat (go_quiet (fail);try go_wp2)
  go_loopg [3] k (fun kq v3 w'=>∃ (aB:List Int) (aC:Int),v3=.int .i64 aC∧q0a (q0i.l0 kq aB aC=some r)∧q0a (kq≤k)∧q0a (Kd.R (Kd.int .i64) 3 w' w0.heap.size (fun k_=>(P0_ k_∨w.heap.size≤k_)) (.slice Ao3 l0.length aL) aB)∧q0a (Kept w w' (fun k_=>P0_ k_))∧q0a (Below w0.heap.size w0 w'))
  case atStart=>exact⟨(l0),(1),(by first|rfl|(simp;done)|(simp[*];done)),H',⟨Nat.le_refl _⟩,⟨zR aX⟩,⟨by repeat (first|(with_reducible first|exact HK.out|apply Kept.alloc|apply Kept.drewN|apply Kept.drew)|exact HK.out)⟩,⟨zb⟩⟩
  case round =>
   clear H'
   try clear c2
   try clear aP
   try clear c2b1
   try clear p2
   obtain⟨aB,aC,rfl,HA,HK1,aA,HK,HB⟩:=hrel
   have hl0_1:=(q0b aA.out).1
   rw[hl0_1] at aA
   (try simp only[hl0_1])
   cases gk with
   |zero=>exact absurd HA.out (by simp[q0i.l0])
   |succ k1 =>
    have H:=HA.out
    clear HA
    simp only[q0i.l0] at H
    by_cases c5:aC<(aB.length:Int)
    ·rw[if_pos c5] at H
     have aW:decide (aC<(aB.length:Int))=true:=decide_eq_true c5
     clear c5
     by_cases c6:0≤aC
     ·rw[if_pos c6] at H
      have c6b0:decide (0≤aC)=true:=decide_eq_true c6
      clear c6
      obtain⟨aI,hji7⟩:∃ j_:Int,(wrap64 (aC-1))=j_:=⟨_,rfl⟩
      replace H:(if 0≤(aI) then(if (aI)<(aB.length:Int) then(if (rd aB aC)=(rd aB (aI)) then(if aC≤(aB.length:Int) then(q0i.l1 k1 aB aC (aB.drop (aC:Int).toNat) 1) else(none)) else(q0i.l0 k1 aB (wrap64 (aC+1)))) else(none)) else(none))=some r:=by first|(rw[hji7] at H;exact H)|(simp only[hji7] at H ⊢;exact H)
      have bD:(IntKind.i64.wrap (aC-1))=aI:=(q2n _).trans hji7
      by_cases c8:0≤(aI)
      ·rw[if_pos c8] at H
       have c8b0:decide (0≤(aI))=true:=decide_eq_true c8
       clear c8
       by_cases c9:(aI)<(aB.length:Int)
       ·rw[if_pos c9] at H
        have c9b0:decide ((aI)<(aB.length:Int))=true:=decide_eq_true c9
        clear c9
        by_cases c10:(rd aB aC)=(rd aB (aI))
        ·rw[if_pos c10] at H
         have aS:((rd aB aC)==(rd aB (aI)))=true:=beq_iff_eq.mpr c10
         have c10b1:((rd aB aC) != (rd aB (aI)))=false:=bne_eq_false_iff_eq.mpr c10
         clear c10
         have c11b0:=eq_true (of_decide_eq_true (by first|(with_reducible assumption)|assumption):0≤aC)
         by_cases c12:aC≤(aB.length:Int)
         ·rw[if_pos c12] at H
          have c12b0:=eq_true c12
          have c12b1:decide (aC≤(aB.length:Int))=true:=decide_eq_true c12
          clear c12
          obtain⟨aE,hy429⟩:∃ y_:List Int,y_=(aB.drop (aC:Int).toNat):=⟨_,rfl⟩
          replace H:(q0i.l1 k1 aB aC aE 1)=some r:=zY hy429 H
          have Ny429:=zA hy429
          clear hy429
          have H':=zA H
          clear H
          have p427:0≤(aC:Int):=of_decide_eq_true (by first|(with_reducible assumption)|assumption)
          have q427:aC<(aB.length:Int):=of_decide_eq_true (by first|(with_reducible assumption)|assumption)
          obtain⟨ad427,e427,hx427_0⟩:=q3r (q0b aA.out).2.2 aC p427 q427
          cases e427
          replace p427:=eq_true p427
          replace q427:=eq_true q427
          have p428:0≤((aI):Int):=of_decide_eq_true (by first|(with_reducible assumption)|assumption)
          have q428:(aI)<(aB.length:Int):=of_decide_eq_true (by first|(with_reducible assumption)|assumption)
          obtain⟨ad428,e428,hx428_0⟩:=q3r (q0b aA.out).2.2 (aI) p428 q428
          obtain rfl:ad427=ad428:=(by injection e428)
          replace p428:=eq_true p428
          replace q428:=eq_true q428
          have q13:(aC:Int)≤((aB.length:Int):Int):=of_decide_eq_true (by first|(with_reducible assumption)|assumption)
          obtain⟨i013,hi013,_,hsz13,_⟩:=info_parts info3
          obtain⟨goA,coA,eoA,gbA,glA,clA,HGA⟩:=q8z aA.out (by have h1_:=of_eq_true p427;have h2_:=of_eq_true q427;omega);injection eoA with ea_ en_ ec_;injection ea_ with ea_;subst ea_;subst ec_;clear en_ gbA glA clA HGA;simp only[add_plain] at hx427_0 hx428_0
          have hroom13:aB.length≤aL:=(q0b aA.out).2.1
          have hC13:Kd.C (Kd.int .i64) _ (some ⟨goA,0,none⟩) aB.length aB:=(q0b aA.out).2.2
          have q013:(0:Int)≤(aC:Int):=of_decide_eq_true (by first|(with_reducible assumption)|assumption)
          have hcut13:=q9j (P:=Try.prog) 24 3 .i64 Try.underlying24 hi013 1 hsz13 (some ⟨goA,0,none⟩) aB.length aL aC q013 q13
          have hr13:=C_drop (m:=(aC:Int).toNat) (c:=aL) hC13 (by omega) hroom13
          obtain⟨bC,hA13⟩:∃ A1,A1=(if aL=(aC:Int).toNat then(some ⟨goA,0,none⟩) else((some ⟨goA,0,none⟩):Option Addr).map (·.add ((aC:Int).toNat * 1))):=⟨_,rfl⟩
          obtain⟨c13,hc13⟩:∃ c1,c1=aL-(aC:Int).toNat:=⟨_,rfl⟩
          have hy13:aE.length=aB.length-(aC:Int).toNat:=(by rw[Ny429.out,List.length_drop] <;> omega)
          rw[show (aB).drop (aC:Int).toNat=aE from Ny429.out.symm] at hr13
          replace hr13:Kd.C (Kd.int .i64) _ bC aE.length aE:=(by rw[hA13];exact hr13)
          rw[←hy13,←hA13,←hc13] at hcut13
          have bE:=zA hr13
          have HC432:=zA (show aE.length≤c13 from by rw[hy13,hc13];exact Nat.sub_le_sub_right hroom13 _)
          clear hr13 hC13 hroom13 hi013 hsz13 hc13
          have KY13:=zA hy13
          have KA13:=zA hA13
          clear hy13 hA13
          have KL13:=zA (show (aC:Int).toNat≤aB.length from by omega)
          replace q13:=eq_true q13
          go_wp2
          repeat (go_quiet (fail);try go_wp2)
          go_loopg [3,5] k1 (fun kq v3 v5 w'=>∃ (aD:List Int) (aF:Int) (aG:Int),v3=.int .i64 aF∧v5=.int .i64 aG∧q0a (q0i.l1 kq aD aF aE aG=some r)∧q0a (kq≤k1)∧q0a (Kd.R (Kd.int .i64) 3 w' w0.heap.size (fun k_=>(P0_ k_∨w.heap.size≤k_)) (.slice (some ⟨goA,0,none⟩) aB.length aL) aD)∧q0a (Kept w w' (fun k_=>P0_ k_))∧q0a (Below w0.heap.size w0 w'))
          case atStart=>exact⟨(aB),(aC),(1),(by first|rfl|(simp;done)|(simp[*];done)),(by first|rfl|(simp;done)|(simp[*];done)),H',⟨Nat.le_refl _⟩,⟨by(try simp only[hl0_1]);(with_reducible repeat (first|apply q4k|apply q4g|apply q5a));exact aA.out⟩,⟨by repeat (first|(with_reducible first|exact HK.out|apply Kept.alloc|apply Kept.drewN|apply Kept.drew)|exact HK.out)⟩,⟨zb⟩⟩
          case round =>
           clear H'
           try clear c1
           try clear q1
           try clear c2
           try clear aP
           try clear c2b1
           try clear p2
           try clear p4
           try clear q4
           try clear hx4
           try clear c5
           try clear aW
           try clear c6
           try clear c6b0
           try clear p6
           try clear c7
           try clear c8
           try clear c8b0
           try clear c9
           try clear c9b0
           try clear c10
           try clear aS
           try clear c10b1
           try clear c11
           try clear c11b0
           try clear c12
           try clear c12b0
           try clear c12b1
           try clear c13
           try clear q13
           try clear hx427_0
           try clear hx428_0
           try clear p2
           try clear p427
           try clear p428
           try clear q013
           try clear q13
           try clear q427
           try clear q428
           obtain⟨aD,aF,aG,rfl,rfl,HA,HK2,aA,HK,HB⟩:=hrel
           have hl0_2:=(q0b aA.out).1
           rw[hl0_2] at aA
           (try simp only[hl0_2])
           cases gk with
           |zero=>exact absurd HA.out (by simp[q0i.l1])
           |succ k2 =>
            have H:=HA.out
            clear HA
            simp only[q0i.l1] at H
            by_cases c14:aG<(aE.length:Int)
            ·rw[if_pos c14] at H
             have aZ:decide (aG<(aE.length:Int))=true:=decide_eq_true c14
             clear c14
             by_cases c15:0≤aG
             ·rw[if_pos c15] at H
              have c15b0:decide (0≤aG)=true:=decide_eq_true c15
              clear c15
              obtain⟨aH,hji16⟩:∃ j_:Int,(wrap64 (aG-1))=j_:=⟨_,rfl⟩
              replace H:(if 0≤(aH) then(if (aH)<(aE.length:Int) then(if (rs aD aE aG)=(rs aD aE (aH)) then(q0i.l1 k2 aD aF aE (wrap64 (aG+1))) else(if 0≤aF then(if aF<(aD.length:Int) then(q0i.l1 k2 (aD.set (aF:Int).toNat (rs aD aE aG)) (wrap64 (aF+1)) aE (wrap64 (aG+1))) else(none)) else(none))) else(none)) else(none))=some r:=by first|(rw[hji16] at H;exact H)|(simp only[hji16] at H ⊢;exact H)
              have bB:(IntKind.i64.wrap (aG-1))=aH:=(q2n _).trans hji16
              by_cases c17:0≤(aH)
              ·rw[if_pos c17] at H
               have c17b0:decide (0≤(aH))=true:=decide_eq_true c17
               clear c17
               by_cases c18:(aH)<(aE.length:Int)
               ·rw[if_pos c18] at H
                have c18b0:decide ((aH)<(aE.length:Int))=true:=decide_eq_true c18
                clear c18
                by_cases c19:(rs aD aE aG)=(rs aD aE (aH))
                ·rw[if_pos c19] at H
                 have aY:((rs aD aE aG)==(rs aD aE (aH)))=true:=beq_iff_eq.mpr c19
                 have c19b1:((rs aD aE aG) != (rs aD aE (aH)))=false:=bne_eq_false_iff_eq.mpr c19
                 clear c19
                 have H':=zA H
                 clear H
                 have p433:0≤(aG:Int):=of_decide_eq_true (by first|(with_reducible assumption)|assumption)
                 have q433:aG<(aE.length:Int):=of_decide_eq_true (by first|(with_reducible assumption)|assumption)
                 obtain⟨ad433,e433,hx433_0⟩:=y0c aA.out KA13.out KY13.out hl0_2 KL13.out aG p433 q433
                 cases e433
                 replace p433:=eq_true p433
                 replace q433:=eq_true q433
                 have p434:0≤((aH):Int):=of_decide_eq_true (by first|(with_reducible assumption)|assumption)
                 have q434:(aH)<(aE.length:Int):=of_decide_eq_true (by first|(with_reducible assumption)|assumption)
                 obtain⟨ad434,e434,hx434_0⟩:=y0c aA.out KA13.out KY13.out hl0_2 KL13.out (aH) p434 q434
                 obtain rfl:ad433=ad434:=(by injection e434)
                 replace p434:=eq_true p434
                 replace q434:=eq_true q434
                 go_wp2
                 repeat (go_quiet (fail);try go_wp2)
                 (try simp only[←hl0_2])
                 go_roundg k2
                 case measure=>have:=HK1.out;have:=HK2.out;omega
                 case rel=>exact⟨(aD),(aF),(wrap64 (aG+1)),(by first|rfl|(simp;done)|(simp[*];done)),(by first|rfl|(simp;done)|(simp[*];done)),H',⟨by have:=HK1.out;have:=HK2.out;omega⟩,⟨by(try simp only[hl0_1]);(try simp only[hl0_2]);(with_reducible repeat (first|apply q4k|apply q4g|apply q5a));exact aA.out⟩,⟨by repeat (first|(with_reducible first|exact HK.out|apply Kept.alloc|apply Kept.drewN|apply Kept.drew)|exact HK.out)⟩,⟨zb⟩⟩
                ·rw[if_neg c19] at H
                 have aY:((rs aD aE aG)==(rs aD aE (aH)))=false:=beq_eq_false_iff_ne.mpr c19
                 have c19b1:((rs aD aE aG) != (rs aD aE (aH)))=true:=bne_iff_ne.mpr c19
                 by_cases c20:0≤aF
                 ·rw[if_pos c20] at H
                  have c20b0:decide (0≤aF)=true:=decide_eq_true c20
                  clear c20
                  by_cases c21:aF<(aD.length:Int)
                  ·rw[if_pos c21] at H
                   have c21b0:decide (aF<(aD.length:Int))=true:=decide_eq_true c21
                   clear c21
                   obtain⟨aQ,hy436⟩:∃ y_:List Int,y_=(aD.set (aF:Int).toNat (rs aD aE aG)):=⟨_,rfl⟩
                   replace H:(q0i.l1 k2 aQ (wrap64 (aF+1)) aE (wrap64 (aG+1)))=some r:=zY hy436 H
                   have Ny436:=zA hy436
                   clear hy436
                   have H':=zA H
                   clear H
                   have p433:0≤(aG:Int):=of_decide_eq_true (by first|(with_reducible assumption)|assumption)
                   have q433:aG<(aE.length:Int):=of_decide_eq_true (by first|(with_reducible assumption)|assumption)
                   obtain⟨ad433,e433,hx433_0⟩:=y0c aA.out KA13.out KY13.out hl0_2 KL13.out aG p433 q433
                   cases e433
                   replace p433:=eq_true p433
                   replace q433:=eq_true q433
                   have p434:0≤((aH):Int):=of_decide_eq_true (by first|(with_reducible assumption)|assumption)
                   have q434:(aH)<(aE.length:Int):=of_decide_eq_true (by first|(with_reducible assumption)|assumption)
                   obtain⟨ad434,e434,hx434_0⟩:=y0c aA.out KA13.out KY13.out hl0_2 KL13.out (aH) p434 q434
                   obtain rfl:ad433=ad434:=(by injection e434)
                   replace p434:=eq_true p434
                   replace q434:=eq_true q434
                   have p435:0≤(aG:Int):=of_decide_eq_true (by first|(with_reducible assumption)|assumption)
                   have q435:aG<(aE.length:Int):=of_decide_eq_true (by first|(with_reducible assumption)|assumption)
                   obtain⟨ad435,e435,hx435_0⟩:=y0c aA.out KA13.out KY13.out hl0_2 KL13.out aG p435 q435
                   obtain rfl:ad433=ad435:=(by injection e435)
                   replace p435:=eq_true p435
                   replace q435:=eq_true q435
                   have p22:0≤(aF:Int):=of_decide_eq_true (by first|(with_reducible assumption)|assumption)
                   have q22:(aF:Int)<((aD.length:Int):Int):=of_decide_eq_true (by first|(with_reducible assumption)|assumption)
                   obtain⟨go22,co22,eo22,gb22,gl22,cl22,HG22⟩:=q8z aA.out (by omega)
                   injection eo22 with ea_ en_ ec_;injection ea_ with ea_;injection ea_ with eb_ _ _;subst eb_;subst ec_;clear en_
                   have GB22:=zA gb22
                   have GG22:=zA HG22
                   clear gb22 gl22 HG22
                   have HMgo22:=zA (show (P0_ goA∨w.heap.size≤goA) from (aA.out.1 _ rfl))
                   (first|simp only[add_plain] at hx427_0|skip)
                   (first|simp only[add_plain] at hx428_0|skip)
                   obtain⟨aR,hf22_0⟩:=q7g 0 aA.out (aF:Int) p22 q22
                   replace p22:=eq_true p22
                   replace q22:=eq_true q22
                   have HP23:=q9u aA.out (aF:Int) (rs aD aE aG)
                   go_wp2_with (first|((with_reducible refine q6n (t:=3) (p:=51) rfl ?_);(try (rw[q8v wr];generalize hq_:World.drewN wr _=wr;have aM:=zA (R_at hq_ aA.out);have aK:=zA (kept_at hq_ HK.out);have aJ:=zA (below_at hq_ HB.out);clear hq_ aA HK HB;have aA:=aM;have HK:=aK;have HB:=aJ;clear aM aK aJ;have HP23:=q9u aA.out (aF:Int) (rs aD aE aG);obtain⟨aR,hf22_0⟩:=q7g 0 aA.out (aF:Int) (of_eq_true p22) (of_eq_true q22)));refine q6a (t:=3) (p:=51) (v:=?vo_w24) (w1:=(wr.setCell ⟨goA,(aF:Int).toNat,none⟩ (.int .i64 (rs aD aE aG)))) ?hg ?ho ?hn ?hr ?_;(case ho=>rfl);(case hg=>rfl);(case hn=>rfl);(case hr=>first|(go_simp;done)|(go_simp;rfl));intro aO hw;have hg:wr.grownBy aO (some goA):=(by rw[hw];exact HP23.2);have hp_:Kd.R (Kd.int .i64) 3 aO w0.heap.size (fun k_=>(P0_ k_∨w.heap.size≤k_)) (.slice (some ⟨goA,0,none⟩) aD.length aL) aQ:=(by rw[hw,Ny436.out];exact HP23.1);clear HP23;have aM:=zA hp_;have aK:=zA ((by rw[hw];exact q3y (HB.out) GB22.out:Below w0.heap.size w0 aO));have aJ:=zA (Kept.q7a (S:=(fun k_=>P0_ k_)) hg (by repeat (first|(with_reducible first|exact HK.out|apply Kept.alloc|apply Kept.drewN|apply Kept.drew)|exact HK.out)) (fun k_ e_=>(aA.out.1 k_ e_)));clear aA;clear HB;clear HK;have aA:=aM;have HB:=aK;have HK:=aJ;clear aM aK aJ;clear hg hw hp_))
                   repeat (go_quiet (fail);try go_wp2_with (first|((with_reducible refine q6n (t:=3) (p:=51) rfl ?_);(try (rw[q8v wr];generalize hq_:World.drewN wr _=wr;have aM:=zA (R_at hq_ aA.out);have aK:=zA (kept_at hq_ HK.out);have aJ:=zA (below_at hq_ HB.out);clear hq_ aA HK HB;have aA:=aM;have HK:=aK;have HB:=aJ;clear aM aK aJ;have HP23:=q9u aA.out (aF:Int) (rs aD aE aG);obtain⟨aR,hf22_0⟩:=q7g 0 aA.out (aF:Int) (of_eq_true p22) (of_eq_true q22)));refine q6a (t:=3) (p:=51) (v:=?vo_w24) (w1:=(wr.setCell ⟨goA,(aF:Int).toNat,none⟩ (.int .i64 (rs aD aE aG)))) ?hg ?ho ?hn ?hr ?_;(case ho=>rfl);(case hg=>rfl);(case hn=>rfl);(case hr=>first|(go_simp;done)|(go_simp;rfl));intro aO hw;have hg:wr.grownBy aO (some goA):=(by rw[hw];exact HP23.2);have hp_:Kd.R (Kd.int .i64) 3 aO w0.heap.size (fun k_=>(P0_ k_∨w.heap.size≤k_)) (.slice (some ⟨goA,0,none⟩) aD.length aL) aQ:=(by rw[hw,Ny436.out];exact HP23.1);clear HP23;have aM:=zA hp_;have aK:=zA ((by rw[hw];exact q3y (HB.out) GB22.out:Below w0.heap.size w0 aO));have aJ:=zA (Kept.q7a (S:=(fun k_=>P0_ k_)) hg (by repeat (first|(with_reducible first|exact HK.out|apply Kept.alloc|apply Kept.drewN|apply Kept.drew)|exact HK.out)) (fun k_ e_=>(aA.out.1 k_ e_)));clear aA;clear HB;clear HK;have aA:=aM;have HB:=aK;have HK:=aJ;clear aM aK aJ;clear hg hw hp_)))
                   (try simp only[←hl0_2])
                   go_roundg k2
                   case measure=>have:=HK1.out;have:=HK2.out;omega
                   case rel=>exact⟨(aQ),(wrap64 (aF+1)),(wrap64 (aG+1)),(by first|rfl|(simp;done)|(simp[*];done)),(by first|rfl|(simp;done)|(simp[*];done)),H',⟨by have:=HK1.out;have:=HK2.out;omega⟩,⟨by(try simp only[hl0_1]);(try simp only[hl0_2]);(with_reducible repeat (first|apply q4k|apply q4g|apply q5a));exact aA.out⟩,⟨by repeat (first|(with_reducible first|exact HK.out|apply Kept.alloc|apply Kept.drewN|apply Kept.drew)|exact HK.out)⟩,⟨zb⟩⟩
                  ·rw[if_neg c21] at H
                   exact absurd H (by simp)
                 ·rw[if_neg c20] at H
                  exact absurd H (by simp)
               ·rw[if_neg c18] at H
                exact absurd H (by simp)
              ·rw[if_neg c17] at H
               exact absurd H (by simp)
             ·rw[if_neg c15] at H
              exact absurd H (by simp)
            ·rw[if_neg c14] at H
             have aZ:decide (aG<(aE.length:Int))=false:=decide_eq_false c14
             clear c14
             by_cases c25:0≤aF
             ·rw[if_pos c25] at H
              have c25b0:=eq_true c25
              have c25b1:decide (0≤aF)=true:=decide_eq_true c25
              clear c25
              by_cases c26:aF≤(aD.length:Int)
              ·rw[if_pos c26] at H
               have c26b0:=eq_true c26
               have c26b1:decide (aF≤(aD.length:Int))=true:=decide_eq_true c26
               clear c26
               have c26z_:=of_decide_eq_true c26b1;have c25z_:=of_decide_eq_true c25b1;have hcc_:=(q0b aA.out).2.1
               obtain⟨i0k,hi0k,_,hsz0k,_⟩:=info_parts info3
               obtain⟨Ac_,hcutc_,hac_⟩:=drop_at (P:=Try.prog) 24 3 Try.underlying24 hi0k hsz0k ⟨goA,0,none⟩ aD.length aL aF c25z_ c26z_ hcc_
               have RUNC_:=zA (fun (w_:World) (h_:Kd.R (Kd.int .i64) 3 w_ w0.heap.size (fun k_=>(P0_ k_∨w.heap.size≤k_)) (.slice (some ⟨goA,0,none⟩) aD.length aL) aD)=>run_clearS (P:=Try.prog) (t:=24) (e:=3) (ty:=0) Try.underlying24 zero3 h_ aF.toNat (by omega) Ac_ (fun hlt_=>hac_ (by omega)) (aL-aF.toNat))
               clear hi0k hsz0k hac_ hcc_
               obtain⟨aT,hy437⟩:∃ y_:List Int,y_=(aD.take (aF:Int).toNat):=⟨_,rfl⟩
               replace H:(some aT)=some r:=zY hy437 H
               have Ny437:=zA hy437
               clear hy437
               obtain rfl:=zI H
               have aU:(aF:Int)≤((aD.length:Int):Int):=of_decide_eq_true (by first|(with_reducible assumption)|assumption)
               obtain⟨i027,hi027,_,hsz27,_⟩:=info_parts info3
               have hcut27:=cut_to (P:=Try.prog) 24 3 .i64 Try.underlying24 hi027 (some ⟨goA,0,none⟩) aD.length aL aF (of_decide_eq_true (by first|(with_reducible assumption)|assumption)) aU (q0b aA.out).2.1
               have c26n_:aF.toNat≤aD.length:=by omega
               obtain⟨wc_,e_,r_,g_⟩:=RUNC_.out wr aA.out;have EE_:=zA e_;have aK:=zA (growB HB.out g_ (q5f aA.out));have aJ:=zA (Kept.q7a (S:=(fun k_=>P0_ k_)) g_ HK.out (fun k_ e_=>aA.out.1 k_ e_));clear aA HB HK RUNC_;have aA:=zA r_;have HB:=aK;have HK:=aJ;clear e_ r_ g_ aK aJ;have hr27:=R_take (m:=(aF:Int).toNat) aA.out (by rw[List.length_append,List.length_take];omega);have aV:aT.length=(aF:Int).toNat:=(by rw[Ny437.out,List.length_take];omega);rw[take_zero_ aD _ _ c26n_,←Ny437.out] at hr27;rw[←aV] at hr27 hcut27;clear aV hi027 hsz27 aA;have bA:=zA hr27;clear hr27;replace aU:=eq_true aU
               go_wp2_with (first|((with_reducible refine q0t (b:=.clear) (xs:=#[.tmp 56]) rfl ?_);refine clear_step EE_.out (.tmp 56) (by rfl) (by rfl) (by rfl) (by rfl) (by rfl) ?_))
               repeat (go_quiet (fail);try go_wp2)
               go_ret
               exact⟨_,by first|rfl|(simp[q1o,q1n] <;> rfl)|(simp only[←hji7];first|rfl|(simp[q1o,q1n] <;> rfl))|(simp[*,q1o,q1n] <;> rfl),zR bA,zb,by repeat (first|(with_reducible first|exact HK.out|apply Kept.alloc|apply Kept.drewN|apply Kept.drew)|exact HK.out)⟩
              ·rw[if_neg c26] at H
               exact absurd H (by simp)
             ·rw[if_neg c25] at H
              exact absurd H (by simp)
         ·rw[if_neg c12] at H
          exact absurd H (by simp)
        ·rw[if_neg c10] at H
         have aS:((rd aB aC)==(rd aB (aI)))=false:=beq_eq_false_iff_ne.mpr c10
         have c10b1:((rd aB aC) != (rd aB (aI)))=true:=bne_iff_ne.mpr c10
         have H':=zA H
         clear H
         have p427:0≤(aC:Int):=of_decide_eq_true (by first|(with_reducible assumption)|assumption)
         have q427:aC<(aB.length:Int):=of_decide_eq_true (by first|(with_reducible assumption)|assumption)
         obtain⟨ad427,e427,hx427_0⟩:=q3r (q0b aA.out).2.2 aC p427 q427
         cases e427
         replace p427:=eq_true p427
         replace q427:=eq_true q427
         have p428:0≤((aI):Int):=of_decide_eq_true (by first|(with_reducible assumption)|assumption)
         have q428:(aI)<(aB.length:Int):=of_decide_eq_true (by first|(with_reducible assumption)|assumption)
         obtain⟨ad428,e428,hx428_0⟩:=q3r (q0b aA.out).2.2 (aI) p428 q428
         obtain rfl:ad427=ad428:=(by injection e428)
         replace p428:=eq_true p428
         replace q428:=eq_true q428
         go_wp2
         repeat (go_quiet (fail);try go_wp2)
         (try simp only[←hl0_1])
         go_roundg k1
         case measure=>have:=HK1.out;omega
         case rel=>exact⟨(aB),(wrap64 (aC+1)),(by first|rfl|(simp;done)|(simp[*];done)),H',⟨by have:=HK1.out;omega⟩,⟨by(try simp only[hl0_1]);(with_reducible repeat (first|apply q4k|apply q4g|apply q5a));exact aA.out⟩,⟨by repeat (first|(with_reducible first|exact HK.out|apply Kept.alloc|apply Kept.drewN|apply Kept.drew)|exact HK.out)⟩,⟨zb⟩⟩
       ·rw[if_neg c9] at H
        exact absurd H (by simp)
      ·rw[if_neg c8] at H
       exact absurd H (by simp)
     ·rw[if_neg c6] at H
      exact absurd H (by simp)
    ·rw[if_neg c5] at H
     have aW:decide (aC<(aB.length:Int))=false:=decide_eq_false c5
     clear c5
     obtain rfl:=zI H
     go_wp2
     repeat (go_quiet (fail);try go_wp2)
     go_ret
     exact⟨_,zE,zR aA,zb,by repeat (first|(with_reducible first|exact HK.out|apply Kept.alloc|apply Kept.drewN|apply Kept.drew)|exact HK.out)⟩
end Go.Proofs.Ytkonccdanjhngaa.Q
