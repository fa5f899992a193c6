/- Walks of 3 functions of the program: each comes to what a plain function tells. -/
import Derived.Test.YtkonccdanjhngaaG0
import Derived.Test.YtkonccdanjhngaaG1
namespace Go.Proofs.Ytkonccdanjhngaa.Q
open Go.RowKit Go.Proofs.YtkonccdanjhngaaW.PrintWords Go.Proofs.YtkonccdanjhngaaW.PrintLast Go.Proofs.YtkonccdanjhngaaW.PrintMore Go.Proofs.YtkonccdanjhngaaW.Zip Go.Proofs.YtkonccdanjhngaaW.PrintWords.Kd
attribute [local go_sem] q5w q5u q6t q6s q5j q5i q5v q5t   -- for this text's walks alone
set_option linter.unusedVariables false
set_option maxHeartbeats 8000000
set_option maxRecDepth 100000
set_option linter.unusedSimpArgs false

mutual
def q0s.j0:Nat→Int→List Int→Bool→Int→Int→List Int→Option (List Int)
  |0,_,_,_,_,_,_=>none
  |k+1,a,b,f,c,d,e=>if f=true then(if b.length<17592186044416 then(q0s.j1 k a (b++[wrap64 (a-c)]) c d e) else(none)) else(q0s.j1 k a b c d e)
def q0s.j1:Nat→Int→List Int→Int→Int→List Int→Option (List Int)
  |0,_,_,_,_,_=>none
  |k+1,a,d,b,e,c=>if b=0 then(none) else(if (Int.tmod a b)>0 then(if 0≤(wrap64 (a-1)) then(if (wrap64 (a-1))<(c.length:Int) then(q0s.j2 k a d ((rd c (wrap64 (a-1))) != 2) b e c) else(none)) else(none)) else(q0s.j2 k a d false b e c))
def q0s.j2:Nat→Int→List Int→Bool→Int→Int→List Int→Option (List Int)
  |0,_,_,_,_,_,_=>none
  |k+1,a,b,f,c,d,e=>if f=true then(if b.length<17592186044416 then(q0s.j3 k a (b++[wrap64 (a-1)]) c d e) else(none)) else(q0s.j3 k a b c d e)
def q0s.j3:Nat→Int→List Int→Int→Int→List Int→Option (List Int)
  |0,_,_,_,_,_=>none
  |k+1,a,d,b,e,c=>if b=0 then(none) else(if (Int.tmod a b)<(wrap64 (b-1)) then(if 0≤(wrap64 (a+1)) then(if (wrap64 (a+1))<(c.length:Int) then(q0s.j4 k a d ((rd c (wrap64 (a+1))) != 2) b e c) else(none)) else(none)) else(q0s.j4 k a d false b e c))
def q0s.j4:Nat→Int→List Int→Bool→Int→Int→List Int→Option (List Int)
  |0,_,_,_,_,_,_=>none
  |k+1,a,c,f,b,g,d=>if f=true then(if c.length<17592186044416 then((some (c++[wrap64 (a+1)]:List Int)).bind fun e=>(if (wrap64 (a+b))<(d.length:Int) then(if 0≤(wrap64 (a+b)) then(if (rd d (wrap64 (a+b)))=2 then(some e) else(if e.length<17592186044416 then(some (e++[wrap64 (a+b)])) else(none))) else(none)) else(some e))) else(none)) else(if (wrap64 (a+b))<(d.length:Int) then(if 0≤(wrap64 (a+b)) then(if (rd d (wrap64 (a+b)))=2 then(some c) else(if c.length<17592186044416 then(some (c++[wrap64 (a+b)])) else(none))) else(none)) else(some c))
end
def q0s.f (k:Nat) (a:Int) (d:Int) (c:List Int) (b:Int):Option (List Int):=(some (([]:List Int):List Int)).bind fun e=>(if b≥a then(if 0≤(wrap64 (b-a)) then(if (wrap64 (b-a))<(c.length:Int) then(q0s.j0 k b e ((rd c (wrap64 (b-a))) != 2) a d c) else(none)) else(none)) else(q0s.j0 k b e false a d c))
theorem q0s.calls (k:Nat) (aD:Int) (aJ:Int) (bF:Option Addr) (bE:Nat) (aC:List Int) (a1:Int) (r:List Int) (w:World) (dK:Kd.C (Kd.int .i64) w bF aC.length aC) (dL:aC.length≤bE) (h:q0s.f k aD aJ aC a1=some r) :
  Calls Try.prog 89 #[.agg #[.int .i64 aD,.int .i64 aJ,.slice bF aC.length bE],.int .i64 a1] w fun e w'=>∃ v0_:Value,e=.returned (v0_)∧Kd.R (Kd.int .i64) 3 w' w.heap.size (fun _=>True) v0_ r∧Below w.heap.size w w':=by
 have hu26:=Try.underlying26;have aT:=zA dK;have gT:=zA dL;clear dK dL;have HB:=zA (Below.refl w.heap.size w);have H:=h;clear h;unfold q0s.f at H;obtain⟨bD,cU⟩:∃ y_:List Int,y_=(([]:List Int)):=⟨_,rfl⟩
 replace H:(if a1≥aD then(if 0≤(wrap64 (a1-aD)) then(if (wrap64 (a1-aD))<(aC.length:Int) then(q0s.j0 k a1 bD ((rd aC (wrap64 (a1-aD))) != 2) aD aJ aC) else(none)) else(none)) else(q0s.j0 k a1 bD false aD aJ aC))=some r:=zY cU H
 have Ny263:=zA cU;clear cU;have eY:=zA H;clear H;go_enter Try.func89,Try.ntmps89
 go_upto_region 2 with (first|((with_reducible refine zgd 2 rfl ?_);refine zbx 2 #[.int .i64 aD,.int .i64 aJ,.slice bF aC.length bE] 26 ?_;intro bQ hg w4 hbox hb;have aA:=zA hbox;have fG:=zga (w:=w) hg;replace HB:=zbs hb;clear hb hbox hg)|((with_reducible refine zgd 6 rfl ?_);refine q5z (Kd.int .i64) _ 3 ?hg (N:=6) ?hd (xs:=([]:List Int)) (inner:=[]) (ok:=fun _=>True) (okp:=fun _=>True) ?hr ?hp (fun _ hk=>hk) trivial (Below.refl _ _) (Nat.le_refl _) (by simp) ?_;(case hd=>rfl);(case hg=>rfl);(case hr=>first|(go_simp;done)|(go_simp;rfl));(case hp=>exact(q3o.none _ _));intro v264 w5 ho6 hb hg_ hnew_;clear hg_ hnew_;(first|rw[←Ny263.out] at ho6|(simp only[Int.reduceToNat] at ho6;rw[←Ny263.out] at ho6));have dB:=z_l ho6;replace aA:=zkb aA hb;replace HB:=zbs hb;clear hb ho6))
 repeat (go_quiet (fail);go_upto_region 2 with (first|((with_reducible refine zgd 2 rfl ?_);refine zbx 2 #[.int .i64 aD,.int .i64 aJ,.slice bF aC.length bE] 26 ?_;intro bQ hg w4 hbox hb;have aA:=zA hbox;have fG:=zga (w:=w) hg;replace HB:=zbs hb;clear hb hbox hg)|((with_reducible refine zgd 6 rfl ?_);refine q5z (Kd.int .i64) _ 3 ?hg (N:=6) ?hd (xs:=([]:List Int)) (inner:=[]) (ok:=fun _=>True) (okp:=fun _=>True) ?hr ?hp (fun _ hk=>hk) trivial (Below.refl _ _) (Nat.le_refl _) (by simp) ?_;(case hd=>rfl);(case hg=>rfl);(case hr=>first|(go_simp;done)|(go_simp;rfl));(case hp=>exact(q3o.none _ _));intro v264 w5 ho6 hb hg_ hnew_;clear hg_ hnew_;(first|rw[←Ny263.out] at ho6|(simp only[Int.reduceToNat] at ho6;rw[←Ny263.out] at ho6));have dB:=z_l ho6;replace aA:=zkb aA hb;replace HB:=zbs hb;clear hb ho6)))
 (try simp only[Act.put,z_L])
 go_cut [21] (fun v21 wc=>∃ (kq:Nat) (cG:Bool),v21=.bool cG∧q0a (q0s.j0 kq a1 bD cG aD aJ aC=some r)∧q0a (kq≤k)∧q0a (Kd.R (Kd.int .i64) 3 wc w.heap.size (fun _=>True) v264 bD)∧q0a (wc.heap[bQ]?=some (.cells #[.int .i64 aD,.int .i64 aJ,(.slice bF aC.length bE)] 26 (0,0)))∧q0a (Below w.heap.size w wc))
 case first =>
  have H:=eY.out;clear eY;obtain⟨bC,bB,bA,aZ,aY,aX⟩:=ze3 aA
  by_cases c7:a1≥aD
  ·rw[if_pos c7] at H;have aV:decide (aD≤a1)=true:=decide_eq_true c7;clear c7;(first|rw[aV]|(simp only[q2n,q3a];rw[aV])|skip);obtain⟨cE,cV⟩:∃ j_:Int,(wrap64 (a1-aD))=j_:=⟨_,rfl⟩
   replace H:(if 0≤(cE) then(if (cE)<(aC.length:Int) then(q0s.j0 k a1 bD ((rd aC (cE)) != 2) aD aJ aC) else(none)) else(none))=some r:=by first|(rw[cV] at H;exact H)|(simp only[cV] at H ⊢;exact H)
   have gM:(IntKind.i64.wrap (a1-aD))=cE:=(q2n _).trans cV;obtain⟨cM,H⟩:=q5b H;obtain⟨bW,H⟩:=q5b H;have H':=zA H;clear H;have cL:=zT (0≤((cE):Int));have cK:=zT ((cE)<(aC.length:Int));obtain⟨gS,fO,aQ⟩:=q3r aT.out (cE) zd zd;cases fO;replace aQ:=zC HB aQ;go_wp2
   repeat (go_quiet (fail);try go_wp2)
   go_meet
   case rel=>exact⟨_,(((rd aC (cE)) != 2)),(by first|rfl|(simp;done)|(simp only[←cV] <;> (first|rfl|simp))|(simp[*];done)),H',⟨by first|omega|exact Nat.le_refl _⟩,⟨zR dB⟩,⟨zk aA⟩,⟨zb⟩⟩
  ·rw[if_neg c7] at H;have aV:decide (aD≤a1)=false:=decide_eq_false c7;clear c7;(first|rw[aV]|(simp only[q2n,q3a];rw[aV])|skip);have H':=zA H;clear H;go_wp2
   repeat (go_quiet (fail);try go_wp2)
   go_meet
   case rel=>exact⟨_,(false),zr,H',⟨by first|omega|exact Nat.le_refl _⟩,⟨zR dB⟩,⟨zk aA⟩,⟨zb⟩⟩
 case rest =>
  clear eY;(try clear c7);(try clear aV);(try clear c9);(try clear cM);(try clear c10);(try clear bW);(try clear bC);(try clear bB);(try clear bA);(try clear aZ);(try clear aY);(try clear aX);(try clear aQ);(try clear cL);(try clear cK);obtain⟨kq,cG,rfl,HA,HJ2,aE,aA,HB⟩:=hcut;cases kq with
  |zero=>exact absurd HA.out (by simp[q0s.j0])
  |succ kj2 =>
   have H:=HA.out;clear HA;simp only[q0s.j0] at H;have dJ:=zA H;clear H
   go_upto_if 21 with (fail)
   repeat (go_quiet (fail);go_upto_if 21 with (fail))
   go_cut [5] (fun v5 wc=>∃ (kq:Nat) (aR:List Int),q0a (q0s.j1 kq a1 aR aD aJ aC=some r)∧q0a (kq≤kj2)∧q0a (Kd.R (Kd.int .i64) 3 wc w.heap.size (fun _=>True) v5 aR)∧q0a (wc.heap[bQ]?=some (.cells #[.int .i64 aD,.int .i64 aJ,(.slice bF aC.length bE)] 26 (0,0)))∧q0a (Below w.heap.size w wc))
   case first =>
    have H:=dJ.out;clear dJ
    by_cases cF:cG=true
    ·subst cF;rw[if_pos rfl] at H;obtain⟨dT,H⟩:=q8c H;obtain⟨eX,cT⟩:∃ y_:List Int,y_=(bD++[wrap64 (a1-aD)]):=⟨_,rfl⟩
     replace H:(q0s.j1 kj2 a1 eX aD aJ aC)=some r:=zY cT H
     have Ny267:=zA cT;clear cT;have H':=zA H;clear H;obtain⟨bP,bO,bN,bM,bL,bK⟩:=ze3 aA
     go_wp2_with (first|((with_reducible refine q0t (b:=.append) (xs:=#[.tmp 22,.tmp 27]) rfl ?_);at_builtin;refine q2j (Kd.int .i64) (w0:=w) w.heap.size rfl (.tmp 22) (.tmp 27) 24 3 (.int .i64 0) 8 rfl Try.underlying24 info3 rfl (by decide) (by omega) v264 bD (wrap64 (a1-aD)) [.int .i64 (wrap64 (a1-aD))] (fun _=>True) (fun _=>False) rfl rfl ?aP (fun _ hk=>hk.elim) ?aF ?aO ?aB ?aS ?aL ?_;(case aP=>exact rfl);(case aB=>exact zb);(case aF=>exact(fun _ _=>trivial));(case aO=>exact(zR aE));(case aS=>exact(q0f zb));(case aL=>have:=dT.out;omega);intro v268 gH ho hb hg hat;rw[←Ny267.out] at ho;replace aA:=zgr aA hg (q5s aE.out aA.out (by decide));replace HB:=zA hb;have dX:=zA ho;clear aE;clear ho hb hg hat))
     repeat (go_quiet (fail);try go_wp2_with (first|((with_reducible refine q0t (b:=.append) (xs:=#[.tmp 22,.tmp 27]) rfl ?_);at_builtin;refine q2j (Kd.int .i64) (w0:=w) w.heap.size rfl (.tmp 22) (.tmp 27) 24 3 (.int .i64 0) 8 rfl Try.underlying24 info3 rfl (by decide) (by omega) v264 bD (wrap64 (a1-aD)) [.int .i64 (wrap64 (a1-aD))] (fun _=>True) (fun _=>False) rfl rfl ?aP (fun _ hk=>hk.elim) ?aF ?aO ?aB ?aS ?aL ?_;(case aP=>exact rfl);(case aB=>exact zb);(case aF=>exact(fun _ _=>trivial));(case aO=>exact(zR aE));(case aS=>exact(q0f zb));(case aL=>have:=dT.out;omega);intro v268 gH ho hb hg hat;rw[←Ny267.out] at ho;replace aA:=zgr aA hg (q5s aE.out aA.out (by decide));replace HB:=zA hb;have dX:=zA ho;clear aE;clear ho hb hg hat)))
     go_meet
     case rel=>exact⟨_,(eX),H',⟨by have:=HJ2.out;first|omega|exact Nat.le_refl _⟩,⟨zR dX⟩,⟨zk aA⟩,⟨zb⟩⟩
    ·replace cF:=Bool.eq_false_iff.mpr cF;subst cF;rw[if_neg zNo] at H;have H':=zA H;clear H;go_wp2
     repeat (go_quiet (fail);try go_wp2)
     go_meet
     case rel=>exact⟨_,(bD),H',⟨by have:=HJ2.out;first|omega|exact Nat.le_refl _⟩,⟨zR aE⟩,⟨zk aA⟩,⟨zb⟩⟩
   case rest =>
    clear dJ;(try clear c7);(try clear aV);(try clear c9);(try clear cM);(try clear c10);(try clear bW);(try clear cF);(try clear c15);(try clear bC);(try clear bB);(try clear bA);(try clear bP);(try clear bO);(try clear bN);(try clear aZ);(try clear aY);(try clear aX);(try clear bM);(try clear bL);(try clear bK);(try clear aQ);(try clear cL);(try clear cK);obtain⟨kq,aR,HA,HJ12,aE,aA,HB⟩:=hcut;cases kq with
    |zero=>exact absurd HA.out (by simp[q0s.j1])
    |succ kj12 =>
     have H:=HA.out;clear HA;simp only[q0s.j1] at H;have dI:=zA H;clear H
     go_upto_region 4 with (fail)
     repeat (go_quiet (fail);go_upto_region 4 with (fail))
     go_cut [42] (fun v42 wc=>∃ (kq:Nat) (bU:Bool),v42=.bool bU∧q0a (q0s.j2 kq a1 aR bU aD aJ aC=some r)∧q0a (kq≤kj12)∧q0a (Kd.R (Kd.int .i64) 3 wc w.heap.size (fun _=>True) u5 aR)∧q0a (wc.heap[bQ]?=some (.cells #[.int .i64 aD,.int .i64 aJ,(.slice bF aC.length bE)] 26 (0,0)))∧q0a (Below w.heap.size w wc))
     case first =>
      have H:=dI.out;clear dI
      by_cases c19:aD=0
      ·rw[if_pos c19] at H;exact absurd H (by simp)
      ·rw[if_neg c19] at H;have bV:(aD==0)=false:=beq_eq_false_iff_ne.mpr c19;have cZ:(aD != 0)=true:=bne_iff_ne.mpr c19;(first|rw[bV]|(simp only[q2n,q3a];rw[bV])|skip);obtain⟨cD,cC,cB,cA,bZ,bY⟩:=ze3 aA
       by_cases c20:(Int.tmod a1 aD)>0
       ·rw[if_pos c20] at H;have cJ:decide (0<(Int.tmod a1 aD))=true:=decide_eq_true c20;clear c20;obtain⟨bH,cI⟩:∃ j_:Int,(wrap64 (a1-1))=j_:=⟨_,rfl⟩
        replace H:(if 0≤(bH) then(if (bH)<(aC.length:Int) then(q0s.j2 kj12 a1 aR ((rd aC (bH)) != 2) aD aJ aC) else(none)) else(none))=some r:=by first|(rw[cI] at H;exact H)|(simp only[cI] at H ⊢;exact H)
        have gL:(IntKind.i64.wrap (a1-1))=bH:=(q2n _).trans cI;obtain⟨cY,H⟩:=q5b H;obtain⟨cX,H⟩:=q5b H;have H':=zA H;clear H;have dF:=zT (0≤((bH):Int));have dD:=zT ((bH)<(aC.length:Int));obtain⟨gR,fN,aW⟩:=q3r aT.out (bH) zd zd;cases fN;replace aW:=zC HB aW;go_wp2
        repeat (go_quiet (fail);try go_wp2)
        go_meet
        case rel=>exact⟨_,(((rd aC (bH)) != 2)),(by first|rfl|(simp;done)|(simp only[←cI] <;> (first|rfl|simp))|(simp[*];done)),H',⟨by have:=HJ2.out;have:=HJ12.out;first|omega|exact Nat.le_refl _⟩,⟨zR aE⟩,⟨zk aA⟩,⟨zb⟩⟩
       ·rw[if_neg c20] at H;have cJ:decide (0<(Int.tmod a1 aD))=false:=decide_eq_false c20;clear c20;have H':=zA H;clear H;go_wp2
        repeat (go_quiet (fail);try go_wp2)
        go_meet
        case rel=>exact⟨_,(false),zr,H',⟨by have:=HJ2.out;have:=HJ12.out;first|omega|exact Nat.le_refl _⟩,⟨zR aE⟩,⟨zk aA⟩,⟨zb⟩⟩
     case rest =>
      clear dI;(try clear c7);(try clear aV);(try clear c9);(try clear cM);(try clear c10);(try clear bW);(try clear cF);(try clear c15);(try clear c19);(try clear bV);(try clear cZ);(try clear c20);(try clear cJ);(try clear c22);(try clear cY);(try clear c23);(try clear cX);(try clear bC);(try clear bB);(try clear bA);(try clear bP);(try clear bO);(try clear bN);(try clear cD);(try clear cC);(try clear cB);(try clear aZ);(try clear aY);(try clear aX);(try clear bM);(try clear bL);(try clear bK);(try clear cA);(try clear bZ);(try clear bY);(try clear aQ);(try clear aW);(try clear cL);(try clear dF);(try clear cK);(try clear dD);obtain⟨kq,bU,rfl,HA,HJ17,aE,aA,HB⟩:=hcut;cases kq with
      |zero=>exact absurd HA.out (by simp[q0s.j2])
      |succ kj17 =>
       have H:=HA.out;clear HA;simp only[q0s.j2] at H;have dH:=zA H;clear H
       go_upto_if 42 with (fail)
       repeat (go_quiet (fail);go_upto_if 42 with (fail))
       go_cut [5] (fun v5 wc=>∃ (kq:Nat) (aI:List Int),q0a (q0s.j3 kq a1 aI aD aJ aC=some r)∧q0a (kq≤kj17)∧q0a (Kd.R (Kd.int .i64) 3 wc w.heap.size (fun _=>True) v5 aI)∧q0a (wc.heap[bQ]?=some (.cells #[.int .i64 aD,.int .i64 aJ,(.slice bF aC.length bE)] 26 (0,0)))∧q0a (Below w.heap.size w wc))
       case first =>
        have H:=dH.out;clear dH
        by_cases cO:bU=true
        ·subst cO;rw[if_pos rfl] at H;obtain⟨dS,H⟩:=q8c H;obtain⟨eW,cS⟩:∃ y_:List Int,y_=(aR++[wrap64 (a1-1)]):=⟨_,rfl⟩
         replace H:(q0s.j3 kj17 a1 eW aD aJ aC)=some r:=zY cS H
         have Ny271:=zA cS;clear cS;have H':=zA H;clear H
         go_wp2_with (first|((with_reducible refine q0t (b:=.append) (xs:=#[.tmp 43,.tmp 46]) rfl ?_);at_builtin;refine q2j (Kd.int .i64) (w0:=w) w.heap.size rfl (.tmp 43) (.tmp 46) 24 3 (.int .i64 0) 8 rfl Try.underlying24 info3 rfl (by decide) (by omega) u5 aR (wrap64 (a1-1)) [.int .i64 (wrap64 (a1-1))] (fun _=>True) (fun _=>False) rfl rfl ?aP (fun _ hk=>hk.elim) ?aF ?aO ?aB ?aS ?aL ?_;(case aP=>exact rfl);(case aB=>exact zb);(case aF=>exact(fun _ _=>trivial));(case aO=>exact(zR aE));(case aS=>exact(q0f zb));(case aL=>have:=dS.out;omega);intro v272 gG ho hb hg hat;rw[←Ny271.out] at ho;replace aA:=zgr aA hg (q5s aE.out aA.out (by decide));replace HB:=zA hb;have dW:=zA ho;clear aE;clear ho hb hg hat))
         repeat (go_quiet (fail);try go_wp2_with (first|((with_reducible refine q0t (b:=.append) (xs:=#[.tmp 43,.tmp 46]) rfl ?_);at_builtin;refine q2j (Kd.int .i64) (w0:=w) w.heap.size rfl (.tmp 43) (.tmp 46) 24 3 (.int .i64 0) 8 rfl Try.underlying24 info3 rfl (by decide) (by omega) u5 aR (wrap64 (a1-1)) [.int .i64 (wrap64 (a1-1))] (fun _=>True) (fun _=>False) rfl rfl ?aP (fun _ hk=>hk.elim) ?aF ?aO ?aB ?aS ?aL ?_;(case aP=>exact rfl);(case aB=>exact zb);(case aF=>exact(fun _ _=>trivial));(case aO=>exact(zR aE));(case aS=>exact(q0f zb));(case aL=>have:=dS.out;omega);intro v272 gG ho hb hg hat;rw[←Ny271.out] at ho;replace aA:=zgr aA hg (q5s aE.out aA.out (by decide));replace HB:=zA hb;have dW:=zA ho;clear aE;clear ho hb hg hat)))
         go_meet
         case rel=>exact⟨_,(eW),H',⟨by have:=HJ2.out;have:=HJ12.out;have:=HJ17.out;first|omega|exact Nat.le_refl _⟩,⟨zR dW⟩,⟨zk aA⟩,⟨zb⟩⟩
        ·replace cO:=Bool.eq_false_iff.mpr cO;subst cO;rw[if_neg zNo] at H;have H':=zA H;clear H;go_wp2
         repeat (go_quiet (fail);try go_wp2)
         go_meet
         case rel=>exact⟨_,(aR),H',⟨by have:=HJ2.out;have:=HJ12.out;have:=HJ17.out;first|omega|exact Nat.le_refl _⟩,⟨zR aE⟩,⟨zk aA⟩,⟨zb⟩⟩
       case rest =>
        clear dH;(try clear c7);(try clear aV);(try clear c9);(try clear cM);(try clear c10);(try clear bW);(try clear cF);(try clear c15);(try clear c19);(try clear bV);(try clear cZ);(try clear c20);(try clear cJ);(try clear c22);(try clear cY);(try clear c23);(try clear cX);(try clear cO);(try clear c28);(try clear bC);(try clear bB);(try clear bA);(try clear bP);(try clear bO);(try clear bN);(try clear cD);(try clear cC);(try clear cB);(try clear aZ);(try clear aY);(try clear aX);(try clear bM);(try clear bL);(try clear bK);(try clear cA);(try clear bZ);(try clear bY);(try clear aQ);(try clear aW);(try clear cL);(try clear dF);(try clear cK);(try clear dD);obtain⟨kq,aI,HA,HJ25,aE,aA,HB⟩:=hcut;cases kq with
        |zero=>exact absurd HA.out (by simp[q0s.j3])
        |succ kj25 =>
         have H:=HA.out;clear HA;simp only[q0s.j3] at H;have dG:=zA H;clear H
         go_upto_region 6 with (fail)
         repeat (go_quiet (fail);go_upto_region 6 with (fail))
         go_cut [64] (fun v64 wc=>∃ (kq:Nat) (bT:Bool),v64=.bool bT∧q0a (q0s.j4 kq a1 aI bT aD aJ aC=some r)∧q0a (kq≤kj25)∧q0a (Kd.R (Kd.int .i64) 3 wc w.heap.size (fun _=>True) u5 aI)∧q0a (wc.heap[bQ]?=some (.cells #[.int .i64 aD,.int .i64 aJ,(.slice bF aC.length bE)] 26 (0,0)))∧q0a (Below w.heap.size w wc))
         case first =>
          have H:=dG.out;clear dG
          by_cases c31:aD=0
          ·rw[if_pos c31] at H;exact absurd H (by simp)
          ·rw[if_neg c31] at H;have cW:(aD==0)=false:=beq_eq_false_iff_ne.mpr c31;have fF:(aD != 0)=true:=bne_iff_ne.mpr c31;(first|rw[cW]|(simp only[q2n,q3a];rw[cW])|skip);obtain⟨eV,eU,eT,eJ,eI,eH⟩:=ze3 aA
           by_cases c32:(Int.tmod a1 aD)<(wrap64 (aD-1))
           ·rw[if_pos c32] at H;have dP:=decide_eq_true c32;clear c32;obtain⟨bG,cH⟩:∃ j_:Int,(wrap64 (a1+1))=j_:=⟨_,rfl⟩
            replace H:(if 0≤(bG) then(if (bG)<(aC.length:Int) then(q0s.j4 kj25 a1 aI ((rd aC (bG)) != 2) aD aJ aC) else(none)) else(none))=some r:=by first|(rw[cH] at H;exact H)|(simp only[cH] at H ⊢;exact H)
            have gK:(IntKind.i64.wrap (a1+1))=bG:=(q2n _).trans cH;obtain⟨fE,H⟩:=q5b H;obtain⟨fD,H⟩:=q5b H;have H':=zA H;clear H;have fK:=zT (0≤((bG):Int));have fJ:=zT ((bG)<(aC.length:Int));obtain⟨gQ,fM,bX⟩:=q3r aT.out (bG) zd zd;cases fM;replace bX:=zC HB bX;go_wp2
            repeat (go_quiet (fail);try go_wp2)
            go_meet
            case rel=>exact⟨_,(((rd aC (bG)) != 2)),(by first|rfl|(simp;done)|(simp only[←cH] <;> (first|rfl|simp))|(simp[*];done)),H',⟨by have:=HJ2.out;have:=HJ12.out;have:=HJ17.out;have:=HJ25.out;first|omega|exact Nat.le_refl _⟩,⟨zR aE⟩,⟨zk aA⟩,⟨zb⟩⟩
           ·rw[if_neg c32] at H;have dP:=decide_eq_false c32;clear c32;have H':=zA H;clear H;go_wp2
            repeat (go_quiet (fail);try go_wp2)
            go_meet
            case rel=>exact⟨_,(false),zr,H',⟨by have:=HJ2.out;have:=HJ12.out;have:=HJ17.out;have:=HJ25.out;first|omega|exact Nat.le_refl _⟩,⟨zR aE⟩,⟨zk aA⟩,⟨zb⟩⟩
         case rest =>
          clear dG;(try clear c7);(try clear aV);(try clear c9);(try clear cM);(try clear c10);(try clear bW);(try clear cF);(try clear c15);(try clear c19);(try clear bV);(try clear cZ);(try clear c20);(try clear cJ);(try clear c22);(try clear cY);(try clear c23);(try clear cX);(try clear cO);(try clear c28);(try clear c31);(try clear cW);(try clear fF);(try clear c32);(try clear dP);(try clear c34);(try clear fE);(try clear c35);(try clear fD);(try clear bC);(try clear bB);(try clear bA);(try clear bP);(try clear bO);(try clear bN);(try clear cD);(try clear cC);(try clear cB);(try clear eV);(try clear eU);(try clear eT);(try clear aZ);(try clear aY);(try clear aX);(try clear bM);(try clear bL);(try clear bK);(try clear cA);(try clear bZ);(try clear bY);(try clear eJ);(try clear eI);(try clear eH);(try clear aQ);(try clear aW);(try clear bX);(try clear cL);(try clear dF);(try clear fK);(try clear cK);(try clear dD);(try clear fJ);obtain⟨kq,bT,rfl,HA,HJ29,aE,aA,HB⟩:=hcut;cases kq with
          |zero=>exact absurd HA.out (by simp[q0s.j4])
          |succ kj29 =>
           have H:=HA.out;clear HA;simp only[q0s.j4] at H
           by_cases dO:bT=true
           ·subst dO;rw[if_pos rfl] at H;obtain⟨bR,H⟩:=q8c H;obtain⟨aU,cR⟩:∃ y_:List Int,y_=(aI++[wrap64 (a1+1)]):=⟨_,rfl⟩
            replace H:(if (wrap64 (a1+aD))<(aC.length:Int) then(if 0≤(wrap64 (a1+aD)) then(if (rd aC (wrap64 (a1+aD)))=2 then(some aU) else(if aU.length<17592186044416 then(some (aU++[wrap64 (a1+aD)])) else(none))) else(none)) else(some aU))=some r:=zY cR H
            have Ny275:=zA cR;clear cR
            by_cases c40:(wrap64 (a1+aD))<(aC.length:Int)
            ·rw[if_pos c40] at H;have dN:=decide_eq_true c40;clear c40;obtain⟨aH,bJ⟩:∃ j_:Int,(wrap64 (a1+aD))=j_:=⟨_,rfl⟩
             replace H:(if 0≤(aH) then(if (rd aC (aH))=2 then(some aU) else(if aU.length<17592186044416 then(some (aU++[aH])) else(none))) else(none))=some r:=by first|(rw[bJ] at H;exact H)|(simp only[bJ] at H ⊢;exact H)
             (try rw[bJ] at dN);have gJ:(IntKind.i64.wrap (a1+aD))=aH:=(q2n _).trans bJ;obtain⟨gO,H⟩:=q5b H
             by_cases c43:(rd aC (aH))=2
             ·rw[if_pos c43] at H;have fC:((rd aC (aH))==2)=true:=beq_iff_eq.mpr c43;have fB:((rd aC (aH)) != 2)=false:=bne_eq_false_iff_eq.mpr c43;clear c43;obtain rfl:=zI H
              go_wp2_with (first|((with_reducible refine q0t (b:=.append) (xs:=#[.tmp 65,.tmp 68]) rfl ?_);at_builtin;refine q2j (Kd.int .i64) (w0:=w) w.heap.size rfl (.tmp 65) (.tmp 68) 24 3 (.int .i64 0) 8 rfl Try.underlying24 info3 rfl (by decide) (by omega) u5 aI (wrap64 (a1+1)) [.int .i64 (wrap64 (a1+1))] (fun _=>True) (fun _=>False) rfl rfl ?aP (fun _ hk=>hk.elim) ?aF ?aO ?aB ?aS ?aL ?_;(case aP=>exact rfl);(case aB=>exact zb);(case aF=>exact(fun _ _=>trivial));(case aO=>exact(zR aE));(case aS=>exact(q0f zb));(case aL=>have:=bR.out;omega);intro v276 gF ho hb hg hat;rw[←Ny275.out] at ho;replace aA:=zgr aA hg (q5s aE.out aA.out (by decide));replace HB:=zA hb;have aN:=zA ho;clear aE;clear ho hb hg hat;obtain⟨eS,eR,eQ,eG,eF,eE⟩:=ze3 aA;have dE:=zT (0≤((aH):Int));have dC:=zT ((aH)<(aC.length:Int));obtain⟨dA,bS,aK⟩:=q3r aT.out (aH) zd zd;cases bS;replace aK:=zC HB aK))
              repeat (go_quiet (fail);try go_wp2_with (first|((with_reducible refine q0t (b:=.append) (xs:=#[.tmp 65,.tmp 68]) rfl ?_);at_builtin;refine q2j (Kd.int .i64) (w0:=w) w.heap.size rfl (.tmp 65) (.tmp 68) 24 3 (.int .i64 0) 8 rfl Try.underlying24 info3 rfl (by decide) (by omega) u5 aI (wrap64 (a1+1)) [.int .i64 (wrap64 (a1+1))] (fun _=>True) (fun _=>False) rfl rfl ?aP (fun _ hk=>hk.elim) ?aF ?aO ?aB ?aS ?aL ?_;(case aP=>exact rfl);(case aB=>exact zb);(case aF=>exact(fun _ _=>trivial));(case aO=>exact(zR aE));(case aS=>exact(q0f zb));(case aL=>have:=bR.out;omega);intro v276 gF ho hb hg hat;rw[←Ny275.out] at ho;replace aA:=zgr aA hg (q5s aE.out aA.out (by decide));replace HB:=zA hb;have aN:=zA ho;clear aE;clear ho hb hg hat;obtain⟨eS,eR,eQ,eG,eF,eE⟩:=ze3 aA;have dE:=zT (0≤((aH):Int));have dC:=zT ((aH)<(aC.length:Int));obtain⟨dA,bS,aK⟩:=q3r aT.out (aH) zd zd;cases bS;replace aK:=zC HB aK)))
              go_ret;exact⟨_,by first|rfl|(simp[q1o,q1n] <;> rfl)|(simp only[←bJ];first|rfl|(simp[q1o,q1n] <;> rfl))|(simp[*,q1o,q1n] <;> rfl),zR aN,zb⟩
             ·rw[if_neg c43] at H;have fC:((rd aC (aH))==2)=false:=beq_eq_false_iff_ne.mpr c43;have fB:((rd aC (aH)) != 2)=true:=bne_iff_ne.mpr c43;obtain⟨dR,H⟩:=q8c H;obtain⟨fI,cQ⟩:∃ y_:List Int,y_=(aU++[aH]):=⟨_,rfl⟩
              replace H:(some fI)=some r:=zY cQ H
              have Ny279:=zA cQ;clear cQ;obtain rfl:=zI H
              go_wp2_with (first|((with_reducible refine q0t (b:=.append) (xs:=#[.tmp 65,.tmp 68]) rfl ?_);at_builtin;refine q2j (Kd.int .i64) (w0:=w) w.heap.size rfl (.tmp 65) (.tmp 68) 24 3 (.int .i64 0) 8 rfl Try.underlying24 info3 rfl (by decide) (by omega) u5 aI (wrap64 (a1+1)) [.int .i64 (wrap64 (a1+1))] (fun _=>True) (fun _=>False) rfl rfl ?aP (fun _ hk=>hk.elim) ?aF ?aO ?aB ?aS ?aL ?_;(case aP=>exact rfl);(case aB=>exact zb);(case aF=>exact(fun _ _=>trivial));(case aO=>exact(zR aE));(case aS=>exact(q0f zb));(case aL=>have:=bR.out;omega);intro v276 gE ho hb hg hat;rw[←Ny275.out] at ho;replace aA:=zgr aA hg (q5s aE.out aA.out (by decide));replace HB:=zA hb;have aN:=zA ho;clear aE;clear ho hb hg hat;obtain⟨eP,eO,eN,eD,eC,eB⟩:=ze3 aA;have dE:=zT (0≤((aH):Int));have dC:=zT ((aH)<(aC.length:Int));obtain⟨dA,bS,aK⟩:=q3r aT.out (aH) zd zd;cases bS;replace aK:=zC HB aK)|((with_reducible refine q0t (b:=.append) (xs:=#[.tmp 89,.tmp 94]) rfl ?_);at_builtin;refine q2j (Kd.int .i64) (w0:=w) w.heap.size rfl (.tmp 89) (.tmp 94) 24 3 (.int .i64 0) 8 rfl Try.underlying24 info3 rfl (by decide) (by omega) v276 aU aH [.int .i64 aH] (fun _=>True) (fun _=>False) rfl rfl ?aP (fun _ hk=>hk.elim) ?aF ?aO ?aB ?aS ?aL ?_;(case aP=>exact rfl);(case aB=>exact zb);(case aF=>exact(fun _ _=>trivial));(case aO=>exact(zR aN));(case aS=>exact(q0f zb));(case aL=>have:=dR.out;omega);intro v280 gD ho hb hg hat;rw[←Ny279.out] at ho;replace aA:=zgr aA hg (q5s aN.out aA.out (by decide));replace HB:=zA hb;have dV:=zA ho;clear aN;clear ho hb hg hat))
              repeat (go_quiet (fail);try go_wp2_with (first|((with_reducible refine q0t (b:=.append) (xs:=#[.tmp 65,.tmp 68]) rfl ?_);at_builtin;refine q2j (Kd.int .i64) (w0:=w) w.heap.size rfl (.tmp 65) (.tmp 68) 24 3 (.int .i64 0) 8 rfl Try.underlying24 info3 rfl (by decide) (by omega) u5 aI (wrap64 (a1+1)) [.int .i64 (wrap64 (a1+1))] (fun _=>True) (fun _=>False) rfl rfl ?aP (fun _ hk=>hk.elim) ?aF ?aO ?aB ?aS ?aL ?_;(case aP=>exact rfl);(case aB=>exact zb);(case aF=>exact(fun _ _=>trivial));(case aO=>exact(zR aE));(case aS=>exact(q0f zb));(case aL=>have:=bR.out;omega);intro v276 gE ho hb hg hat;rw[←Ny275.out] at ho;replace aA:=zgr aA hg (q5s aE.out aA.out (by decide));replace HB:=zA hb;have aN:=zA ho;clear aE;clear ho hb hg hat;obtain⟨eP,eO,eN,eD,eC,eB⟩:=ze3 aA;have dE:=zT (0≤((aH):Int));have dC:=zT ((aH)<(aC.length:Int));obtain⟨dA,bS,aK⟩:=q3r aT.out (aH) zd zd;cases bS;replace aK:=zC HB aK)|((with_reducible refine q0t (b:=.append) (xs:=#[.tmp 89,.tmp 94]) rfl ?_);at_builtin;refine q2j (Kd.int .i64) (w0:=w) w.heap.size rfl (.tmp 89) (.tmp 94) 24 3 (.int .i64 0) 8 rfl Try.underlying24 info3 rfl (by decide) (by omega) v276 aU aH [.int .i64 aH] (fun _=>True) (fun _=>False) rfl rfl ?aP (fun _ hk=>hk.elim) ?aF ?aO ?aB ?aS ?aL ?_;(case aP=>exact rfl);(case aB=>exact zb);(case aF=>exact(fun _ _=>trivial));(case aO=>exact(zR aN));(case aS=>exact(q0f zb));(case aL=>have:=dR.out;omega);intro v280 gD ho hb hg hat;rw[←Ny279.out] at ho;replace aA:=zgr aA hg (q5s aN.out aA.out (by decide));replace HB:=zA hb;have dV:=zA ho;clear aN;clear ho hb hg hat)))
              go_ret;exact⟨_,by first|rfl|(simp[q1o,q1n] <;> rfl)|(simp only[←bJ];first|rfl|(simp[q1o,q1n] <;> rfl))|(simp[*,q1o,q1n] <;> rfl),zR dV,zb⟩
            ·rw[if_neg c40] at H;have dN:=decide_eq_false c40;clear c40;obtain rfl:=zI H
             go_wp2_with (first|((with_reducible refine q0t (b:=.append) (xs:=#[.tmp 65,.tmp 68]) rfl ?_);at_builtin;refine q2j (Kd.int .i64) (w0:=w) w.heap.size rfl (.tmp 65) (.tmp 68) 24 3 (.int .i64 0) 8 rfl Try.underlying24 info3 rfl (by decide) (by omega) u5 aI (wrap64 (a1+1)) [.int .i64 (wrap64 (a1+1))] (fun _=>True) (fun _=>False) rfl rfl ?aP (fun _ hk=>hk.elim) ?aF ?aO ?aB ?aS ?aL ?_;(case aP=>exact rfl);(case aB=>exact zb);(case aF=>exact(fun _ _=>trivial));(case aO=>exact(zR aE));(case aS=>exact(q0f zb));(case aL=>have:=bR.out;omega);intro v276 gC ho hb hg hat;rw[←Ny275.out] at ho;replace aA:=zgr aA hg (q5s aE.out aA.out (by decide));replace HB:=zA hb;have aN:=zA ho;clear aE;clear ho hb hg hat;obtain⟨eM,eL,eK,eA,dZ,dY⟩:=ze3 aA))
             repeat (go_quiet (fail);try go_wp2_with (first|((with_reducible refine q0t (b:=.append) (xs:=#[.tmp 65,.tmp 68]) rfl ?_);at_builtin;refine q2j (Kd.int .i64) (w0:=w) w.heap.size rfl (.tmp 65) (.tmp 68) 24 3 (.int .i64 0) 8 rfl Try.underlying24 info3 rfl (by decide) (by omega) u5 aI (wrap64 (a1+1)) [.int .i64 (wrap64 (a1+1))] (fun _=>True) (fun _=>False) rfl rfl ?aP (fun _ hk=>hk.elim) ?aF ?aO ?aB ?aS ?aL ?_;(case aP=>exact rfl);(case aB=>exact zb);(case aF=>exact(fun _ _=>trivial));(case aO=>exact(zR aE));(case aS=>exact(q0f zb));(case aL=>have:=bR.out;omega);intro v276 gC ho hb hg hat;rw[←Ny275.out] at ho;replace aA:=zgr aA hg (q5s aE.out aA.out (by decide));replace HB:=zA hb;have aN:=zA ho;clear aE;clear ho hb hg hat;obtain⟨eM,eL,eK,eA,dZ,dY⟩:=ze3 aA)))
             go_ret;exact⟨_,zE,zR aN,zb⟩
           ·replace dO:=Bool.eq_false_iff.mpr dO;subst dO;rw[if_neg zNo] at H
            by_cases c52:(wrap64 (a1+aD))<(aC.length:Int)
            ·rw[if_pos c52] at H;have dM:=decide_eq_true c52;clear c52;obtain⟨aM,bI⟩:∃ j_:Int,(wrap64 (a1+aD))=j_:=⟨_,rfl⟩
             replace H:(if 0≤(aM) then(if (rd aC (aM))=2 then(some aI) else(if aI.length<17592186044416 then(some (aI++[aM])) else(none))) else(none))=some r:=by first|(rw[bI] at H;exact H)|(simp only[bI] at H ⊢;exact H)
             (try rw[bI] at dM);have gI:(IntKind.i64.wrap (a1+aD))=aM:=(q2n _).trans bI;obtain⟨gN,H⟩:=q5b H;obtain⟨gA,fZ,fY,fU,fT,fS⟩:=ze3 aA;have gX:=zT (0≤((aM):Int));have gW:=zT ((aM)<(aC.length:Int));obtain⟨gP,fL,cN⟩:=q3r aT.out (aM) zd zd;cases fL;replace cN:=zC HB cN
             by_cases c55:(rd aC (aM))=2
             ·rw[if_pos c55] at H;have fA:((rd aC (aM))==2)=true:=beq_iff_eq.mpr c55;have eZ:((rd aC (aM)) != 2)=false:=bne_eq_false_iff_eq.mpr c55;clear c55;obtain rfl:=zI H;go_wp2
              repeat (go_quiet (fail);try go_wp2)
              go_ret;exact⟨_,by first|rfl|(simp[q1o,q1n] <;> rfl)|(simp only[←bI];first|rfl|(simp[q1o,q1n] <;> rfl))|(simp[*,q1o,q1n] <;> rfl),zR aE,zb⟩
             ·rw[if_neg c55] at H;have fA:((rd aC (aM))==2)=false:=beq_eq_false_iff_ne.mpr c55;have eZ:((rd aC (aM)) != 2)=true:=bne_iff_ne.mpr c55;obtain⟨dQ,H⟩:=q8c H;obtain⟨fH,cP⟩:∃ y_:List Int,y_=(aI++[aM]):=⟨_,rfl⟩
              replace H:(some fH)=some r:=zY cP H
              have Ny283:=zA cP;clear cP;obtain rfl:=zI H
              go_wp2_with (first|((with_reducible refine q0t (b:=.append) (xs:=#[.tmp 89,.tmp 94]) rfl ?_);at_builtin;refine q2j (Kd.int .i64) (w0:=w) w.heap.size rfl (.tmp 89) (.tmp 94) 24 3 (.int .i64 0) 8 rfl Try.underlying24 info3 rfl (by decide) (by omega) u5 aI aM [.int .i64 aM] (fun _=>True) (fun _=>False) rfl rfl ?aP (fun _ hk=>hk.elim) ?aF ?aO ?aB ?aS ?aL ?_;(case aP=>exact rfl);(case aB=>exact zb);(case aF=>exact(fun _ _=>trivial));(case aO=>exact(zR aE));(case aS=>exact(q0f zb));(case aL=>have:=dQ.out;omega);intro v284 gB ho hb hg hat;rw[←Ny283.out] at ho;replace aA:=zgr aA hg (q5s aE.out aA.out (by decide));replace HB:=zA hb;have dU:=zA ho;clear aE;clear ho hb hg hat))
              repeat (go_quiet (fail);try go_wp2_with (first|((with_reducible refine q0t (b:=.append) (xs:=#[.tmp 89,.tmp 94]) rfl ?_);at_builtin;refine q2j (Kd.int .i64) (w0:=w) w.heap.size rfl (.tmp 89) (.tmp 94) 24 3 (.int .i64 0) 8 rfl Try.underlying24 info3 rfl (by decide) (by omega) u5 aI aM [.int .i64 aM] (fun _=>True) (fun _=>False) rfl rfl ?aP (fun _ hk=>hk.elim) ?aF ?aO ?aB ?aS ?aL ?_;(case aP=>exact rfl);(case aB=>exact zb);(case aF=>exact(fun _ _=>trivial));(case aO=>exact(zR aE));(case aS=>exact(q0f zb));(case aL=>have:=dQ.out;omega);intro v284 gB ho hb hg hat;rw[←Ny283.out] at ho;replace aA:=zgr aA hg (q5s aE.out aA.out (by decide));replace HB:=zA hb;have dU:=zA ho;clear aE;clear ho hb hg hat)))
              go_ret;exact⟨_,by first|rfl|(simp[q1o,q1n] <;> rfl)|(simp only[←bI];first|rfl|(simp[q1o,q1n] <;> rfl))|(simp[*,q1o,q1n] <;> rfl),zR dU,zb⟩
            ·rw[if_neg c52] at H;have dM:=decide_eq_false c52;clear c52;obtain rfl:=zI H;obtain⟨fX,fW,fV,fR,fQ,fP⟩:=ze3 aA;go_wp2
             repeat (go_quiet (fail);try go_wp2)
             go_ret;exact⟨_,zE,zR aE,zb⟩

mutual
def q0r.l0:Nat→Int→List Int→Int→Int→Int→List Int→Option (List Int)
  |0,_,_,_,_,_,_=>none
  |k+1,a,b,d,e,f,c=>if d<(c.length:Int) then(if b.length<17592186044416 then(q0r.l0 k a (b++[(-1)]) (wrap64 (d+1)) e f c) else(none)) else(if 0≤a then(if a<(b.length:Int) then(q0r.l1 k (b.set (a:Int).toNat 0) (([a]:List Int)) 0 e f c) else(none)) else(none))
def q0r.l1:Nat→List Int→List Int→Int→Int→Int→List Int→Option (List Int)
  |0,_,_,_,_,_,_=>none
  |k+1,c,b,a,d,e,f=>if a<(b.length:Int) then(if 0≤a then((q0s.f k d e f (rd b a)).bind fun g=>(q0r.l2 k c b a g 0 d e f)) else(none)) else(some c)
def q0r.l2:Nat→List Int→List Int→Int→List Int→Int→Int→Int→List Int→Option (List Int)
  |0,_,_,_,_,_,_,_,_=>none
  |k+1,e,b,c,d,a,f,g,h=>if a<(d.length:Int) then(if 0≤a then(if 0≤(rd d a) then(if (rd d a)<(e.length:Int) then(if (rd e (rd d a))<0 then(if 0≤c then(if c<(b.length:Int) then(if 0≤(rd b c) then(if (rd b c)<(e.length:Int) then(if b.length<17592186044416 then(q0r.l2 k (e.set ((rd d a):Int).toNat (wrap64 ((rd e (rd b c))+1))) (b++[rd d a]) c d (wrap64 (a+1)) f g h) else(none)) else(none)) else(none)) else(none)) else(none)) else(q0r.l2 k e b c d (wrap64 (a+1)) f g h)) else(none)) else(none)) else(none)) else(q0r.l1 k e b (wrap64 (c+1)) f g h)
end
def q0r.f (k:Nat) (a:Int) (b:Int) (c:List Int) (d:Int):Option (List Int):=q0r.l0 k d (([]:List Int)) 0 a b c
def q0r.T16:Bool × List (List Nat × List Nat):=(true,[([],[]),([],[]),([],[]),([1,2],[1,2]),([3],[3]),([],[]),([],[]),([],[]),([6,7],[6,7]),([8],[8]),([5,9],[5,9]),([10],[10]),([11],[11]),([0,4,0,1,2,3,4,5,6,7,8,9,10,11,12],[0,4]),([13,12,0,1,2,3,4,5,6,7,8,9,10,11,12],[12,13])])
def q0r.B16:List Nat:=[0,0,0,6,14,0,0,0,192,448,992,2016,4064,8191,16383]
theorem q0r.tab16:q6q .any (opsOf Try.f87 16)=q0r.T16:=by kernel_rfl
theorem q0r.bits16:q4a q0r.T16.2 q0r.B16=true:=by kernel_rfl
theorem q0r.calls (k:Nat) (aK:Int) (aJ:Int) (aY:Option Addr) (aX:Nat) (aH:List Int) (a1:Int) (r:List Int) (w:World) (bN:Kd.C (Kd.int .i64) w aY aH.length aH) (bO:aH.length≤aX) (h:q0r.f k aK aJ aH a1=some r) :
  Calls Try.prog 87 #[.agg #[.int .i64 aK,.int .i64 aJ,.slice aY aH.length aX],.int .i64 a1] w fun e w'=>∃ v0_:Value,e=.returned (v0_)∧Kd.R (Kd.int .i64) 3 w' w.heap.size (fun _=>True) v0_ r∧Below w.heap.size w w':=by
 have hu36:=Try.underlying26
 have HR0_2:=zA bN
 have HC0_2:=zA bO
 clear bN bO
 have HB:=zA (Below.refl w.heap.size w)
 have H:(q0r.l0 k a1 (([]:List Int)) 0 aK aJ aH)=some r:=h
 clear h
 obtain⟨y140,hy140⟩:∃ y_:List Int,y_=(([]:List Int)):=⟨_,rfl⟩
 replace H:(q0r.l0 k a1 y140 0 aK aJ aH)=some r:=zY hy140 H
 have Ny140:=zA hy140
 clear hy140
 have H':=zA H
 clear H
 go_enter Try.func87,Try.ntmps87
 go_wp2_with (first|((with_reducible refine zgd 2 rfl ?_);refine q9k ?hg (N:=2) ?hd (cs:=#[.int .i64 aK,.int .i64 aJ,.slice aY aH.length aX]) (t:=26) ?hr ?_;(case hd=>rfl);(case hg=>rfl);(case hr=>first|(go_simp;done)|(go_simp;rfl));intro aQ hg w3 hbox hb;have aV:=zA (q1b (zb) hb);have aU:=zA hbox;have aT:=zA ((by rw[hg];exact(q0f (zb)):w.heap.size≤aQ));have bA:=zA ((by rw[hg];exact(q0f (zb)):w.heap.size≤aQ));clear HB;have HB:=aV;have aA:=aU;have bY:=aT;have aR:=bA;clear aV aU aT bA;clear hb hbox hg)|((with_reducible refine zgd 11 rfl ?_);refine q5z (Kd.int .i64) _ 3 ?hg (N:=11) ?hd (xs:=([]:List Int)) (inner:=[]) (ok:=fun _=>True) (okp:=fun _=>True) ?hr ?hp (fun _ hk=>hk) trivial (Below.refl _ _) (Nat.le_refl _) (by simp) ?_;(case hd=>rfl);(case hg=>rfl);(case hr=>first|(go_simp;done)|(go_simp;rfl));(case hp=>exact(q3o.none _ _));intro v141 w4 ho5 hb hg_ hnew_;clear hg_ hnew_;(first|rw[←Ny140.out] at ho5|(simp only[Int.reduceToNat] at ho5;rw[←Ny140.out] at ho5));have aV:=zA (q3f ho5 (q0f (zb)));have aU:=zA (q1f (g:=aQ) (o:=.cells #[.int .i64 aK,.int .i64 aJ,.slice aY aH.length aX] 26 (0,0)) (by(with_reducible repeat (first|refine q3m ?_ _|refine q3w ?_|refine q3b ?_ _));exact aA.out) hb);have aT:=zA (q1b (zb) hb);clear aA;clear HB;have bX:=aV;have aA:=aU;have HB:=aT;clear aV aU aT;clear hb ho5))
 go_loopg [5,6] k (fun kq v5 v6 w'=>∃ (aZ:List Int) (bE:Int),v6=.int .i64 bE∧q0a (q0r.l0 kq a1 aZ bE aK aJ aH=some r)∧q0a (kq≤k)∧q0a (Kd.R (Kd.int .i64) 3 w' w.heap.size (fun _=>True) v5 aZ)∧q0a (w'.heap[aQ]?=some (.cells #[.int .i64 aK,.int .i64 aJ,(.slice aY aH.length aX)] 26 (0,0)))∧q0a (Below w.heap.size w w'))
 case atStart=>exact⟨(y140),(0),(by first|rfl|(simp;done)|(simp[*];done)),H',⟨Nat.le_refl _⟩,⟨zR bX⟩,⟨zkf aA⟩,⟨zb⟩⟩
 case round =>
  clear H'
  try clear p2
  obtain⟨aZ,bE,rfl,HA,HK1,aD,aA,HB⟩:=hrel
  cases gk with
  |zero=>exact absurd HA.out (by simp[q0r.l0])
  |succ k1 =>
   have H:=HA.out
   clear HA
   simp only[q0r.l0] at H
   by_cases c6:bE<(aH.length:Int)
   ·rw[if_pos c6] at H
    have bM:decide (bE<(aH.length:Int))=true:=decide_eq_true c6
    clear c6
    by_cases c7:aZ.length<17592186044416
    ·rw[if_pos c7] at H
     have LMc7:=zA c7
     clear c7
     obtain⟨y143,hy143⟩:∃ y_:List Int,y_=(aZ++[(-1)]):=⟨_,rfl⟩
     replace H:(q0r.l0 k1 a1 y143 (wrap64 (bE+1)) aK aJ aH)=some r:=zY hy143 H
     have Ny143:=zA hy143
     clear hy143
     have H':=zA H
     clear H
     have hcz8_0:wr.cell? ⟨aQ,0,none⟩=some (.int .i64 aK):=(q2t aA.out 0).trans rfl
     have hcz8_1:wr.cell? ⟨aQ,1,none⟩=some (.int .i64 aJ):=(q2t aA.out 1).trans rfl
     have hcz8_2:wr.cell? ⟨aQ,2,none⟩=some (.slice aY aH.length aX):=(q2t aA.out 2).trans rfl
     have hfz8_0:=q0c aA.out 0
     have hfz8_1:=q0c aA.out 1
     have hfz8_2:=q0c aA.out 2
     go_wp2_with (first|((with_reducible refine q0t (b:=.append) (xs:=#[.tmp 19,.tmp 20]) rfl ?_);at_builtin;refine q2j (Kd.int .i64) (w0:=w) w.heap.size rfl (.tmp 19) (.tmp 20) 24 3 (.int .i64 0) 8 rfl Try.underlying24 info3 rfl (by decide) (by omega) u5 aZ (-1) [.int .i64 (-1)] (fun _=>True) (fun _=>False) rfl rfl ?aP (fun _ hk=>hk.elim) ?aF ?aO ?aB ?aS ?aL ?_;(case aP=>exact rfl);(case aB=>exact(zb));(case aF=>exact(fun _ _=>trivial));(case aO=>exact(zR aD));(case aS=>exact(q0f (zb)));(case aL=>have:=LMc7.out;omega);intro v144 w9 ho hb hg hat;rw[←Ny143.out] at ho;have aV:=zA (q4r (g:=aQ) (o:=.cells #[.int .i64 aK,.int .i64 aJ,.slice aY aH.length aX] 26 (0,0)) (by(with_reducible repeat (first|refine q3m ?_ _|refine q3w ?_|refine q3b ?_ _));exact aA.out) hg (q5s aD.out aA.out (by decide)));have aU:=zA hb;have aT:=zA ho;clear aA;clear HB;clear aD;have aA:=aV;have HB:=aU;have bW:=aT;clear aV aU aT;clear ho hb hg hat))
     go_roundg k1
     case measure=>have:=HK1.out;omega
     case rel=>exact⟨(y143),(wrap64 (bE+1)),(by first|rfl|(simp;done)|(simp[*];done)),H',⟨by have:=HK1.out;omega⟩,⟨zR bW⟩,⟨zkf aA⟩,⟨zb⟩⟩
    ·rw[if_neg c7] at H
     exact absurd H (by simp)
   ·rw[if_neg c6] at H
    have bM:decide (bE<(aH.length:Int))=false:=decide_eq_false c6
    clear c6
    by_cases c10:0≤a1
    ·rw[if_pos c10] at H
     have c10b0:decide (0≤a1)=true:=decide_eq_true c10
     clear c10
     by_cases c11:a1<(aZ.length:Int)
     ·rw[if_pos c11] at H
      have c11b0:decide (a1<(aZ.length:Int))=true:=decide_eq_true c11
      clear c11
      obtain⟨bK,hy146⟩:∃ y_:List Int,y_=(aZ.set (a1:Int).toNat 0):=⟨_,rfl⟩
      replace H:(q0r.l1 k1 bK (([a1]:List Int)) 0 aK aJ aH)=some r:=zY hy146 H
      have Ny146:=zA hy146
      clear hy146
      obtain⟨y147,hy147⟩:∃ y_:List Int,y_=(([a1]:List Int)):=⟨_,rfl⟩
      replace H:(q0r.l1 k1 bK y147 0 aK aJ aH)=some r:=zY hy147 H
      have Ny147:=zA hy147
      clear hy147
      have H':=zA H
      clear H
      have hcz13_0:wr.cell? ⟨aQ,0,none⟩=some (.int .i64 aK):=(q2t aA.out 0).trans rfl
      have hcz13_1:wr.cell? ⟨aQ,1,none⟩=some (.int .i64 aJ):=(q2t aA.out 1).trans rfl
      have hcz13_2:wr.cell? ⟨aQ,2,none⟩=some (.slice aY aH.length aX):=(q2t aA.out 2).trans rfl
      have hfz13_0:=q0c aA.out 0
      have hfz13_1:=q0c aA.out 1
      have hfz13_2:=q0c aA.out 2
      have p12:0≤(a1:Int):=of_decide_eq_true (by first|(with_reducible assumption)|assumption)
      have q12:(a1:Int)<((aZ.length:Int):Int):=of_decide_eq_true (by first|(with_reducible assumption)|assumption)
      obtain⟨go12,bG,eo12,gb12,gl12,cl12,HG12⟩:=q8z aD.out (by omega)
      (first|cases eo12|(injection eo12 with ea_ en_ ec_;(first|subst ea_|(injection ea_ with ea_;subst ea_));subst ec_;clear en_))
      have GB12:=zA gb12
      have GG12:=zA HG12
      clear gb12 gl12 HG12
      obtain⟨hx12_0,hf12_0⟩:=q7g 0 aD.out (a1:Int) p12 q12
      replace p12:=eq_true p12
      replace q12:=eq_true q12
      have HP14:=q9u aD.out (a1:Int) 0
      go_wp2_with (first|((with_reducible refine q6n (t:=3) (p:=24) rfl ?_);refine q6a (t:=3) (p:=24) (v:=?vo_w15) (w1:=(wr.setCell ⟨go12,(a1:Int).toNat,none⟩ (.int .i64 0))) ?hg ?ho ?hn ?hr ?_;(case ho=>rfl);(case hg=>rfl);(case hn=>rfl);(case hr=>first|(go_simp;done)|(go_simp;rfl));intro bQ hw;have hg:wr.grownBy bQ (some go12):=(by rw[hw];exact HP14.2);have hp_:Kd.R (Kd.int .i64) 3 bQ w.heap.size (fun _=>True) (.slice (some ⟨go12,0,none⟩) aZ.length bG) bK:=(by rw[hw,Ny146.out];exact HP14.1);clear HP14;have aV:=zA hp_;have aU:=zA (q4r (g:=aQ) (o:=.cells #[.int .i64 aK,.int .i64 aJ,.slice aY aH.length aX] 26 (0,0)) (by(with_reducible repeat (first|refine q3m ?_ _|refine q3w ?_|refine q3b ?_ _));exact aA.out) hg (q5s aD.out aA.out (by decide)));have aT:=zA ((by rw[hw];exact q3y (HB.out) GB12.out:Below w.heap.size w bQ));clear aD;clear aA;clear HB;have aD:=aV;have aA:=aU;have HB:=aT;clear aV aU aT;clear hg hw hp_)|((with_reducible refine zgd 26 rfl ?_);refine q5z (Kd.int .i64) _ 3 ?hg (N:=26) ?hd (xs:=([a1]:List Int)) (inner:=[.int .i64 a1]) (ok:=fun _=>True) (okp:=fun _=>True) ?hr ?hp (fun _ hk=>hk) trivial (Below.refl _ _) (Nat.le_refl _) (by simp) ?_;(case hd=>rfl);(case hg=>rfl);(case hr=>first|(go_simp;done)|(go_simp;rfl));(case hp=>exact(q3o.one (show Kd.M (Kd.int .i64) _ _ _ a1 [.int .i64 a1] from rfl) (q3o.none _ _)));intro v148 cD ho17 hb hg_ hnew_;clear hg_ hnew_;(first|rw[←Ny147.out] at ho17|(simp only[Int.reduceToNat] at ho17;rw[←Ny147.out] at ho17));have aV:=z_e aD ho17 hb;have aU:=zA (q3f (z_n ho17 aD) (q0f (zb)));have aT:=zA (q1f (g:=aQ) (o:=.cells #[.int .i64 aK,.int .i64 aJ,.slice aY aH.length aX] 26 (0,0)) (by(with_reducible repeat (first|refine q3m ?_ _|refine q3w ?_|refine q3b ?_ _));exact aA.out) hb);have bA:=zA (q1b (zb) hb);clear aD;clear aA;clear HB;have aD:=aV;have bV:=aU;have aA:=aT;have HB:=bA;clear aV aU aT bA;clear hb ho17))
      go_loopg [7,8] k1 (fun kq v7 v8 w'=>∃ (bF:List Int) (bB:List Int) (aE:Int),v8=.int .i64 aE∧q0a (q0r.l1 kq bF bB aE aK aJ aH=some r)∧q0a (kq≤k1)∧q0a (Kd.R (Kd.int .i64) 3 w' w.heap.size (fun k_=>some k_≠(v7:Value).ownBlock) (.slice (some ⟨go12,0,none⟩) aZ.length bG) bF)∧q0a (Kd.R (Kd.int .i64) 3 w' w.heap.size (fun k_=>some k_≠((.slice (some ⟨go12,0,none⟩) aZ.length bG):Value).ownBlock) v7 bB)∧q0a (w'.heap[aQ]?=some (.cells #[.int .i64 aK,.int .i64 aJ,(.slice aY aH.length aX)] 26 (0,0)))∧q0a (Below w.heap.size w w'))
      case atStart=>exact⟨(bK),(y147),(0),(by first|rfl|(simp;done)|(simp[*];done)),H',⟨Nat.le_refl _⟩,⟨z_2 aD⟩,⟨z_2 bV⟩,⟨zkf aA⟩,⟨zb⟩⟩
      case round =>
       clear H'
       try clear c1
       try clear p1
       try clear q1
       try clear hx1
       try clear p2
       try clear c6
       try clear bM
       try clear p6
       try clear c7
       try clear c10
       try clear c10b0
       try clear c11
       try clear c11b0
       try clear p12
       try clear q12
       try clear hx12
       try clear hf12
       try clear hcz13_0
       try clear hcz13_1
       try clear hcz13_2
       try clear hcz8_0
       try clear hcz8_1
       try clear hcz8_2
       try clear hfz13_0
       try clear hfz13_1
       try clear hfz13_2
       try clear hfz8_0
       try clear hfz8_1
       try clear hfz8_2
       try clear hx12_0
       try clear p12
       try clear p2
       try clear q12
       obtain⟨bF,bB,aE,rfl,HA,HK2,aD,aN,aA,HB⟩:=hrel
       have hl5_2:=(q0b aD.out).1
       rw[hl5_2] at aD
       (try simp only[hl5_2])
       (try simp only[hl5_2] at aA)
       (try simp only[hl5_2] at aN)
       cases gk with
       |zero=>exact absurd HA.out (by simp[q0r.l1])
       |succ k2 =>
        have H:=HA.out
        clear HA
        simp only[q0r.l1] at H
        by_cases c18:aE<(bB.length:Int)
        ·rw[if_pos c18] at H
         have bP:decide (aE<(bB.length:Int))=true:=decide_eq_true c18
         clear c18
         by_cases c19:0≤aE
         ·rw[if_pos c19] at H
          have c19b0:decide (0≤aE)=true:=decide_eq_true c19
          clear c19
          replace H:=Option.bind_eq_some_iff.mp H
          obtain⟨aG,A200,H⟩:=H
          replace H:(q0r.l2 k2 bF bB aE aG 0 aK aJ aH)=some r:=H
          have A20:=zA A200
          clear A200
          have H':=zA H
          clear H
          obtain⟨Ao21,co21,eo21⟩:=q0j aN.out
          subst eo21
          try go_wp2
          have aV:=z_d aD
          have aU:=z_d aN
          have aT:=q4h aA
          have bA:=z_b HB
          clear aD
          clear aN
          clear aA
          clear HB
          have aD:=aV
          have aN:=aU
          have aA:=aT
          have HB:=bA
          clear aV aU aT bA
          have p150:0≤(aE:Int):=of_decide_eq_true (by first|(with_reducible assumption)|assumption)
          have q150:aE<(bB.length:Int):=of_decide_eq_true (by first|(with_reducible assumption)|assumption)
          obtain⟨ad150,e150,hx150_0⟩:=q3r (q0b aN.out).2.2 aE p150 q150
          cases e150
          replace p150:=eq_true p150
          replace q150:=eq_true q150
          refine q3g (n:=7) (S:=fun w'=>w'.cell? ⟨aQ,0,none⟩=some (.int .i64 aK)∧w'.cell? ⟨aQ,1,none⟩=some (.int .i64 aJ)∧w'.cell? ⟨aQ,2,none⟩=some (.slice aY aH.length aX)∧w'.cell? (ad150.add (aE).toNat)=some (.int .i64 (rd bB aE))) (ds:=[]) #[false,false,false,false,false,false,false] (by kernel_rfl) rfl rfl ⟨(q2t aA.out 0).trans rfl,(q2t aA.out 1).trans rfl,(q2t aA.out 2).trans rfl,hx150_0⟩ (fun hHeld=>?_)
          generalize wr.drew=cC at aD aN aA HB hx150_0 hHeld ⊢
          refine q5d (i:=1) (N:=some 34) (v:=?_) (a':=?_) #[false,true,false,false,false,false,false] rfl rfl (by kernel_rfl) (fun _ _ _ h=>h) (Or.inl ⟨by rfl,?_⟩) ?_ ?_
          rotate_left
          ·intro w'
           go_simp
           with_reducible rfl
          rotate_left
          ·simp only[Act.put,z_L,q2n,q3a]
           rfl
          refine q5d (i:=2) (N:=some 35) (v:=?_) (a':=?_) #[false,true,true,false,false,false,false] rfl rfl (by kernel_rfl) (fun _ _ _ h=>h) (Or.inl ⟨by rfl,?_⟩) ?_ ?_
          rotate_left
          ·intro w'
           go_simp
           with_reducible rfl
          rotate_left
          ·simp only[Act.put,z_L,q2n,q3a]
           rfl
          refine q5d (i:=3) (N:=some 36) (v:=?_) (a':=?_) #[false,true,true,true,false,false,false] rfl rfl (by kernel_rfl) (fun _ _ _ h=>h) (Or.inl ⟨by rfl,?_⟩) ?_ ?_
          rotate_left
          ·intro w'
           go_simp
           with_reducible rfl
          rotate_left
          ·simp only[Act.put,z_L,q2n,q3a]
           rfl
          refine q8w (i:=0) (N:=some 33) (v:=?_) (a':=?_) #[true,true,true,true,false,false,false] rfl rfl (by kernel_rfl) (fun _ _ _ h=>h) (Or.inl ⟨by rfl,?_⟩) hHeld ?_ ?_
          rotate_left
          ·rintro w' ⟨s0,s1,s2,s3⟩
           go_simp
           with_reducible rfl
          rotate_left
          ·simp only[Act.put,z_L,q2n,q3a]
           rfl
          refine q8w (i:=4) (N:=some 37) (v:=?_) (a':=?_) #[true,true,true,true,true,false,false] rfl rfl (by kernel_rfl) (fun _ _ _ h=>h) (Or.inl ⟨by rfl,?_⟩) hHeld ?_ ?_
          rotate_left
          ·rintro w' ⟨s0,s1,s2,s3⟩
           go_simp
           with_reducible rfl
          rotate_left
          ·simp only[Act.put,z_L,q2n,q3a]
           rfl
          refine one_ (i:=5) (N:=some 38) #[true,true,true,true,true,true,false] rfl rfl (by kernel_rfl) (by decide) (fun K hK=>?_)
          refine goes_ Try.func89 (by kernel_rfl) rfl #[.agg #[.int .i64 aK,.int .i64 aJ,.slice aY aH.length aX],.int .i64 (rd bB aE)] (by rfl) rfl rfl (by(try simp only[List.map_toArray,List.map_cons,List.map_nil]);first|done|rfl|(simp only[List.length_drop,List.length_take];rfl)) ?_
          with_reducible refine(q0s.calls k2 aK aJ _ _ aH (rd bB aE) aG _ ?s1 ?s2 A20.out).mono ?_
          (case s1=>repeat (first|exact(q3z HR0_2.out HB.out)|(with_reducible refine q6k ?_ _)|(with_reducible refine q6j ?_ _)|(with_reducible refine q7i ?_)))
          (case s2=>exact HC0_2.out)
          rintro e cB ⟨v152,rfl,ho0,hb⟩
          have HS3_:=(hb.cell (World.block_lt_of_cell? _ _ (hHeld.2.2.2))).trans (hHeld.2.2.2)
          refine⟨_,rfl,?_⟩
          have aV:=z_e aD ho0 hb
          have aU:=z_e aN ho0 hb
          have aT:=zA (q3f (z_n (z_n ho0 aD) aN) (q0f (zb)))
          have bA:=zA (q1f (g:=aQ) (o:=.cells #[.int .i64 aK,.int .i64 aJ,.slice aY aH.length aX] 26 (0,0)) (by(with_reducible repeat (first|refine q3m ?_ _|refine q3w ?_|refine q3b ?_ _));exact aA.out) hb)
          have bH:=zA (q1b (zb) hb)
          clear aD
          clear aN
          clear aA
          clear HB
          have aD:=aV
          have aN:=aU
          have HO153:=aT
          have aA:=bA
          have HB:=bH
          clear aV aU aT bA bH
          (try clear hb)
          (try clear hb2)
          (try clear hk)
          (try clear hi)
          (try clear ho0)
          refine hK.out _ _ ⟨(q2t aA.out 0).trans rfl,(q2t aA.out 1).trans rfl,(q2t aA.out 2).trans rfl,HS3_⟩ (fun hHeld=>?_)
          clear hK K
          refine q1j (a':=?_) ?_ ?_
          rotate_left
          ·show Act.put _ (some 38) _=_
           simp only[Act.put,z_L,q2n,q3a]
           rfl
          refine q5d (i:=6) (N:=some 9) (v:=?_) (a':=?_) #[true,true,true,true,true,true,true] rfl rfl (by kernel_rfl) (fun _ _ _ h=>h) (Or.inl ⟨by rfl,?_⟩) ?_ ?_
          rotate_left
          ·intro w'
           go_simp
           with_reducible rfl
          rotate_left
          ·simp only[Act.put,z_L,q2n,q3a]
           rfl
          refine q4j (by kernel_rfl) ?_
          try go_wp2
          go_loopg [7,10] k2 (fun kq v7 v10 w'=>∃ (aM:List Int) (aI:List Int) (aC:Int),v10=.int .i64 aC∧q0a (q0r.l2 kq aM aI aE aG aC aK aJ aH=some r)∧q0a (kq≤k2)∧q0a (Kd.R (Kd.int .i64) 3 w' w.heap.size (fun k_=>some k_≠(v7:Value).ownBlock∧some k_≠(v152:Value).ownBlock) (.slice (some ⟨go12,0,none⟩) bF.length bG) aM)∧q0a (Kd.R (Kd.int .i64) 3 w' w.heap.size (fun k_=>some k_≠((.slice (some ⟨go12,0,none⟩) bF.length bG):Value).ownBlock∧some k_≠(v152:Value).ownBlock) v7 aI)∧q0a (Kd.R (Kd.int .i64) 3 w' w.heap.size (fun k_=>some k_≠((.slice (some ⟨go12,0,none⟩) bF.length bG):Value).ownBlock∧some k_≠(v7:Value).ownBlock) v152 aG)∧q0a (w'.heap[aQ]?=some (.cells #[.int .i64 aK,.int .i64 aJ,(.slice aY aH.length aX)] 26 (0,0)))∧q0a (Below w.heap.size w w'))
          case atStart=>exact⟨(bF),(bB),(0),(by first|rfl|(simp;done)|(simp[*];done)),H',⟨Nat.le_refl _⟩,⟨by(try simp only[hl5_2]);(with_reducible repeat (first|apply q4k|apply q4g|apply q5a));exact aD.out⟩,⟨by(try simp only[hl5_2]);(with_reducible repeat (first|apply q4k|apply q4g|apply q5a));exact aN.out⟩,⟨by(try simp only[hl5_2]);(with_reducible repeat (first|apply q4k|apply q4g|apply q5a));exact q2s HO153.out (fun _ hk=>⟨hk.1.2,hk.2⟩)⟩,⟨by(try simp only[hl5_2]);(with_reducible repeat (first|refine q3m ?_ _|refine q3w ?_|refine q3b ?_ _));exact aA.out⟩,⟨zb⟩⟩
          case round =>
           clear H'
           try clear c1
           try clear p1
           try clear q1
           try clear hx1
           try clear p2
           try clear c6
           try clear bM
           try clear p6
           try clear c7
           try clear c10
           try clear c10b0
           try clear c11
           try clear c11b0
           try clear p12
           try clear q12
           try clear hx12
           try clear hf12
           try clear p15
           try clear q15
           try clear hx15
           try clear c18
           try clear bP
           try clear c19
           try clear c19b0
           try clear hcz13_0
           try clear hcz13_1
           try clear hcz13_2
           try clear hcz8_0
           try clear hcz8_1
           try clear hcz8_2
           try clear hfz13_0
           try clear hfz13_1
           try clear hfz13_2
           try clear hfz8_0
           try clear hfz8_1
           try clear hfz8_2
           try clear hx12_0
           try clear hx150_0
           try clear p1
           try clear p12
           try clear p150
           try clear p2
           try clear p6
           try clear q1
           try clear q12
           try clear q150
           obtain⟨aM,aI,aC,rfl,HA,HK3,aD,aN,aW,aA,HB⟩:=hrel
           have hl5_3:=(q0b aD.out).1
           rw[hl5_3] at aD
           (try simp only[hl5_3])
           (try simp only[hl5_3] at aA)
           (try simp only[hl5_3] at aN)
           (try simp only[hl5_3] at aW)
           cases gk with
           |zero=>exact absurd HA.out (by simp[q0r.l2])
           |succ k3 =>
            have H:=HA.out
            clear HA
            simp only[q0r.l2] at H
            by_cases c24:aC<(aG.length:Int)
            ·rw[if_pos c24] at H
             have bT:decide (aC<(aG.length:Int))=true:=decide_eq_true c24
             clear c24
             by_cases c25:0≤aC
             ·rw[if_pos c25] at H
              have c25b0:decide (0≤aC)=true:=decide_eq_true c25
              clear c25
              by_cases c26:0≤(rd aG aC)
              ·rw[if_pos c26] at H
               have c26b0:decide (0≤(rd aG aC))=true:=decide_eq_true c26
               clear c26
               by_cases c27:(rd aG aC)<(aM.length:Int)
               ·rw[if_pos c27] at H
                have c27b0:decide ((rd aG aC)<(aM.length:Int))=true:=decide_eq_true c27
                clear c27
                by_cases c28:(rd aM (rd aG aC))<0
                ·rw[if_pos c28] at H
                 have bS:decide ((rd aM (rd aG aC))<0)=true:=decide_eq_true c28
                 clear c28
                 by_cases c29:0≤aE
                 ·rw[if_pos c29] at H
                  have c29b0:decide (0≤aE)=true:=decide_eq_true c29
                  clear c29
                  by_cases c30:aE<(aI.length:Int)
                  ·rw[if_pos c30] at H
                   have c30b0:decide (aE<(aI.length:Int))=true:=decide_eq_true c30
                   clear c30
                   by_cases c31:0≤(rd aI aE)
                   ·rw[if_pos c31] at H
                    have c31b0:decide (0≤(rd aI aE))=true:=decide_eq_true c31
                    clear c31
                    by_cases c32:(rd aI aE)<(aM.length:Int)
                    ·rw[if_pos c32] at H
                     have c32b0:decide ((rd aI aE)<(aM.length:Int))=true:=decide_eq_true c32
                     clear c32
                     obtain⟨y159,hy159⟩:∃ y_:List Int,y_=(aM.set ((rd aG aC):Int).toNat (wrap64 ((rd aM (rd aI aE))+1))):=⟨_,rfl⟩
                     replace H:(if aI.length<17592186044416 then(q0r.l2 k3 y159 (aI++[rd aG aC]) aE aG (wrap64 (aC+1)) aK aJ aH) else(none))=some r:=zY hy159 H
                     have Ny159:=zA hy159
                     clear hy159
                     by_cases c34:aI.length<17592186044416
                     ·rw[if_pos c34] at H
                      have LMc34:=zA c34
                      clear c34
                      obtain⟨y160,hy160⟩:∃ y_:List Int,y_=(aI++[rd aG aC]):=⟨_,rfl⟩
                      replace H:(q0r.l2 k3 y159 y160 aE aG (wrap64 (aC+1)) aK aJ aH)=some r:=zY hy160 H
                      have Ny160:=zA hy160
                      clear hy160
                      have H':=zA H
                      clear H
                      obtain⟨Ao35,co35,eo35⟩:=q0j aW.out
                      subst eo35
                      have p154:0≤(aC:Int):=of_decide_eq_true (by first|(with_reducible assumption)|assumption)
                      have q154:aC<(aG.length:Int):=of_decide_eq_true (by first|(with_reducible assumption)|assumption)
                      obtain⟨ad154,e154,hx154_0⟩:=q3r (q0b aW.out).2.2 aC p154 q154
                      cases e154
                      replace p154:=eq_true p154
                      replace q154:=eq_true q154
                      have p155:0≤((rd aG aC):Int):=of_decide_eq_true (by first|(with_reducible assumption)|assumption)
                      have q155:(rd aG aC)<(aM.length:Int):=of_decide_eq_true (by first|(with_reducible assumption)|assumption)
                      obtain⟨ad155,e155,hx155_0⟩:=q3r (q0b aD.out).2.2 (rd aG aC) p155 q155
                      obtain rfl:(⟨go12,0,none⟩:Addr)=ad155:=(by injection e155)
                      (first|simp only[add_plain] at hx155_0|simp only[add_at] at hx155_0|simp only[Addr.add,Nat.zero_add] at hx155_0|skip)
                      replace p155:=eq_true p155
                      replace q155:=eq_true q155
                      try go_wp2
                      have aV:=z_d aD
                      have aU:=z_d aN
                      have aT:=z_d aW
                      have bA:=q4h aA
                      have bH:=z_b HB
                      clear aD
                      clear aN
                      clear aW
                      clear aA
                      clear HB
                      have aD:=aV
                      have aN:=aU
                      have aW:=aT
                      have aA:=bA
                      have HB:=bH
                      clear aV aU aT bA bH
                      have p156:0≤(aC:Int):=of_decide_eq_true (by first|(with_reducible assumption)|assumption)
                      have q156:aC<(aG.length:Int):=of_decide_eq_true (by first|(with_reducible assumption)|assumption)
                      obtain⟨ad156,e156,bJ⟩:=q3r (q0b aW.out).2.2 aC p156 q156
                      obtain rfl:ad154=ad156:=(by injection e156)
                      replace p156:=eq_true p156
                      replace q156:=eq_true q156
                      obtain⟨Ao37,co37,eo37⟩:=q0j aN.out
                      (first|subst eo37|(injection eo37 with f1_ f2_ f3_;have f4_:=f1_.symm;have f5_:=f3_.symm;clear f1_ f2_ f3_;subst f4_;subst f5_))
                      have bL:0≤(aE:Int):=of_decide_eq_true (by first|(with_reducible assumption)|assumption)
                      have q157:aE<(aI.length:Int):=of_decide_eq_true (by first|(with_reducible assumption)|assumption)
                      obtain⟨ad157,e157,bI⟩:=q3r (q0b aN.out).2.2 aE bL q157
                      cases e157
                      replace bL:=eq_true bL
                      replace q157:=eq_true q157
                      have p158:0≤((rd aI aE):Int):=of_decide_eq_true (by first|(with_reducible assumption)|assumption)
                      have q158:(rd aI aE)<(aM.length:Int):=of_decide_eq_true (by first|(with_reducible assumption)|assumption)
                      obtain⟨ad158,e158,bD⟩:=q3r (q0b aD.out).2.2 (rd aI aE) p158 q158
                      obtain rfl:(⟨go12,0,none⟩:Addr)=ad158:=(by injection e158)
                      (first|simp only[add_plain] at bD|simp only[add_at] at bD|simp only[Addr.add,Nat.zero_add] at bD|skip)
                      replace p158:=eq_true p158
                      replace q158:=eq_true q158
                      have p33:0≤((rd aG aC):Int):=of_decide_eq_true (by first|(with_reducible assumption)|assumption)
                      have q33:((rd aG aC):Int)<((aM.length:Int):Int):=of_decide_eq_true (by first|(with_reducible assumption)|assumption)
                      obtain⟨bR,hf33_0⟩:=q7g 0 aD.out ((rd aG aC):Int) p33 q33
                      replace p33:=eq_true p33
                      replace q33:=eq_true q33
                      have HP38:=R_putn aD.out ((rd aG aC):Int) (wrap64 ((rd aM (rd aI aE))+1))
                      rw[←Ny159.out] at HP38
                      have HQ38:=zA HP38
                      clear HP38
                      refine q3g (n:=15) (S:=fun w'=>w'.cell? (ad154.add (aC).toNat)=some (.int .i64 (rd aG aC))∧w'.cell? (ad157.add (aE).toNat)=some (.int .i64 (rd aI aE))∧w'.cell? ⟨go12,((rd aI aE)).toNat,none⟩=some (.int .i64 (rd aM (rd aI aE)))) (ds:=[14]) #[false,false,false,false,false,false,false,false,false,false,false,false,false,false,false] (by kernel_rfl) rfl rfl ⟨bJ,bI,bD⟩ (fun hHeld=>?_);refine q1m q0r.tab16 q0r.bits16 (fun HT_ HW_=>?_)
                      generalize wr.drew=cA at aD aN aW aA HB HQ38 hf33_0 bJ bI bD bR hHeld ⊢
                      refine q5d (i:=0) (N:=some 53) (v:=?_) (a':=?_) #[true,false,false,false,false,false,false,false,false,false,false,false,false,false,false] rfl rfl (q4x HT_.out (by kernel_rfl)) (fun _ _ _ h=>h) (Or.inl ⟨by rfl,?_⟩) ?_ ?_
                      rotate_left
                      ·intro w'
                       go_simp
                       with_reducible rfl
                      rotate_left
                      ·simp only[Act.put,z_L,q2n,q3a]
                       rfl
                      refine q5d (i:=1) (N:=some 54) (v:=?_) (a':=?_) #[true,true,false,false,false,false,false,false,false,false,false,false,false,false,false] rfl rfl (q4x HT_.out (by kernel_rfl)) (fun _ _ _ h=>h) (Or.inl ⟨by rfl,?_⟩) ?_ ?_
                      rotate_left
                      ·intro w'
                       go_simp
                       with_reducible rfl
                      rotate_left
                      ·simp only[Act.put,z_L,q2n,q3a]
                       rfl
                      refine q5d (i:=2) (N:=some 55) (v:=?_) (a':=?_) #[true,true,true,false,false,false,false,false,false,false,false,false,false,false,false] rfl rfl (q4x HT_.out (by kernel_rfl)) (fun _ _ _ h=>h) (Or.inl ⟨by rfl,?_⟩) ?_ ?_
                      rotate_left
                      ·intro w'
                       go_simp
                       with_reducible rfl
                      rotate_left
                      ·simp only[Act.put,z_L,q2n,q3a]
                       rfl
                      refine q5d (i:=3) (N:=some 56) (v:=?_) (a':=?_) #[true,true,true,true,false,false,false,false,false,false,false,false,false,false,false] rfl rfl (q4x HT_.out (by kernel_rfl)) (fun _ _ _ h=>h) (Or.inl ⟨by rfl,?_⟩) ?_ ?_
                      rotate_left
                      ·intro w'
                       go_simp
                       with_reducible rfl
                      rotate_left
                      ·simp only[Act.put,z_L,q2n,q3a]
                       rfl
                      refine q5d (i:=5) (N:=some 58) (v:=?_) (a':=?_) #[true,true,true,true,false,true,false,false,false,false,false,false,false,false,false] rfl rfl (q4x HT_.out (by kernel_rfl)) (fun _ _ _ h=>h) (Or.inl ⟨by rfl,?_⟩) ?_ ?_
                      rotate_left
                      ·intro w'
                       go_simp
                       with_reducible rfl
                      rotate_left
                      ·simp only[Act.put,z_L,q2n,q3a]
                       rfl
                      refine q5d (i:=6) (N:=some 59) (v:=?_) (a':=?_) #[true,true,true,true,false,true,true,false,false,false,false,false,false,false,false] rfl rfl (q4x HT_.out (by kernel_rfl)) (fun _ _ _ h=>h) (Or.inl ⟨by rfl,?_⟩) ?_ ?_
                      rotate_left
                      ·intro w'
                       go_simp
                       with_reducible rfl
                      rotate_left
                      ·simp only[Act.put,z_L,q2n,q3a]
                       rfl
                      refine q5d (i:=7) (N:=some 60) (v:=?_) (a':=?_) #[true,true,true,true,false,true,true,true,false,false,false,false,false,false,false] rfl rfl (q4x HT_.out (by kernel_rfl)) (fun _ _ _ h=>h) (Or.inl ⟨by rfl,?_⟩) ?_ ?_
                      rotate_left
                      ·intro w'
                       go_simp
                       with_reducible rfl
                      rotate_left
                      ·simp only[Act.put,z_L,q2n,q3a]
                       rfl
                      refine q5d (i:=8) (N:=some 61) (v:=?_) (a':=?_) #[true,true,true,true,false,true,true,true,true,false,false,false,false,false,false] rfl rfl (q4x HT_.out (by kernel_rfl)) (fun _ _ _ h=>h) (Or.inl ⟨by rfl,?_⟩) ?_ ?_
                      rotate_left
                      ·intro w'
                       go_simp
                       with_reducible rfl
                      rotate_left
                      ·simp only[Act.put,z_L,q2n,q3a]
                       rfl
                      refine q8w (i:=4) (N:=some 57) (v:=?_) (a':=?_) #[true,true,true,true,true,true,true,true,true,false,false,false,false,false,false] rfl rfl (q7u HT_.out HW_.out (by kernel_rfl)) (fun _ _ _ h=>h) (Or.inl ⟨by rfl,?_⟩) hHeld ?_ ?_
                      rotate_left
                      ·rintro w' ⟨s0,s1,s2⟩
                       go_simp
                       with_reducible rfl
                      rotate_left
                      ·simp only[Act.put,z_L,q2n,q3a]
                       rfl
                      refine q8w (i:=9) (N:=some 62) (v:=?_) (a':=?_) #[true,true,true,true,true,true,true,true,true,true,false,false,false,false,false] rfl rfl (q7u HT_.out HW_.out (by kernel_rfl)) (fun _ _ _ h=>h) (Or.inl ⟨by rfl,?_⟩) hHeld ?_ ?_
                      rotate_left
                      ·rintro w' ⟨s0,s1,s2⟩
                       go_simp
                       with_reducible rfl
                      rotate_left
                      ·simp only[Act.put,z_L,q2n,q3a]
                       rfl
                      refine q5d (i:=10) (N:=some 63) (v:=?_) (a':=?_) #[true,true,true,true,true,true,true,true,true,true,true,false,false,false,false] rfl rfl (q4x HT_.out (by kernel_rfl)) (fun _ _ _ h=>h) (Or.inl ⟨by rfl,?_⟩) ?_ ?_
                      rotate_left
                      ·intro w'
                       go_simp
                       with_reducible rfl
                      rotate_left
                      ·simp only[Act.put,z_L,q2n,q3a]
                       rfl
                      refine q8w (i:=11) (N:=some 64) (v:=?_) (a':=?_) #[true,true,true,true,true,true,true,true,true,true,true,true,false,false,false] rfl rfl (q7u HT_.out HW_.out (by kernel_rfl)) (fun _ _ _ h=>h) (Or.inl ⟨by rfl,?_⟩) hHeld ?_ ?_
                      rotate_left
                      ·rintro w' ⟨s0,s1,s2⟩
                       go_simp
                       with_reducible rfl
                      rotate_left
                      ·simp only[Act.put,z_L,q2n,q3a]
                       rfl
                      refine q5d (i:=12) (N:=some 65) (v:=?_) (a':=?_) #[true,true,true,true,true,true,true,true,true,true,true,true,true,false,false] rfl rfl (q4x HT_.out (by kernel_rfl)) (fun _ _ _ h=>h) (Or.inl ⟨by rfl,?_⟩) ?_ ?_
                      rotate_left
                      ·intro w'
                       go_simp
                       with_reducible rfl
                      rotate_left
                      ·simp only[Act.put,z_L,q2n,q3a]
                       rfl
                      refine q5d (i:=13) (N:=some 66) (v:=?_) (a':=?_) #[true,true,true,true,true,true,true,true,true,true,true,true,true,true,false] rfl rfl (q4x HT_.out (by kernel_rfl)) (fun _ _ _ h=>h) (Or.inl ⟨by rfl,?_⟩) ?_ ?_
                      rotate_left
                      ·intro w'
                       go_simp
                       with_reducible rfl
                      rotate_left
                      ·simp only[Act.put,z_L,q2n,q3a]
                       rfl
                      refine last_ (i:=14) (N:=none) #[true,true,true,true,true,true,true,true,true,true,true,true,true,true,true] rfl rfl (q8k HT_.out (by kernel_rfl)) (by decide) (fun K hK=>?_)
                      refine q6i (w1:=?_) (by rfl) rfl ?_ ?_
                      rotate_left
                      ·go_simp
                       rfl
                      refine hK.out _ _ ?_
                      clear hK K
                      refine q4j (q2e HT_.out (by kernel_rfl)) ?_
                      obtain⟨adN_,eN_,hxN_⟩:=q3r (q0b (q2s (q9b (p:=⟨go12,((rd aG aC):Int).toNat,none⟩) (q2s aW.out (fun k_ hk=>(⟨hk,fun e_=>hk.1 (by rw[e_];rfl)⟩:_∧k_≠go12))) (fun _ hk=>hk.2) (.int .i64 (wrap64 ((rd aM (rd aI aE))+1)))) (fun _ h_=>h_.1))).2.2 aC (of_decide_eq_true (by first|(with_reducible assumption)|assumption)) (of_decide_eq_true (by first|(with_reducible assumption)|assumption));cases eN_
                      try go_wp2_with (first|((with_reducible refine q0t (b:=.append) (xs:=#[.tmp 67,.tmp 72]) rfl ?_);at_builtin;refine q2j (Kd.int .i64) (w0:=w) w.heap.size rfl (.tmp 67) (.tmp 72) 24 3 (.int .i64 0) 8 rfl Try.underlying24 info3 rfl (by decide) (by omega) (.slice (some ad157) aI.length co37) aI (rd aG aC) [.int .i64 (rd aG aC)] (fun k_=>some k_≠(.slice (some ⟨go12,0,none⟩) aM.length bG:Value).ownBlock∧some k_≠(.slice (some ad154) aG.length co35:Value).ownBlock) (fun _=>False) rfl (by first|(go_simp;done)|(go_simp;rfl)) ?aP (fun _ hk=>hk.elim) ?aF ?aO ?aB ?aS ?aL ?_;(case aP=>exact rfl);(case aB=>exact(zb));(case aF=>exact(fun k_ hk=>⟨fresh' (q7f (zR HQ38)) k_ hk,fresh' (q7f (by(with_reducible repeat (first|apply q4k|apply q4g|apply q5a));exact(q2s (q9b (p:=⟨go12,((rd aG aC):Int).toNat,none⟩) (q2s aW.out (fun k_ hk=>(⟨hk,fun e_=>hk.1 (by rw[e_];rfl)⟩:_∧k_≠go12))) (fun _ hk=>hk.2) (.int .i64 (wrap64 ((rd aM (rd aI aE))+1)))) (fun _ h_=>h_.1)))) k_ hk⟩));(case aO=>exact(by(with_reducible repeat (first|apply q4k|apply q4g|apply q5a));exact q2s (q9b (p:=⟨go12,((rd aG aC):Int).toNat,none⟩) (q2s aN.out (fun k_ hk=>(⟨hk,fun e_=>hk.1 (by rw[e_];rfl)⟩:_∧k_≠go12))) (fun _ hk=>hk.2) (.int .i64 (wrap64 ((rd aM (rd aI aE))+1)))) (fun _ hk=>⟨hk.1.1,hk.1.2⟩)));(case aS=>exact(q0f (zb)));(case aL=>have:=LMc34.out;omega);intro v161 bZ ho hb hg hat;rw[←Ny160.out] at ho;have aV:=zA (q4l (ok:=(fun k_=>some k_≠(.slice (some ad154) aG.length co35:Value).ownBlock)) (z_o HQ38 (fun _ hk=>⟨hk.2,hk.1⟩)) hg hat);have aU:=zA (q4l (ok:=(fun k_=>some k_≠(.slice (some ⟨go12,0,none⟩) aM.length bG:Value).ownBlock)) (by(with_reducible repeat (first|apply q4k|apply q4g|apply q5a));exact q2s (q9b (p:=⟨go12,((rd aG aC):Int).toNat,none⟩) (q2s aW.out (fun k_ hk=>(⟨hk,fun e_=>hk.1 (by rw[e_];rfl)⟩:_∧k_≠go12))) (fun _ hk=>hk.2) (.int .i64 (wrap64 ((rd aM (rd aI aE))+1)))) (fun _ hk=>⟨hk.1.1,hk.1.2⟩)) hg hat);have aT:=zA (q4r (g:=aQ) (o:=.cells #[.int .i64 aK,.int .i64 aJ,.slice aY aH.length aX] 26 (0,0)) (by(with_reducible repeat (first|refine q3m ?_ _|refine q3w ?_|refine q3b ?_ _));refine q8q ?_ (by have h_:=q5s aD.out aA.out (by decide);intro e_;exact h_ (by rw[e_];rfl)) _;(with_reducible repeat (first|refine q3m ?_ _|refine q3w ?_|refine q3b ?_ _));exact aA.out) hg (q5s aN.out aA.out (by decide)));have bA:=zA hb;have bH:=zA ho;clear aD;clear aW;clear aA;clear HB;clear aN;have aD:=aV;have aW:=aU;have aA:=aT;have HB:=bA;have bU:=bH;clear aV aU aT bA bH;clear ho hb hg hat))
                      (try simp only[←hl5_3])
                      go_roundg k3
                      case measure=>have:=HK1.out;have:=HK2.out;have:=HK3.out;omega
                      case rel=>exact⟨(y159),(y160),(wrap64 (aC+1)),(by first|rfl|(simp;done)|(simp[*];done)),H',⟨by have:=HK1.out;have:=HK2.out;have:=HK3.out;omega⟩,⟨by(try simp only[hl5_2]);(try simp only[hl5_3]);(with_reducible repeat (first|apply q4k|apply q4g|apply q5a));exact q2s aD.out (fun _ hk=>⟨hk.2,hk.1⟩)⟩,⟨by(try simp only[hl5_2]);(try simp only[hl5_3]);(with_reducible repeat (first|apply q4k|apply q4g|apply q5a));exact bU.out⟩,⟨by(try simp only[hl5_2]);(try simp only[hl5_3]);(with_reducible repeat (first|apply q4k|apply q4g|apply q5a));exact aW.out⟩,⟨by(try simp only[hl5_2]);(try simp only[hl5_3]);(with_reducible repeat (first|refine q3m ?_ _|refine q3w ?_|refine q3b ?_ _));exact aA.out⟩,⟨zb⟩⟩
                     ·rw[if_neg c34] at H
                      exact absurd H (by simp)
                    ·rw[if_neg c32] at H
                     exact absurd H (by simp)
                   ·rw[if_neg c31] at H
                    exact absurd H (by simp)
                  ·rw[if_neg c30] at H
                   exact absurd H (by simp)
                 ·rw[if_neg c29] at H
                  exact absurd H (by simp)
                ·rw[if_neg c28] at H
                 have bS:decide ((rd aM (rd aG aC))<0)=false:=decide_eq_false c28
                 clear c28
                 have H':=zA H
                 clear H
                 obtain⟨Ao40,co40,eo40⟩:=q0j aW.out
                 subst eo40
                 have p154:0≤(aC:Int):=of_decide_eq_true (by first|(with_reducible assumption)|assumption)
                 have q154:aC<(aG.length:Int):=of_decide_eq_true (by first|(with_reducible assumption)|assumption)
                 obtain⟨ad154,e154,hx154_0⟩:=q3r (q0b aW.out).2.2 aC p154 q154
                 cases e154
                 replace p154:=eq_true p154
                 replace q154:=eq_true q154
                 have p155:0≤((rd aG aC):Int):=of_decide_eq_true (by first|(with_reducible assumption)|assumption)
                 have q155:(rd aG aC)<(aM.length:Int):=of_decide_eq_true (by first|(with_reducible assumption)|assumption)
                 obtain⟨ad155,e155,hx155_0⟩:=q3r (q0b aD.out).2.2 (rd aG aC) p155 q155
                 obtain rfl:(⟨go12,0,none⟩:Addr)=ad155:=(by injection e155)
                 (first|simp only[add_plain] at hx155_0|simp only[add_at] at hx155_0|simp only[Addr.add,Nat.zero_add] at hx155_0|skip)
                 replace p155:=eq_true p155
                 replace q155:=eq_true q155
                 go_wp2
                 (try simp only[←hl5_3])
                 go_roundg k3
                 case measure=>have:=HK1.out;have:=HK2.out;have:=HK3.out;omega
                 case rel=>exact⟨(aM),(aI),(wrap64 (aC+1)),(by first|rfl|(simp;done)|(simp[*];done)),H',⟨by have:=HK1.out;have:=HK2.out;have:=HK3.out;omega⟩,⟨by(try simp only[hl5_2]);(try simp only[hl5_3]);(with_reducible repeat (first|apply q4k|apply q4g|apply q5a));exact aD.out⟩,⟨by(try simp only[hl5_2]);(try simp only[hl5_3]);(with_reducible repeat (first|apply q4k|apply q4g|apply q5a));exact aN.out⟩,⟨by(try simp only[hl5_2]);(try simp only[hl5_3]);(with_reducible repeat (first|apply q4k|apply q4g|apply q5a));exact aW.out⟩,⟨by(try simp only[hl5_2]);(try simp only[hl5_3]);(with_reducible repeat (first|refine q3m ?_ _|refine q3w ?_|refine q3b ?_ _));exact aA.out⟩,⟨zb⟩⟩
               ·rw[if_neg c27] at H
                exact absurd H (by simp)
              ·rw[if_neg c26] at H
               exact absurd H (by simp)
             ·rw[if_neg c25] at H
              exact absurd H (by simp)
            ·rw[if_neg c24] at H
             have bT:decide (aC<(aG.length:Int))=false:=decide_eq_false c24
             clear c24
             have H':=zA H
             clear H
             obtain⟨Ao41,co41,eo41⟩:=q0j aW.out
             subst eo41
             go_wp2
             (try simp only[←hl5_2,←hl5_3])
             go_roundg k3
             case measure=>have:=HK1.out;have:=HK2.out;have:=HK3.out;omega
             case rel=>exact⟨(aM),(aI),(wrap64 (aE+1)),(by first|rfl|(simp;done)|(simp[*];done)),H',⟨by have:=HK1.out;have:=HK2.out;have:=HK3.out;omega⟩,⟨by(try simp only[hl5_2]);(try simp only[hl5_3]);(with_reducible repeat (first|apply q4k|apply q4g|apply q5a));exact q2s aD.out (fun _ hk=>hk.1)⟩,⟨by(try simp only[hl5_2]);(try simp only[hl5_3]);(with_reducible repeat (first|apply q4k|apply q4g|apply q5a));exact q2s aN.out (fun _ hk=>hk.1)⟩,⟨by(try simp only[hl5_2]);(try simp only[hl5_3]);(with_reducible repeat (first|refine q3m ?_ _|refine q3w ?_|refine q3b ?_ _));exact aA.out⟩,⟨zb⟩⟩
         ·rw[if_neg c19] at H
          exact absurd H (by simp)
        ·rw[if_neg c18] at H
         have bP:decide (aE<(bB.length:Int))=false:=decide_eq_false c18
         clear c18
         obtain rfl:=zI H
         obtain⟨Ao42,co42,eo42⟩:=q0j aN.out
         subst eo42
         go_wp2
         go_ret
         exact⟨_,zE,z_t aD,zb⟩
     ·rw[if_neg c11] at H
      exact absurd H (by simp)
    ·rw[if_neg c10] at H
     exact absurd H (by simp)

def q3i.l0:Nat→Int→List Int→List Int→Int→Option (List Int)
  |0,_,_,_,_=>none
  |k+1,d,c,b,a=>if a<(b.length:Int) then(if 0≤a then(if (rd b a)≥0 then(if (rd b a)≤d then(if c.length<17592186044416 then(q3i.l0 k d (c++[a]) b (wrap64 (a+1))) else(none)) else(q3i.l0 k d c b (wrap64 (a+1)))) else(q3i.l0 k d c b (wrap64 (a+1)))) else(none)) else(some c)
def q3i.f (k:Nat) (a:Int) (b:Int) (c:List Int) (d:Int) (f:Int):Option (List Int):=(some (([]:List Int):List Int)).bind fun e=>((q1y.f k a b c d).bind fun g=>(if g=true then((q0r.f k a b c d).bind fun h=>(q3i.l0 k f e h 0)) else(some e)))
theorem q3i.calls (k:Nat) (aH:Int) (aG:Int) (aM:Option Addr) (aK:Nat) (aD:List Int) (a1:Int) (a2:Int) (r:List Int) (w:World) (aZ:Kd.C (Kd.int .i64) w aM aD.length aD) (bA:aD.length≤aK) (h:q3i.f k aH aG aD a1 a2=some r) :
  Calls Try.prog 71 #[.agg #[.int .i64 aH,.int .i64 aG,.slice aM aD.length aK],.int .i64 a1,.int .i64 a2] w fun e w'=>∃ v0_:Value,e=.returned (v0_)∧Kd.R (Kd.int .i64) 3 w' w.heap.size (fun _=>True) v0_ r∧Below w.heap.size w w':=by
 have hu26:=Try.underlying26;have aV:=zA aZ;have aW:=zA bA;clear aZ bA;have HB:=zA (Below.refl w.heap.size w);have H:=h;clear h;unfold q3i.f at H;obtain⟨aX,aU⟩:∃ y_:List Int,y_=(([]:List Int)):=⟨_,rfl⟩
 replace H:((q1y.f k aH aG aD a1).bind fun aY=>(if aY=true then((q0r.f k aH aG aD a1).bind fun aE=>(q3i.l0 k a2 aX aE 0)) else(some aX)))=some r:=zY aU H
 have Ny311:=zA aU;clear aU;obtain⟨aY,A4,H⟩:=zB H;go_enter Try.func71,Try.ntmps71
 by_cases c5:aY=true
 ·subst c5;rw[if_pos rfl] at H;obtain⟨aE,A6,H⟩:=zB H;have H':=zA H;clear H
  go_wp2_with (first|((with_reducible refine zgd 3 rfl ?_);refine zbx 3 #[.int .i64 aH,.int .i64 aG,.slice aM aD.length aK] 26 ?_;intro bB hg w7 hbox hb;have aA:=zA hbox;have bZ:=zga (w:=w) hg;replace HB:=zbs hb;clear hb hbox hg)|((with_reducible refine zgd 10 rfl ?_);refine q5z (Kd.int .i64) _ 3 ?hg (N:=10) ?hd (xs:=([]:List Int)) (inner:=[]) (ok:=fun _=>True) (okp:=fun _=>True) ?hr ?hp (fun _ hk=>hk) trivial (Below.refl _ _) (Nat.le_refl _) (by simp) ?_;(case hd=>rfl);(case hg=>rfl);(case hr=>first|(go_simp;done)|(go_simp;rfl));(case hp=>exact(q3o.none _ _));intro v312 w8 ho9 hb hg_ hnew_;clear hg_ hnew_;(first|rw[←Ny311.out] at ho9|(simp only[Int.reduceToNat] at ho9;rw[←Ny311.out] at ho9));have aI:=z_l ho9;replace aA:=zkb aA hb;replace HB:=zbs hb;clear hb ho9;obtain⟨bO,bN,bM,bI,bH,bG⟩:=ze3 aA)|((with_reducible refine zgf 60 rfl ?_);refine zgl 13 Try.func60 #[.agg #[.int .i64 aH,.int .i64 aG,.slice aM aD.length aK],.int .i64 a1] ?_;(with_reducible refine(q1y.calls k aH aG _ _ aD a1 true _ ?s1 ?s2 A4.out).mono ?_);(case s1=>exact zCb aV);(case s2=>exact aW.out);rintro e cZ ⟨rfl,hb⟩;refine⟨_,rfl,?_⟩;replace aI:=zRb aI hb;replace aA:=zkb aA hb;replace HB:=zbs hb;(try clear hb);obtain⟨bL,bK,bJ,bF,bE,bD⟩:=ze3 aA)|((with_reducible refine zgf 87 rfl ?_);refine zgl 18 Try.func87 #[.agg #[.int .i64 aH,.int .i64 aG,.slice aM aD.length aK],.int .i64 a1] ?_;(with_reducible refine(q0r.calls k aH aG _ _ aD a1 aE _ ?s1 ?s2 A6.out).mono ?_);(case s1=>exact zCb aV);(case s2=>exact aW.out);rintro e cY ⟨v316,rfl,ho0,hb⟩;refine⟨_,rfl,?_⟩;have bY:=z_l (z_n ho0 aI);replace aI:=z_e aI ho0 hb;replace aA:=zkb aA hb;replace HB:=zbs hb;(try clear hb);(try clear ho0)))
  go_loopg [7,9] k (fun kq v7 v9 w'=>∃ (aN:List Int) (aC:Int),v9=.int .i64 aC∧q0a (q3i.l0 kq a2 aN aE aC=some r)∧q0a (kq≤k)∧q0a (Kd.R (Kd.int .i64) 3 w' w.heap.size (fun k_=>some k_≠(v316:Value).ownBlock) v7 aN)∧q0a (Kd.R (Kd.int .i64) 3 w' w.heap.size (fun k_=>some k_≠(v7:Value).ownBlock) v316 aE)∧q0a (w'.heap[bB]?=some (.cells #[.int .i64 aH,.int .i64 aG,(.slice aM aD.length aK)] 26 (0,0)))∧q0a (Below w.heap.size w w'))
  case atStart=>exact⟨(aX),(0),zr,H',⟨Nat.le_refl _⟩,⟨z_2 aI⟩,⟨z_2 bY⟩,⟨zk aA⟩,⟨zb⟩⟩
  case round =>
   clear H';(try clear c5);(try clear bO);(try clear bN);(try clear bM);(try clear bL);(try clear bK);(try clear bJ);(try clear bI);(try clear bH);(try clear bG);(try clear bF);(try clear bE);(try clear bD);obtain⟨aN,aC,rfl,HA,HK1,aQ,aJ,aA,HB⟩:=hrel
   cases gk with
   |zero=>exact absurd HA.out (by simp[q3i.l0])
   |succ k1 =>
    have H:=HA.out;clear HA;simp only[q3i.l0] at H;obtain⟨cS,cD,cA⟩:=q0j aJ.out;subst cA
    by_cases c14:aC<(aE.length:Int)
    ·rw[if_pos c14] at H;have bU:=decide_eq_true c14;clear c14;obtain⟨cN,H⟩:=q5b H;have cR:=zT (0≤(aC:Int));have cP:=zT (aC<(aE.length:Int));obtain⟨bC,cC,cF⟩:=q3r (q0b aJ.out).2.2 aC zd zd;cases cC
     by_cases c16:(rd aE aC)≥0
     ·rw[if_pos c16] at H;have bT:decide (0≤(rd aE aC))=true:=decide_eq_true c16;clear c16;have cQ:=zT (0≤(aC:Int));have cO:=zT (aC<(aE.length:Int));obtain⟨bV,cB,cE⟩:=q3r (q0b aJ.out).2.2 aC zd zd;obtain rfl:bC=bV:=(by injection cB)
      by_cases c17:(rd aE aC)≤a2
      ·rw[if_pos c17] at H;have bS:=decide_eq_true c17;clear c17;obtain⟨bW,H⟩:=q8c H;obtain⟨bQ,aT⟩:∃ y_:List Int,y_=(aN++[aC]):=⟨_,rfl⟩
       replace H:(q3i.l0 k1 a2 bQ aE (wrap64 (aC+1)))=some r:=zY aT H
       have Ny320:=zA aT;clear aT;have H':=zA H;clear H
       go_wp2_with (first|((with_reducible refine q0t (b:=.append) (xs:=#[.tmp 38,.tmp 40]) rfl ?_);at_builtin;refine q2j (Kd.int .i64) (w0:=w) w.heap.size rfl (.tmp 38) (.tmp 40) 24 3 (.int .i64 0) 8 rfl Try.underlying24 info3 rfl (by decide) (by omega) u7 aN aC [.int .i64 aC] (fun k_=>some k_≠(.slice (some bC) aE.length cD:Value).ownBlock) (fun _=>False) rfl rfl ?aP (fun _ hk=>hk.elim) ?aF ?aO ?aB ?aS ?aL ?_;(case aP=>exact rfl);(case aB=>exact zb);(case aF=>exact(fun k_ hk=>fresh' (q7f (zR aJ)) k_ hk));(case aO=>exact(zR aQ));(case aS=>exact(q0f zb));(case aL=>have:=bW.out;omega);intro v321 cX ho hb hg hat;rw[←Ny320.out] at ho;replace aJ:=zA (q4l (ok:=(fun _=>True)) (z_o aJ (fun _ hk=>⟨trivial,hk⟩)) hg hat);replace aA:=zgr aA hg (q5s aQ.out aA.out (by decide));replace HB:=zA hb;have bX:=zA ho;clear aQ;clear ho hb hg hat))
       go_roundg k1
       case measure=>have:=HK1.out;omega
       case rel=>exact⟨(bQ),(wrap64 (aC+1)),zr,H',⟨by have:=HK1.out;omega⟩,⟨zR bX⟩,⟨z_2 aJ⟩,⟨zk aA⟩,⟨zb⟩⟩
      ·rw[if_neg c17] at H;have bS:=decide_eq_false c17;clear c17;have H':=zA H;clear H;go_wp2
       go_roundg k1
       case measure=>have:=HK1.out;omega
       case rel=>exact⟨(aN),(wrap64 (aC+1)),zr,H',⟨by have:=HK1.out;omega⟩,⟨zR aQ⟩,⟨zR aJ⟩,⟨zk aA⟩,⟨zb⟩⟩
     ·rw[if_neg c16] at H;have bT:decide (0≤(rd aE aC))=false:=decide_eq_false c16;clear c16;have H':=zA H;clear H;go_wp2
      go_roundg k1
      case measure=>have:=HK1.out;omega
      case rel=>exact⟨(aN),(wrap64 (aC+1)),zr,H',⟨by have:=HK1.out;omega⟩,⟨zR aQ⟩,⟨zR aJ⟩,⟨zk aA⟩,⟨zb⟩⟩
    ·rw[if_neg c14] at H;have bU:=decide_eq_false c14;clear c14;obtain rfl:=zI H;go_wp2;go_ret;exact⟨_,zE,z_t aQ,zb⟩
 ·replace c5:=Bool.eq_false_iff.mpr c5;subst c5;rw[if_neg zNo] at H;obtain rfl:=zI H
  go_wp2_with (first|((with_reducible refine zgd 3 rfl ?_);refine zbx 3 #[.int .i64 aH,.int .i64 aG,.slice aM aD.length aK] 26 ?_;intro bB hg cW hbox hb;have aA:=zA hbox;have bZ:=zga (w:=w) hg;replace HB:=zbs hb;clear hb hbox hg)|((with_reducible refine zgd 10 rfl ?_);refine q5z (Kd.int .i64) _ 3 ?hg (N:=10) ?hd (xs:=([]:List Int)) (inner:=[]) (ok:=fun _=>True) (okp:=fun _=>True) ?hr ?hp (fun _ hk=>hk) trivial (Below.refl _ _) (Nat.le_refl _) (by simp) ?_;(case hd=>rfl);(case hg=>rfl);(case hr=>first|(go_simp;done)|(go_simp;rfl));(case hp=>exact(q3o.none _ _));intro v312 cV ho26 hb hg_ hnew_;clear hg_ hnew_;(first|rw[←Ny311.out] at ho26|(simp only[Int.reduceToNat] at ho26;rw[←Ny311.out] at ho26));have aI:=z_l ho26;replace aA:=zkb aA hb;replace HB:=zbs hb;clear hb ho26;obtain⟨cL,cK,cJ,cI,cH,cG⟩:=ze3 aA)|((with_reducible refine zgf 60 rfl ?_);refine zgl 13 Try.func60 #[.agg #[.int .i64 aH,.int .i64 aG,.slice aM aD.length aK],.int .i64 a1] ?_;(with_reducible refine(q1y.calls k aH aG _ _ aD a1 false _ ?s1 ?s2 A4.out).mono ?_);(case s1=>exact zCb aV);(case s2=>exact aW.out);rintro e cU ⟨rfl,hb⟩;refine⟨_,rfl,?_⟩;replace aI:=zRb aI hb;replace aA:=zkb aA hb;replace HB:=zbs hb;(try clear hb)))
  go_ret;exact⟨_,zE,zR aI,zb⟩
end Go.Proofs.Ytkonccdanjhngaa.Q
