/- Walks of 3 functions of the program: each comes to what a plain function tells. -/
import Derived.Test.YtdnbfegkplpngaaG0
import Derived.Test.YtdnbfegkplpngaaG1
namespace Go.Proofs.Ytdnbfegkplpngaa.Q
open Go.RowKit Go.Proofs.YtdnbfegkplpngaaW.PrintWords Go.Proofs.YtdnbfegkplpngaaW.PrintLast Go.Proofs.YtdnbfegkplpngaaW.PrintMore Go.Proofs.YtdnbfegkplpngaaW.Zip
attribute [local go_sem] max2_int min2_int max_two min_two max_three min_three max_four min_four   -- for this text's walks alone
set_option linter.unusedVariables false
set_option maxHeartbeats 8000000
set_option maxRecDepth 100000
set_option linter.unusedSimpArgs false

mutual
def spec_l4Near.j0:Nat→Int→List Int→Bool→Int→Int→List Int→Option (List Int)
  |0,_,_,_,_,_,_=>none
  |k+1,x1,x5,x21,x263000,x263001,x263002=>if x21=true then(if x5.length<17592186044416 then(spec_l4Near.j1 k x1 (x5++[wrap64 (x1-x263000)]) x263000 x263001 x263002) else(none)) else(spec_l4Near.j1 k x1 x5 x263000 x263001 x263002)
def spec_l4Near.j1:Nat→Int→List Int→Int→Int→List Int→Option (List Int)
  |0,_,_,_,_,_=>none
  |k+1,x1,x5,x263000,x263001,x263002=>if x263000=0 then(none) else(if (Int.tmod x1 x263000)>0 then(if 0≤(wrap64 (x1-1)) then(if (wrap64 (x1-1))<(x263002.length:Int) then(spec_l4Near.j2 k x1 x5 ((rd x263002 (wrap64 (x1-1))) != 2) x263000 x263001 x263002) else(none)) else(none)) else(spec_l4Near.j2 k x1 x5 false x263000 x263001 x263002))
def spec_l4Near.j2:Nat→Int→List Int→Bool→Int→Int→List Int→Option (List Int)
  |0,_,_,_,_,_,_=>none
  |k+1,x1,x5,x42,x263000,x263001,x263002=>if x42=true then(if x5.length<17592186044416 then(spec_l4Near.j3 k x1 (x5++[wrap64 (x1-1)]) x263000 x263001 x263002) else(none)) else(spec_l4Near.j3 k x1 x5 x263000 x263001 x263002)
def spec_l4Near.j3:Nat→Int→List Int→Int→Int→List Int→Option (List Int)
  |0,_,_,_,_,_=>none
  |k+1,x1,x5,x263000,x263001,x263002=>if x263000=0 then(none) else(if (Int.tmod x1 x263000)<(wrap64 (x263000-1)) then(if 0≤(wrap64 (x1+1)) then(if (wrap64 (x1+1))<(x263002.length:Int) then(spec_l4Near.j4 k x1 x5 ((rd x263002 (wrap64 (x1+1))) != 2) x263000 x263001 x263002) else(none)) else(none)) else(spec_l4Near.j4 k x1 x5 false x263000 x263001 x263002))
def spec_l4Near.j4:Nat→Int→List Int→Bool→Int→Int→List Int→Option (List Int)
  |0,_,_,_,_,_,_=>none
  |k+1,x1,x5,x64,x263000,x263001,x263002=>if x64=true then(if x5.length<17592186044416 then((some (x5++[wrap64 (x1+1)]:List Int)).bind fun y275=>(if (wrap64 (x1+x263000))<(x263002.length:Int) then(if 0≤(wrap64 (x1+x263000)) then(if (rd x263002 (wrap64 (x1+x263000)))=2 then(some y275) else(if y275.length<17592186044416 then(some (y275++[wrap64 (x1+x263000)])) else(none))) else(none)) else(some y275))) else(none)) else(if (wrap64 (x1+x263000))<(x263002.length:Int) then(if 0≤(wrap64 (x1+x263000)) then(if (rd x263002 (wrap64 (x1+x263000)))=2 then(some x5) else(if x5.length<17592186044416 then(some (x5++[wrap64 (x1+x263000)])) else(none))) else(none)) else(some x5))
end
def spec_l4Near.f (k:Nat) (a0_0:Int) (a0_1:Int) (l0_2:List Int) (a1:Int):Option (List Int):=(some (([]:List Int):List Int)).bind fun y263=>(if a1≥a0_0 then(if 0≤(wrap64 (a1-a0_0)) then(if (wrap64 (a1-a0_0))<(l0_2.length:Int) then(spec_l4Near.j0 k a1 y263 ((rd l0_2 (wrap64 (a1-a0_0))) != 2) a0_0 a0_1 l0_2) else(none)) else(none)) else(spec_l4Near.j0 k a1 y263 false a0_0 a0_1 l0_2))
theorem spec_l4Near.calls (k:Nat) (aD:Int) (aJ:Int) (bM:Option Addr) (bL:Nat) (aC:List Int) (a1:Int) (r:List Int) (w:World) (dX:Kd.C (Kd.int .i64) w bM aC.length aC) (dY:aC.length≤bL) (h:spec_l4Near.f k aD aJ aC a1=some r) :
  Calls Try.prog 77 #[.agg #[.int .i64 aD,.int .i64 aJ,.slice bM aC.length bL],.int .i64 a1] w fun e w'=>∃ v0_:Value,e=.returned (v0_)∧Kd.R (Kd.int .i64) 3 w' w.heap.size (fun _=>True) v0_ r∧Below w.heap.size w w':=by
 have hu26:=Try.underlying26;have aT:=zA dX;have hU:=zA dY;clear dX dY;have HB:=zA (Below.refl w.heap.size w);have H:=h;clear h;unfold spec_l4Near.f at H;obtain⟨bK,dG⟩:∃ y_:List Int,y_=(([]:List Int)):=⟨_,rfl⟩
 replace H:(if a1≥aD then(if 0≤(wrap64 (a1-aD)) then(if (wrap64 (a1-aD))<(aC.length:Int) then(spec_l4Near.j0 k a1 bK ((rd aC (wrap64 (a1-aD))) != 2) aD aJ aC) else(none)) else(none)) else(spec_l4Near.j0 k a1 bK false aD aJ aC))=some r:=zY dG H
 have Ny263:=zA dG;clear dG;have fR:=zA H;clear H;go_enter Try.func77,Try.ntmps77
 go_upto_region 2 with (first|((with_reducible refine zgd 2 rfl ?_);refine zbx 2 #[.int .i64 aD,.int .i64 aJ,.slice bM aC.length bL] 26 ?_;intro bX hg w4 hbox hb;have aA:=zA hbox;have gA:=zga (w:=w) hg;replace HB:=zbs hb;clear hb hbox hg)|((with_reducible refine zgd 6 rfl ?_);refine Kd.R_lit (Kd.int .i64) _ 3 ?hg (N:=6) ?hd (xs:=([]:List Int)) (inner:=[]) (ok:=fun _=>True) (okp:=fun _=>True) ?hr ?hp (fun _ hk=>hk) trivial (Below.refl _ _) (Nat.le_refl _) (by simp) ?_;(case hd=>rfl);(case hg=>rfl);(case hr=>first|(go_simp;done)|(go_simp;rfl));(case hp=>exact(Reps.none _ _));intro v264 w5 ho6 hb hg_ hnew_;clear hg_ hnew_;(first|rw[←Ny263.out] at ho6|(simp only[Int.reduceToNat] at ho6;rw[←Ny263.out] at ho6));have dN:=zA (Kd.R_lower ho6 (below_size zb));replace aA:=zkb aA hb;replace HB:=zbs hb;clear hb ho6))
 repeat (go_quiet (fail);go_upto_region 2 with (first|((with_reducible refine zgd 2 rfl ?_);refine zbx 2 #[.int .i64 aD,.int .i64 aJ,.slice bM aC.length bL] 26 ?_;intro bX hg w4 hbox hb;have aA:=zA hbox;have gA:=zga (w:=w) hg;replace HB:=zbs hb;clear hb hbox hg)|((with_reducible refine zgd 6 rfl ?_);refine Kd.R_lit (Kd.int .i64) _ 3 ?hg (N:=6) ?hd (xs:=([]:List Int)) (inner:=[]) (ok:=fun _=>True) (okp:=fun _=>True) ?hr ?hp (fun _ hk=>hk) trivial (Below.refl _ _) (Nat.le_refl _) (by simp) ?_;(case hd=>rfl);(case hg=>rfl);(case hr=>first|(go_simp;done)|(go_simp;rfl));(case hp=>exact(Reps.none _ _));intro v264 w5 ho6 hb hg_ hnew_;clear hg_ hnew_;(first|rw[←Ny263.out] at ho6|(simp only[Int.reduceToNat] at ho6;rw[←Ny263.out] at ho6));have dN:=zA (Kd.R_lower ho6 (below_size zb));replace aA:=zkb aA hb;replace HB:=zbs hb;clear hb ho6)))
 (try simp only[Act.put,z_L])
 go_cut [21] (fun v21 wc=>∃ (kq:Nat) (cT:Bool),v21=.bool cT∧Aside0 (spec_l4Near.j0 kq a1 bK cT aD aJ aC=some r)∧Aside0 (kq≤k)∧Aside0 (Kd.R (Kd.int .i64) 3 wc w.heap.size (fun _=>True) v264 bK)∧Aside0 (wc.heap[bX]?=some (.cells #[.int .i64 aD,.int .i64 aJ,(.slice bM aC.length bL)] 26 (0,0)))∧Aside0 (Below w.heap.size w wc))
 case first =>
  have H:=fR.out;clear fR
  by_cases c7:a1≥aD
  ·rw[if_pos c7] at H;have aV:decide (aD≤a1)=true:=decide_eq_true c7;clear c7;(first|rw[aV]|(simp only[i64_w,i32_w];rw[aV])|skip);obtain⟨cR,dH⟩:∃ j_:Int,(wrap64 (a1-aD))=j_:=⟨_,rfl⟩
   replace H:(if 0≤(cR) then(if (cR)<(aC.length:Int) then(spec_l4Near.j0 k a1 bK ((rd aC (cR)) != 2) aD aJ aC) else(none)) else(none))=some r:=by first|(rw[dH] at H;exact H)|(simp only[dH] at H ⊢;exact H)
   have hO:(IntKind.i64.wrap (a1-aD))=cR:=(i64_w _).trans dH;obtain⟨cZ,H⟩:=zifD H;obtain⟨cD,H⟩:=zifD H;have H':=zA H;clear H;obtain⟨bJ,bI,bH,bD,bC,bB⟩:=ze3 aA;have cY:=zT (0≤((cR):Int));have cX:=zT ((cR)<(aC.length:Int));obtain⟨hT,gJ,aQ⟩:=Kd.at_int aT.out (cR) zd zd;cases gJ;replace aQ:=zC HB aQ;go_wp2
   repeat (go_quiet (fail);try go_wp2)
   go_meet
   case rel=>exact⟨_,(((rd aC (cR)) != 2)),(by first|rfl|(simp;done)|(simp only[←dH] <;> (first|rfl|simp))|(simp[*];done)),H',⟨by first|omega|exact Nat.le_refl _⟩,⟨zR dN⟩,⟨zk aA⟩,⟨zb⟩⟩
  ·rw[if_neg c7] at H;have aV:decide (aD≤a1)=false:=decide_eq_false c7;clear c7;(first|rw[aV]|(simp only[i64_w,i32_w];rw[aV])|skip);have H':=zA H;clear H;obtain⟨bG,bF,bE,bA,aZ,aY⟩:=ze3 aA;go_wp2
   repeat (go_quiet (fail);try go_wp2)
   go_meet
   case rel=>exact⟨_,(false),zr,H',⟨by first|omega|exact Nat.le_refl _⟩,⟨zR dN⟩,⟨zk aA⟩,⟨zb⟩⟩
 case rest =>
  clear fR;(try clear c7);(try clear aV);(try clear c9);(try clear cZ);(try clear c10);(try clear cD);(try clear bJ);(try clear bI);(try clear bH);(try clear bG);(try clear bF);(try clear bE);(try clear bD);(try clear bC);(try clear bB);(try clear bA);(try clear aZ);(try clear aY);(try clear aQ);(try clear cY);(try clear cX);obtain⟨kq,cT,rfl,HA,HJ2,aE,aA,HB⟩:=hcut;cases kq with
  |zero=>exact absurd HA.out (by simp[spec_l4Near.j0])
  |succ kj2 =>
   have H:=HA.out;clear HA;simp only[spec_l4Near.j0] at H;have dW:=zA H;clear H
   go_upto_if 21 with (fail)
   repeat (go_quiet (fail);go_upto_if 21 with (fail))
   go_cut [5] (fun v5 wc=>∃ (kq:Nat) (aR:List Int),Aside0 (spec_l4Near.j1 kq a1 aR aD aJ aC=some r)∧Aside0 (kq≤kj2)∧Aside0 (Kd.R (Kd.int .i64) 3 wc w.heap.size (fun _=>True) v5 aR)∧Aside0 (wc.heap[bX]?=some (.cells #[.int .i64 aD,.int .i64 aJ,(.slice bM aC.length bL)] 26 (0,0)))∧Aside0 (Below w.heap.size w wc))
   case first =>
    have H:=dW.out;clear dW
    by_cases cS:cT=true
    ·subst cS;rw[if_pos rfl] at H;obtain⟨eG,H⟩:=zifA H;obtain⟨fQ,dF⟩:∃ y_:List Int,y_=(bK++[wrap64 (a1-aD)]):=⟨_,rfl⟩
     replace H:(spec_l4Near.j1 kj2 a1 fQ aD aJ aC)=some r:=zY dF H
     have Ny267:=zA dF;clear dF;have H':=zA H;clear H;obtain⟨bW,bV,bU,bT,bS,bR⟩:=ze3 aA
     go_wp2_with (first|((with_reducible refine gate_builtin (b:=.append) (xs:=#[.tmp 22,.tmp 27]) rfl ?_);at_builtin;refine Kd.R_append (Kd.int .i64) (w0:=w) w.heap.size rfl (.tmp 22) (.tmp 27) 24 3 (.int .i64 0) 8 rfl Try.underlying24 info3 rfl (by decide) (by omega) v264 bK (wrap64 (a1-aD)) [.int .i64 (wrap64 (a1-aD))] (fun _=>True) (fun _=>False) rfl rfl ?aP (fun _ hk=>hk.elim) ?aF ?aO ?aB ?aS ?aL ?_;(case aP=>exact rfl);(case aB=>exact zb);(case aF=>exact(fun _ _=>trivial));(case aO=>exact(zR aE));(case aS=>exact(below_size zb));(case aL=>have:=eG.out;omega);intro v268 hI ho hb hg hat;rw[←Ny267.out] at ho;replace aA:=zgr aA hg (Kd.R_ne aE.out aA.out (by decide));replace HB:=zA hb;have eK:=zA ho;clear aE;clear ho hb hg hat))
     repeat (go_quiet (fail);try go_wp2_with (first|((with_reducible refine gate_builtin (b:=.append) (xs:=#[.tmp 22,.tmp 27]) rfl ?_);at_builtin;refine Kd.R_append (Kd.int .i64) (w0:=w) w.heap.size rfl (.tmp 22) (.tmp 27) 24 3 (.int .i64 0) 8 rfl Try.underlying24 info3 rfl (by decide) (by omega) v264 bK (wrap64 (a1-aD)) [.int .i64 (wrap64 (a1-aD))] (fun _=>True) (fun _=>False) rfl rfl ?aP (fun _ hk=>hk.elim) ?aF ?aO ?aB ?aS ?aL ?_;(case aP=>exact rfl);(case aB=>exact zb);(case aF=>exact(fun _ _=>trivial));(case aO=>exact(zR aE));(case aS=>exact(below_size zb));(case aL=>have:=eG.out;omega);intro v268 hI ho hb hg hat;rw[←Ny267.out] at ho;replace aA:=zgr aA hg (Kd.R_ne aE.out aA.out (by decide));replace HB:=zA hb;have eK:=zA ho;clear aE;clear ho hb hg hat)))
     go_meet
     case rel=>exact⟨_,(fQ),H',⟨by have:=HJ2.out;first|omega|exact Nat.le_refl _⟩,⟨zR eK⟩,⟨zk aA⟩,⟨zb⟩⟩
    ·replace cS:=Bool.eq_false_iff.mpr cS;subst cS;rw[if_neg zNo] at H;have H':=zA H;clear H;go_wp2
     repeat (go_quiet (fail);try go_wp2)
     go_meet
     case rel=>exact⟨_,(bK),H',⟨by have:=HJ2.out;first|omega|exact Nat.le_refl _⟩,⟨zR aE⟩,⟨zk aA⟩,⟨zb⟩⟩
   case rest =>
    clear dW;(try clear c7);(try clear aV);(try clear c9);(try clear cZ);(try clear c10);(try clear cD);(try clear cS);(try clear c15);(try clear bJ);(try clear bI);(try clear bH);(try clear bG);(try clear bF);(try clear bE);(try clear bW);(try clear bV);(try clear bU);(try clear bD);(try clear bC);(try clear bB);(try clear bA);(try clear aZ);(try clear aY);(try clear bT);(try clear bS);(try clear bR);(try clear aQ);(try clear cY);(try clear cX);obtain⟨kq,aR,HA,HJ12,aE,aA,HB⟩:=hcut;cases kq with
    |zero=>exact absurd HA.out (by simp[spec_l4Near.j1])
    |succ kj12 =>
     have H:=HA.out;clear HA;simp only[spec_l4Near.j1] at H;have dV:=zA H;clear H
     go_upto_region 4 with (fail)
     repeat (go_quiet (fail);go_upto_region 4 with (fail))
     go_cut [42] (fun v42 wc=>∃ (kq:Nat) (cB:Bool),v42=.bool cB∧Aside0 (spec_l4Near.j2 kq a1 aR cB aD aJ aC=some r)∧Aside0 (kq≤kj12)∧Aside0 (Kd.R (Kd.int .i64) 3 wc w.heap.size (fun _=>True) u5 aR)∧Aside0 (wc.heap[bX]?=some (.cells #[.int .i64 aD,.int .i64 aJ,(.slice bM aC.length bL)] 26 (0,0)))∧Aside0 (Below w.heap.size w wc))
     case first =>
      have H:=dV.out;clear dV
      by_cases c19:aD=0
      ·rw[if_pos c19] at H;exact absurd H (by simp)
      ·rw[if_neg c19] at H;have cC:(aD==0)=false:=beq_eq_false_iff_ne.mpr c19;have dL:(aD != 0)=true:=bne_iff_ne.mpr c19;(first|rw[cC]|(simp only[i64_w,i32_w];rw[cC])|skip)
       by_cases c20:(Int.tmod a1 aD)>0
       ·rw[if_pos c20] at H;have cW:decide (0<(Int.tmod a1 aD))=true:=decide_eq_true c20;clear c20;obtain⟨bO,cV⟩:∃ j_:Int,(wrap64 (a1-1))=j_:=⟨_,rfl⟩
        replace H:(if 0≤(bO) then(if (bO)<(aC.length:Int) then(spec_l4Near.j2 kj12 a1 aR ((rd aC (bO)) != 2) aD aJ aC) else(none)) else(none))=some r:=by first|(rw[cV] at H;exact H)|(simp only[cV] at H ⊢;exact H)
        have hN:(IntKind.i64.wrap (a1-1))=bO:=(i64_w _).trans cV;obtain⟨dK,H⟩:=zifD H;obtain⟨dJ,H⟩:=zifD H;have H':=zA H;clear H;obtain⟨cQ,cP,cO,cK,cJ,cI⟩:=ze3 aA;have dR:=zT (0≤((bO):Int));have dP:=zT ((bO)<(aC.length:Int));obtain⟨hS,gI,aX⟩:=Kd.at_int aT.out (bO) zd zd;cases gI;replace aX:=zC HB aX;go_wp2
        repeat (go_quiet (fail);try go_wp2)
        go_meet
        case rel=>exact⟨_,(((rd aC (bO)) != 2)),(by first|rfl|(simp;done)|(simp only[←cV] <;> (first|rfl|simp))|(simp[*];done)),H',⟨by have:=HJ2.out;have:=HJ12.out;first|omega|exact Nat.le_refl _⟩,⟨zR aE⟩,⟨zk aA⟩,⟨zb⟩⟩
       ·rw[if_neg c20] at H;have cW:decide (0<(Int.tmod a1 aD))=false:=decide_eq_false c20;clear c20;have H':=zA H;clear H;obtain⟨cN,cM,cL,cH,cG,cF⟩:=ze3 aA;go_wp2
        repeat (go_quiet (fail);try go_wp2)
        go_meet
        case rel=>exact⟨_,(false),zr,H',⟨by have:=HJ2.out;have:=HJ12.out;first|omega|exact Nat.le_refl _⟩,⟨zR aE⟩,⟨zk aA⟩,⟨zb⟩⟩
     case rest =>
      clear dV;(try clear c7);(try clear aV);(try clear c9);(try clear cZ);(try clear c10);(try clear cD);(try clear cS);(try clear c15);(try clear c19);(try clear cC);(try clear dL);(try clear c20);(try clear cW);(try clear c22);(try clear dK);(try clear c23);(try clear dJ);(try clear bJ);(try clear bI);(try clear bH);(try clear bG);(try clear bF);(try clear bE);(try clear bW);(try clear bV);(try clear bU);(try clear cQ);(try clear cP);(try clear cO);(try clear cN);(try clear cM);(try clear cL);(try clear bD);(try clear bC);(try clear bB);(try clear bA);(try clear aZ);(try clear aY);(try clear bT);(try clear bS);(try clear bR);(try clear cK);(try clear cJ);(try clear cI);(try clear cH);(try clear cG);(try clear cF);(try clear aQ);(try clear aX);(try clear cY);(try clear dR);(try clear cX);(try clear dP);obtain⟨kq,cB,rfl,HA,HJ17,aE,aA,HB⟩:=hcut;cases kq with
      |zero=>exact absurd HA.out (by simp[spec_l4Near.j2])
      |succ kj17 =>
       have H:=HA.out;clear HA;simp only[spec_l4Near.j2] at H;have dU:=zA H;clear H
       go_upto_if 42 with (fail)
       repeat (go_quiet (fail);go_upto_if 42 with (fail))
       go_cut [5] (fun v5 wc=>∃ (kq:Nat) (aI:List Int),Aside0 (spec_l4Near.j3 kq a1 aI aD aJ aC=some r)∧Aside0 (kq≤kj17)∧Aside0 (Kd.R (Kd.int .i64) 3 wc w.heap.size (fun _=>True) v5 aI)∧Aside0 (wc.heap[bX]?=some (.cells #[.int .i64 aD,.int .i64 aJ,(.slice bM aC.length bL)] 26 (0,0)))∧Aside0 (Below w.heap.size w wc))
       case first =>
        have H:=dU.out;clear dU
        by_cases dA:cB=true
        ·subst dA;rw[if_pos rfl] at H;obtain⟨eF,H⟩:=zifA H;obtain⟨fP,dE⟩:∃ y_:List Int,y_=(aR++[wrap64 (a1-1)]):=⟨_,rfl⟩
         replace H:(spec_l4Near.j3 kj17 a1 fP aD aJ aC)=some r:=zY dE H
         have Ny271:=zA dE;clear dE;have H':=zA H;clear H
         go_wp2_with (first|((with_reducible refine gate_builtin (b:=.append) (xs:=#[.tmp 43,.tmp 46]) rfl ?_);at_builtin;refine Kd.R_append (Kd.int .i64) (w0:=w) w.heap.size rfl (.tmp 43) (.tmp 46) 24 3 (.int .i64 0) 8 rfl Try.underlying24 info3 rfl (by decide) (by omega) u5 aR (wrap64 (a1-1)) [.int .i64 (wrap64 (a1-1))] (fun _=>True) (fun _=>False) rfl rfl ?aP (fun _ hk=>hk.elim) ?aF ?aO ?aB ?aS ?aL ?_;(case aP=>exact rfl);(case aB=>exact zb);(case aF=>exact(fun _ _=>trivial));(case aO=>exact(zR aE));(case aS=>exact(below_size zb));(case aL=>have:=eF.out;omega);intro v272 hH ho hb hg hat;rw[←Ny271.out] at ho;replace aA:=zgr aA hg (Kd.R_ne aE.out aA.out (by decide));replace HB:=zA hb;have eJ:=zA ho;clear aE;clear ho hb hg hat))
         repeat (go_quiet (fail);try go_wp2_with (first|((with_reducible refine gate_builtin (b:=.append) (xs:=#[.tmp 43,.tmp 46]) rfl ?_);at_builtin;refine Kd.R_append (Kd.int .i64) (w0:=w) w.heap.size rfl (.tmp 43) (.tmp 46) 24 3 (.int .i64 0) 8 rfl Try.underlying24 info3 rfl (by decide) (by omega) u5 aR (wrap64 (a1-1)) [.int .i64 (wrap64 (a1-1))] (fun _=>True) (fun _=>False) rfl rfl ?aP (fun _ hk=>hk.elim) ?aF ?aO ?aB ?aS ?aL ?_;(case aP=>exact rfl);(case aB=>exact zb);(case aF=>exact(fun _ _=>trivial));(case aO=>exact(zR aE));(case aS=>exact(below_size zb));(case aL=>have:=eF.out;omega);intro v272 hH ho hb hg hat;rw[←Ny271.out] at ho;replace aA:=zgr aA hg (Kd.R_ne aE.out aA.out (by decide));replace HB:=zA hb;have eJ:=zA ho;clear aE;clear ho hb hg hat)))
         go_meet
         case rel=>exact⟨_,(fP),H',⟨by have:=HJ2.out;have:=HJ12.out;have:=HJ17.out;first|omega|exact Nat.le_refl _⟩,⟨zR eJ⟩,⟨zk aA⟩,⟨zb⟩⟩
        ·replace dA:=Bool.eq_false_iff.mpr dA;subst dA;rw[if_neg zNo] at H;have H':=zA H;clear H;go_wp2
         repeat (go_quiet (fail);try go_wp2)
         go_meet
         case rel=>exact⟨_,(aR),H',⟨by have:=HJ2.out;have:=HJ12.out;have:=HJ17.out;first|omega|exact Nat.le_refl _⟩,⟨zR aE⟩,⟨zk aA⟩,⟨zb⟩⟩
       case rest =>
        clear dU;(try clear c7);(try clear aV);(try clear c9);(try clear cZ);(try clear c10);(try clear cD);(try clear cS);(try clear c15);(try clear c19);(try clear cC);(try clear dL);(try clear c20);(try clear cW);(try clear c22);(try clear dK);(try clear c23);(try clear dJ);(try clear dA);(try clear c28);(try clear bJ);(try clear bI);(try clear bH);(try clear bG);(try clear bF);(try clear bE);(try clear bW);(try clear bV);(try clear bU);(try clear cQ);(try clear cP);(try clear cO);(try clear cN);(try clear cM);(try clear cL);(try clear bD);(try clear bC);(try clear bB);(try clear bA);(try clear aZ);(try clear aY);(try clear bT);(try clear bS);(try clear bR);(try clear cK);(try clear cJ);(try clear cI);(try clear cH);(try clear cG);(try clear cF);(try clear aQ);(try clear aX);(try clear cY);(try clear dR);(try clear cX);(try clear dP);obtain⟨kq,aI,HA,HJ25,aE,aA,HB⟩:=hcut;cases kq with
        |zero=>exact absurd HA.out (by simp[spec_l4Near.j3])
        |succ kj25 =>
         have H:=HA.out;clear HA;simp only[spec_l4Near.j3] at H;have dT:=zA H;clear H
         go_upto_region 6 with (fail)
         repeat (go_quiet (fail);go_upto_region 6 with (fail))
         go_cut [64] (fun v64 wc=>∃ (kq:Nat) (cA:Bool),v64=.bool cA∧Aside0 (spec_l4Near.j4 kq a1 aI cA aD aJ aC=some r)∧Aside0 (kq≤kj25)∧Aside0 (Kd.R (Kd.int .i64) 3 wc w.heap.size (fun _=>True) u5 aI)∧Aside0 (wc.heap[bX]?=some (.cells #[.int .i64 aD,.int .i64 aJ,(.slice bM aC.length bL)] 26 (0,0)))∧Aside0 (Below w.heap.size w wc))
         case first =>
          have H:=dT.out;clear dT
          by_cases c31:aD=0
          ·rw[if_pos c31] at H;exact absurd H (by simp)
          ·rw[if_neg c31] at H;have dI:(aD==0)=false:=beq_eq_false_iff_ne.mpr c31;have fY:(aD != 0)=true:=bne_iff_ne.mpr c31;(first|rw[dI]|(simp only[i64_w,i32_w];rw[dI])|skip)
           by_cases c32:(Int.tmod a1 aD)<(wrap64 (aD-1))
           ·rw[if_pos c32] at H;have eC:=decide_eq_true c32;clear c32;obtain⟨bN,cU⟩:∃ j_:Int,(wrap64 (a1+1))=j_:=⟨_,rfl⟩
            replace H:(if 0≤(bN) then(if (bN)<(aC.length:Int) then(spec_l4Near.j4 kj25 a1 aI ((rd aC (bN)) != 2) aD aJ aC) else(none)) else(none))=some r:=by first|(rw[cU] at H;exact H)|(simp only[cU] at H ⊢;exact H)
            have hM:(IntKind.i64.wrap (a1+1))=bN:=(i64_w _).trans cU;obtain⟨fX,H⟩:=zifD H;obtain⟨fW,H⟩:=zifD H;have H':=zA H;clear H;obtain⟨fO,fN,fM,eZ,eY,eX⟩:=ze3 aA;have gG:=zT (0≤((bN):Int));have gE:=zT ((bN)<(aC.length:Int));obtain⟨hR,gH,cE⟩:=Kd.at_int aT.out (bN) zd zd;cases gH;replace cE:=zC HB cE;go_wp2
            repeat (go_quiet (fail);try go_wp2)
            go_meet
            case rel=>exact⟨_,(((rd aC (bN)) != 2)),(by first|rfl|(simp;done)|(simp only[←cU] <;> (first|rfl|simp))|(simp[*];done)),H',⟨by have:=HJ2.out;have:=HJ12.out;have:=HJ17.out;have:=HJ25.out;first|omega|exact Nat.le_refl _⟩,⟨zR aE⟩,⟨zk aA⟩,⟨zb⟩⟩
           ·rw[if_neg c32] at H;have eC:=decide_eq_false c32;clear c32;have H':=zA H;clear H;obtain⟨fL,fK,fJ,eW,eV,eU⟩:=ze3 aA;go_wp2
            repeat (go_quiet (fail);try go_wp2)
            go_meet
            case rel=>exact⟨_,(false),zr,H',⟨by have:=HJ2.out;have:=HJ12.out;have:=HJ17.out;have:=HJ25.out;first|omega|exact Nat.le_refl _⟩,⟨zR aE⟩,⟨zk aA⟩,⟨zb⟩⟩
         case rest =>
          clear dT;(try clear c7);(try clear aV);(try clear c9);(try clear cZ);(try clear c10);(try clear cD);(try clear cS);(try clear c15);(try clear c19);(try clear cC);(try clear dL);(try clear c20);(try clear cW);(try clear c22);(try clear dK);(try clear c23);(try clear dJ);(try clear dA);(try clear c28);(try clear c31);(try clear dI);(try clear fY);(try clear c32);(try clear eC);(try clear c34);(try clear fX);(try clear c35);(try clear fW);(try clear bJ);(try clear bI);(try clear bH);(try clear bG);(try clear bF);(try clear bE);(try clear bW);(try clear bV);(try clear bU);(try clear cQ);(try clear cP);(try clear cO);(try clear cN);(try clear cM);(try clear cL);(try clear fO);(try clear fN);(try clear fM);(try clear fL);(try clear fK);(try clear fJ);(try clear bD);(try clear bC);(try clear bB);(try clear bA);(try clear aZ);(try clear aY);(try clear bT);(try clear bS);(try clear bR);(try clear cK);(try clear cJ);(try clear cI);(try clear cH);(try clear cG);(try clear cF);(try clear eZ);(try clear eY);(try clear eX);(try clear eW);(try clear eV);(try clear eU);(try clear aQ);(try clear aX);(try clear cE);(try clear cY);(try clear dR);(try clear gG);(try clear cX);(try clear dP);(try clear gE);obtain⟨kq,cA,rfl,HA,HJ29,aE,aA,HB⟩:=hcut;cases kq with
          |zero=>exact absurd HA.out (by simp[spec_l4Near.j4])
          |succ kj29 =>
           have H:=HA.out;clear HA;simp only[spec_l4Near.j4] at H
           by_cases eB:cA=true
           ·subst eB;rw[if_pos rfl] at H;obtain⟨bY,H⟩:=zifA H;obtain⟨aU,dD⟩:∃ y_:List Int,y_=(aI++[wrap64 (a1+1)]):=⟨_,rfl⟩
            replace H:(if (wrap64 (a1+aD))<(aC.length:Int) then(if 0≤(wrap64 (a1+aD)) then(if (rd aC (wrap64 (a1+aD)))=2 then(some aU) else(if aU.length<17592186044416 then(some (aU++[wrap64 (a1+aD)])) else(none))) else(none)) else(some aU))=some r:=zY dD H
            have Ny275:=zA dD;clear dD
            by_cases c40:(wrap64 (a1+aD))<(aC.length:Int)
            ·rw[if_pos c40] at H;have eA:=decide_eq_true c40;clear c40;obtain⟨aH,bQ⟩:∃ j_:Int,(wrap64 (a1+aD))=j_:=⟨_,rfl⟩
             replace H:(if 0≤(aH) then(if (rd aC (aH))=2 then(some aU) else(if aU.length<17592186044416 then(some (aU++[aH])) else(none))) else(none))=some r:=by first|(rw[bQ] at H;exact H)|(simp only[bQ] at H ⊢;exact H)
             (try rw[bQ] at eA);have hL:(IntKind.i64.wrap (a1+aD))=aH:=(i64_w _).trans bQ;obtain⟨hQ,H⟩:=zifD H
             by_cases c43:(rd aC (aH))=2
             ·rw[if_pos c43] at H;have fV:((rd aC (aH))==2)=true:=beq_iff_eq.mpr c43;have fU:((rd aC (aH)) != 2)=false:=bne_eq_false_iff_eq.mpr c43;clear c43;obtain rfl:=zI H
              go_wp2_with (first|((with_reducible refine gate_builtin (b:=.append) (xs:=#[.tmp 65,.tmp 68]) rfl ?_);at_builtin;refine Kd.R_append (Kd.int .i64) (w0:=w) w.heap.size rfl (.tmp 65) (.tmp 68) 24 3 (.int .i64 0) 8 rfl Try.underlying24 info3 rfl (by decide) (by omega) u5 aI (wrap64 (a1+1)) [.int .i64 (wrap64 (a1+1))] (fun _=>True) (fun _=>False) rfl rfl ?aP (fun _ hk=>hk.elim) ?aF ?aO ?aB ?aS ?aL ?_;(case aP=>exact rfl);(case aB=>exact zb);(case aF=>exact(fun _ _=>trivial));(case aO=>exact(zR aE));(case aS=>exact(below_size zb));(case aL=>have:=bY.out;omega);intro v276 hG ho hb hg hat;rw[←Ny275.out] at ho;replace aA:=zgr aA hg (Kd.R_ne aE.out aA.out (by decide));replace HB:=zA hb;have aN:=zA ho;clear aE;clear ho hb hg hat;obtain⟨fI,fH,fG,eT,eS,eR⟩:=ze3 aA;have dQ:=zT (0≤((aH):Int));have dO:=zT ((aH)<(aC.length:Int));obtain⟨dM,bZ,aM⟩:=Kd.at_int aT.out (aH) zd zd;cases bZ;replace aM:=zC HB aM))
              repeat (go_quiet (fail);try go_wp2_with (first|((with_reducible refine gate_builtin (b:=.append) (xs:=#[.tmp 65,.tmp 68]) rfl ?_);at_builtin;refine Kd.R_append (Kd.int .i64) (w0:=w) w.heap.size rfl (.tmp 65) (.tmp 68) 24 3 (.int .i64 0) 8 rfl Try.underlying24 info3 rfl (by decide) (by omega) u5 aI (wrap64 (a1+1)) [.int .i64 (wrap64 (a1+1))] (fun _=>True) (fun _=>False) rfl rfl ?aP (fun _ hk=>hk.elim) ?aF ?aO ?aB ?aS ?aL ?_;(case aP=>exact rfl);(case aB=>exact zb);(case aF=>exact(fun _ _=>trivial));(case aO=>exact(zR aE));(case aS=>exact(below_size zb));(case aL=>have:=bY.out;omega);intro v276 hG ho hb hg hat;rw[←Ny275.out] at ho;replace aA:=zgr aA hg (Kd.R_ne aE.out aA.out (by decide));replace HB:=zA hb;have aN:=zA ho;clear aE;clear ho hb hg hat;obtain⟨fI,fH,fG,eT,eS,eR⟩:=ze3 aA;have dQ:=zT (0≤((aH):Int));have dO:=zT ((aH)<(aC.length:Int));obtain⟨dM,bZ,aM⟩:=Kd.at_int aT.out (aH) zd zd;cases bZ;replace aM:=zC HB aM)))
              go_ret;exact⟨_,by first|rfl|(simp[errW_none,errW_some] <;> rfl)|(simp only[←bQ];first|rfl|(simp[errW_none,errW_some] <;> rfl))|(simp[*,errW_none,errW_some] <;> rfl),zR aN,zb⟩
             ·rw[if_neg c43] at H;have fV:((rd aC (aH))==2)=false:=beq_eq_false_iff_ne.mpr c43;have fU:((rd aC (aH)) != 2)=true:=bne_iff_ne.mpr c43;obtain⟨eE,H⟩:=zifA H;obtain⟨gC,dC⟩:∃ y_:List Int,y_=(aU++[aH]):=⟨_,rfl⟩
              replace H:(some gC)=some r:=zY dC H
              have Ny279:=zA dC;clear dC;obtain rfl:=zI H
              go_wp2_with (first|((with_reducible refine gate_builtin (b:=.append) (xs:=#[.tmp 65,.tmp 68]) rfl ?_);at_builtin;refine Kd.R_append (Kd.int .i64) (w0:=w) w.heap.size rfl (.tmp 65) (.tmp 68) 24 3 (.int .i64 0) 8 rfl Try.underlying24 info3 rfl (by decide) (by omega) u5 aI (wrap64 (a1+1)) [.int .i64 (wrap64 (a1+1))] (fun _=>True) (fun _=>False) rfl rfl ?aP (fun _ hk=>hk.elim) ?aF ?aO ?aB ?aS ?aL ?_;(case aP=>exact rfl);(case aB=>exact zb);(case aF=>exact(fun _ _=>trivial));(case aO=>exact(zR aE));(case aS=>exact(below_size zb));(case aL=>have:=bY.out;omega);intro v276 hF ho hb hg hat;rw[←Ny275.out] at ho;replace aA:=zgr aA hg (Kd.R_ne aE.out aA.out (by decide));replace HB:=zA hb;have aN:=zA ho;clear aE;clear ho hb hg hat;obtain⟨fF,fE,fD,eQ,eP,eO⟩:=ze3 aA;have dQ:=zT (0≤((aH):Int));have dO:=zT ((aH)<(aC.length:Int));obtain⟨dM,bZ,aM⟩:=Kd.at_int aT.out (aH) zd zd;cases bZ;replace aM:=zC HB aM)|((with_reducible refine gate_builtin (b:=.append) (xs:=#[.tmp 89,.tmp 94]) rfl ?_);at_builtin;refine Kd.R_append (Kd.int .i64) (w0:=w) w.heap.size rfl (.tmp 89) (.tmp 94) 24 3 (.int .i64 0) 8 rfl Try.underlying24 info3 rfl (by decide) (by omega) v276 aU aH [.int .i64 aH] (fun _=>True) (fun _=>False) rfl rfl ?aP (fun _ hk=>hk.elim) ?aF ?aO ?aB ?aS ?aL ?_;(case aP=>exact rfl);(case aB=>exact zb);(case aF=>exact(fun _ _=>trivial));(case aO=>exact(zR aN));(case aS=>exact(below_size zb));(case aL=>have:=eE.out;omega);intro v280 hE ho hb hg hat;rw[←Ny279.out] at ho;replace aA:=zgr aA hg (Kd.R_ne aN.out aA.out (by decide));replace HB:=zA hb;have eI:=zA ho;clear aN;clear ho hb hg hat))
              repeat (go_quiet (fail);try go_wp2_with (first|((with_reducible refine gate_builtin (b:=.append) (xs:=#[.tmp 65,.tmp 68]) rfl ?_);at_builtin;refine Kd.R_append (Kd.int .i64) (w0:=w) w.heap.size rfl (.tmp 65) (.tmp 68) 24 3 (.int .i64 0) 8 rfl Try.underlying24 info3 rfl (by decide) (by omega) u5 aI (wrap64 (a1+1)) [.int .i64 (wrap64 (a1+1))] (fun _=>True) (fun _=>False) rfl rfl ?aP (fun _ hk=>hk.elim) ?aF ?aO ?aB ?aS ?aL ?_;(case aP=>exact rfl);(case aB=>exact zb);(case aF=>exact(fun _ _=>trivial));(case aO=>exact(zR aE));(case aS=>exact(below_size zb));(case aL=>have:=bY.out;omega);intro v276 hF ho hb hg hat;rw[←Ny275.out] at ho;replace aA:=zgr aA hg (Kd.R_ne aE.out aA.out (by decide));replace HB:=zA hb;have aN:=zA ho;clear aE;clear ho hb hg hat;obtain⟨fF,fE,fD,eQ,eP,eO⟩:=ze3 aA;have dQ:=zT (0≤((aH):Int));have dO:=zT ((aH)<(aC.length:Int));obtain⟨dM,bZ,aM⟩:=Kd.at_int aT.out (aH) zd zd;cases bZ;replace aM:=zC HB aM)|((with_reducible refine gate_builtin (b:=.append) (xs:=#[.tmp 89,.tmp 94]) rfl ?_);at_builtin;refine Kd.R_append (Kd.int .i64) (w0:=w) w.heap.size rfl (.tmp 89) (.tmp 94) 24 3 (.int .i64 0) 8 rfl Try.underlying24 info3 rfl (by decide) (by omega) v276 aU aH [.int .i64 aH] (fun _=>True) (fun _=>False) rfl rfl ?aP (fun _ hk=>hk.elim) ?aF ?aO ?aB ?aS ?aL ?_;(case aP=>exact rfl);(case aB=>exact zb);(case aF=>exact(fun _ _=>trivial));(case aO=>exact(zR aN));(case aS=>exact(below_size zb));(case aL=>have:=eE.out;omega);intro v280 hE ho hb hg hat;rw[←Ny279.out] at ho;replace aA:=zgr aA hg (Kd.R_ne aN.out aA.out (by decide));replace HB:=zA hb;have eI:=zA ho;clear aN;clear ho hb hg hat)))
              go_ret;exact⟨_,by first|rfl|(simp[errW_none,errW_some] <;> rfl)|(simp only[←bQ];first|rfl|(simp[errW_none,errW_some] <;> rfl))|(simp[*,errW_none,errW_some] <;> rfl),zR eI,zb⟩
            ·rw[if_neg c40] at H;have eA:=decide_eq_false c40;clear c40;obtain rfl:=zI H
             go_wp2_with (first|((with_reducible refine gate_builtin (b:=.append) (xs:=#[.tmp 65,.tmp 68]) rfl ?_);at_builtin;refine Kd.R_append (Kd.int .i64) (w0:=w) w.heap.size rfl (.tmp 65) (.tmp 68) 24 3 (.int .i64 0) 8 rfl Try.underlying24 info3 rfl (by decide) (by omega) u5 aI (wrap64 (a1+1)) [.int .i64 (wrap64 (a1+1))] (fun _=>True) (fun _=>False) rfl rfl ?aP (fun _ hk=>hk.elim) ?aF ?aO ?aB ?aS ?aL ?_;(case aP=>exact rfl);(case aB=>exact zb);(case aF=>exact(fun _ _=>trivial));(case aO=>exact(zR aE));(case aS=>exact(below_size zb));(case aL=>have:=bY.out;omega);intro v276 hD ho hb hg hat;rw[←Ny275.out] at ho;replace aA:=zgr aA hg (Kd.R_ne aE.out aA.out (by decide));replace HB:=zA hb;have aN:=zA ho;clear aE;clear ho hb hg hat;obtain⟨fC,fB,fA,eN,eM,eL⟩:=ze3 aA))
             repeat (go_quiet (fail);try go_wp2_with (first|((with_reducible refine gate_builtin (b:=.append) (xs:=#[.tmp 65,.tmp 68]) rfl ?_);at_builtin;refine Kd.R_append (Kd.int .i64) (w0:=w) w.heap.size rfl (.tmp 65) (.tmp 68) 24 3 (.int .i64 0) 8 rfl Try.underlying24 info3 rfl (by decide) (by omega) u5 aI (wrap64 (a1+1)) [.int .i64 (wrap64 (a1+1))] (fun _=>True) (fun _=>False) rfl rfl ?aP (fun _ hk=>hk.elim) ?aF ?aO ?aB ?aS ?aL ?_;(case aP=>exact rfl);(case aB=>exact zb);(case aF=>exact(fun _ _=>trivial));(case aO=>exact(zR aE));(case aS=>exact(below_size zb));(case aL=>have:=bY.out;omega);intro v276 hD ho hb hg hat;rw[←Ny275.out] at ho;replace aA:=zgr aA hg (Kd.R_ne aE.out aA.out (by decide));replace HB:=zA hb;have aN:=zA ho;clear aE;clear ho hb hg hat;obtain⟨fC,fB,fA,eN,eM,eL⟩:=ze3 aA)))
             go_ret;exact⟨_,zE,zR aN,zb⟩
           ·replace eB:=Bool.eq_false_iff.mpr eB;subst eB;rw[if_neg zNo] at H
            by_cases c52:(wrap64 (a1+aD))<(aC.length:Int)
            ·rw[if_pos c52] at H;have dZ:=decide_eq_true c52;clear c52;obtain⟨aK,bP⟩:∃ j_:Int,(wrap64 (a1+aD))=j_:=⟨_,rfl⟩
             replace H:(if 0≤(aK) then(if (rd aC (aK))=2 then(some aI) else(if aI.length<17592186044416 then(some (aI++[aK])) else(none))) else(none))=some r:=by first|(rw[bP] at H;exact H)|(simp only[bP] at H ⊢;exact H)
             (try rw[bP] at dZ);have hJ:(IntKind.i64.wrap (a1+aD))=aK:=(i64_w _).trans bP;obtain⟨hP,H⟩:=zifD H
             by_cases c55:(rd aC (aK))=2
             ·rw[if_pos c55] at H;have fT:((rd aC (aK))==2)=true:=beq_iff_eq.mpr c55;have fS:((rd aC (aK)) != 2)=false:=bne_eq_false_iff_eq.mpr c55;clear c55;obtain rfl:=zI H;obtain⟨hB,hA,gZ,gS,gR,gQ⟩:=ze3 aA;have gF:=zT (0≤((aK):Int));have gD:=zT ((aK)<(aC.length:Int));obtain⟨fZ,dS,aW⟩:=Kd.at_int aT.out (aK) zd zd;cases dS;replace aW:=zC HB aW;go_wp2
              repeat (go_quiet (fail);try go_wp2)
              go_ret;exact⟨_,by first|rfl|(simp[errW_none,errW_some] <;> rfl)|(simp only[←bP];first|rfl|(simp[errW_none,errW_some] <;> rfl))|(simp[*,errW_none,errW_some] <;> rfl),zR aE,zb⟩
             ·rw[if_neg c55] at H;have fT:((rd aC (aK))==2)=false:=beq_eq_false_iff_ne.mpr c55;have fS:((rd aC (aK)) != 2)=true:=bne_iff_ne.mpr c55;obtain⟨eD,H⟩:=zifA H;obtain⟨gB,dB⟩:∃ y_:List Int,y_=(aI++[aK]):=⟨_,rfl⟩
              replace H:(some gB)=some r:=zY dB H
              have Ny283:=zA dB;clear dB;obtain rfl:=zI H;obtain⟨gY,gX,gW,gP,gO,gN⟩:=ze3 aA;have gF:=zT (0≤((aK):Int));have gD:=zT ((aK)<(aC.length:Int));obtain⟨fZ,dS,aW⟩:=Kd.at_int aT.out (aK) zd zd;cases dS;replace aW:=zC HB aW
              go_wp2_with (first|((with_reducible refine gate_builtin (b:=.append) (xs:=#[.tmp 89,.tmp 94]) rfl ?_);at_builtin;refine Kd.R_append (Kd.int .i64) (w0:=w) w.heap.size rfl (.tmp 89) (.tmp 94) 24 3 (.int .i64 0) 8 rfl Try.underlying24 info3 rfl (by decide) (by omega) u5 aI aK [.int .i64 aK] (fun _=>True) (fun _=>False) rfl rfl ?aP (fun _ hk=>hk.elim) ?aF ?aO ?aB ?aS ?aL ?_;(case aP=>exact rfl);(case aB=>exact zb);(case aF=>exact(fun _ _=>trivial));(case aO=>exact(zR aE));(case aS=>exact(below_size zb));(case aL=>have:=eD.out;omega);intro v284 hC ho hb hg hat;rw[←Ny283.out] at ho;replace aA:=zgr aA hg (Kd.R_ne aE.out aA.out (by decide));replace HB:=zA hb;have eH:=zA ho;clear aE;clear ho hb hg hat))
              repeat (go_quiet (fail);try go_wp2_with (first|((with_reducible refine gate_builtin (b:=.append) (xs:=#[.tmp 89,.tmp 94]) rfl ?_);at_builtin;refine Kd.R_append (Kd.int .i64) (w0:=w) w.heap.size rfl (.tmp 89) (.tmp 94) 24 3 (.int .i64 0) 8 rfl Try.underlying24 info3 rfl (by decide) (by omega) u5 aI aK [.int .i64 aK] (fun _=>True) (fun _=>False) rfl rfl ?aP (fun _ hk=>hk.elim) ?aF ?aO ?aB ?aS ?aL ?_;(case aP=>exact rfl);(case aB=>exact zb);(case aF=>exact(fun _ _=>trivial));(case aO=>exact(zR aE));(case aS=>exact(below_size zb));(case aL=>have:=eD.out;omega);intro v284 hC ho hb hg hat;rw[←Ny283.out] at ho;replace aA:=zgr aA hg (Kd.R_ne aE.out aA.out (by decide));replace HB:=zA hb;have eH:=zA ho;clear aE;clear ho hb hg hat)))
              go_ret;exact⟨_,by first|rfl|(simp[errW_none,errW_some] <;> rfl)|(simp only[←bP];first|rfl|(simp[errW_none,errW_some] <;> rfl))|(simp[*,errW_none,errW_some] <;> rfl),zR eH,zb⟩
            ·rw[if_neg c52] at H;have dZ:=decide_eq_false c52;clear c52;obtain rfl:=zI H;obtain⟨gV,gU,gT,gM,gL,gK⟩:=ze3 aA;go_wp2
             repeat (go_quiet (fail);try go_wp2)
             go_ret;exact⟨_,zE,zR aE,zb⟩

mutual
def spec_l5From.l0:Nat→Int→List Int→Int→Int→Int→List Int→Option (List Int)
  |0,_,_,_,_,_,_=>none
  |k+1,x1,x5,x6,x140000,x140001,x140002=>if x6<(x140002.length:Int) then(if x5.length<17592186044416 then(spec_l5From.l0 k x1 (x5++[(-1)]) (wrap64 (x6+1)) x140000 x140001 x140002) else(none)) else(if 0≤x1 then(if x1<(x5.length:Int) then(spec_l5From.l1 k (x5.set (x1:Int).toNat 0) (([x1]:List Int)) 0 x140000 x140001 x140002) else(none)) else(none))
def spec_l5From.l1:Nat→List Int→List Int→Int→Int→Int→List Int→Option (List Int)
  |0,_,_,_,_,_,_=>none
  |k+1,x5,x7,x8,x140000,x140001,x140002=>if x8<(x7.length:Int) then(if 0≤x8 then((spec_l4Near.f k x140000 x140001 x140002 (rd x7 x8)).bind fun t151=>(spec_l5From.l2 k x5 x7 x8 t151 0 x140000 x140001 x140002)) else(none)) else(some x5)
def spec_l5From.l2:Nat→List Int→List Int→Int→List Int→Int→Int→Int→List Int→Option (List Int)
  |0,_,_,_,_,_,_,_,_=>none
  |k+1,x5,x7,x8,x9,x10,x140000,x140001,x140002=>if x10<(x9.length:Int) then(if 0≤x10 then(if 0≤(rd x9 x10) then(if (rd x9 x10)<(x5.length:Int) then(if (rd x5 (rd x9 x10))<0 then(if 0≤x8 then(if x8<(x7.length:Int) then(if 0≤(rd x7 x8) then(if (rd x7 x8)<(x5.length:Int) then(if x7.length<17592186044416 then(spec_l5From.l2 k (x5.set ((rd x9 x10):Int).toNat (wrap64 ((rd x5 (rd x7 x8))+1))) (x7++[rd x9 x10]) x8 x9 (wrap64 (x10+1)) x140000 x140001 x140002) else(none)) else(none)) else(none)) else(none)) else(none)) else(spec_l5From.l2 k x5 x7 x8 x9 (wrap64 (x10+1)) x140000 x140001 x140002)) else(none)) else(none)) else(none)) else(spec_l5From.l1 k x5 x7 (wrap64 (x8+1)) x140000 x140001 x140002)
end
def spec_l5From.f (k:Nat) (a0_0:Int) (a0_1:Int) (l0_2:List Int) (a1:Int):Option (List Int):=spec_l5From.l0 k a1 (([]:List Int)) 0 a0_0 a0_1 l0_2
def spec_l5From.T16:Bool × List (List Nat × List Nat):=(true,[([],[]),([],[]),([],[]),([1,2],[1,2]),([3],[3]),([],[]),([],[]),([],[]),([6,7],[6,7]),([8],[8]),([5,9],[5,9]),([10],[10]),([11],[11]),([0,4,0,1,2,3,4,5,6,7,8,9,10,11,12],[0,4]),([13,12,0,1,2,3,4,5,6,7,8,9,10,11,12],[12,13])])
def spec_l5From.B16:List Nat:=[0,0,0,6,14,0,0,0,192,448,992,2016,4064,8191,16383]
theorem spec_l5From.tab16:rtab .any (opsOf Try.f70 16)=spec_l5From.T16:=by kernel_rfl
theorem spec_l5From.bits16:waitsOk spec_l5From.T16.2 spec_l5From.B16=true:=by kernel_rfl
theorem spec_l5From.calls (k:Nat) (aK:Int) (aJ:Int) (aY:Option Addr) (aX:Nat) (aH:List Int) (a1:Int) (r:List Int) (w:World) (bN:Kd.C (Kd.int .i64) w aY aH.length aH) (bO:aH.length≤aX) (h:spec_l5From.f k aK aJ aH a1=some r) :
  Calls Try.prog 70 #[.agg #[.int .i64 aK,.int .i64 aJ,.slice aY aH.length aX],.int .i64 a1] w fun e w'=>∃ v0_:Value,e=.returned (v0_)∧Kd.R (Kd.int .i64) 3 w' w.heap.size (fun _=>True) v0_ r∧Below w.heap.size w w':=by
 have hu36:=Try.underlying26
 have HR0_2:=zA bN
 have HC0_2:=zA bO
 clear bN bO
 have HB:=zA (Below.refl w.heap.size w)
 have H:(spec_l5From.l0 k a1 (([]:List Int)) 0 aK aJ aH)=some r:=h
 clear h
 obtain⟨y140,hy140⟩:∃ y_:List Int,y_=(([]:List Int)):=⟨_,rfl⟩
 replace H:(spec_l5From.l0 k a1 y140 0 aK aJ aH)=some r:=zY hy140 H
 have Ny140:=zA hy140
 clear hy140
 have H':=zA H
 clear H
 go_enter Try.func70,Try.ntmps70
 go_wp2_with (first|((with_reducible refine zgd 2 rfl ?_);refine box_event ?hg (N:=2) ?hd (cs:=#[.int .i64 aK,.int .i64 aJ,.slice aY aH.length aX]) (t:=26) ?hr ?_;(case hd=>rfl);(case hg=>rfl);(case hr=>first|(go_simp;done)|(go_simp;rfl));intro aQ hg w3 hbox hb;have aV:=zA (below_step (zb) hb);have aU:=zA hbox;have aT:=zA ((by rw[hg];exact(below_size (zb)):w.heap.size≤aQ));have bA:=zA ((by rw[hg];exact(below_size (zb)):w.heap.size≤aQ));clear HB;have HB:=aV;have aA:=aU;have bY:=aT;have aR:=bA;clear aV aU aT bA;clear hb hbox hg)|((with_reducible refine zgd 11 rfl ?_);refine Kd.R_lit (Kd.int .i64) _ 3 ?hg (N:=11) ?hd (xs:=([]:List Int)) (inner:=[]) (ok:=fun _=>True) (okp:=fun _=>True) ?hr ?hp (fun _ hk=>hk) trivial (Below.refl _ _) (Nat.le_refl _) (by simp) ?_;(case hd=>rfl);(case hg=>rfl);(case hr=>first|(go_simp;done)|(go_simp;rfl));(case hp=>exact(Reps.none _ _));intro v141 w4 ho5 hb hg_ hnew_;clear hg_ hnew_;(first|rw[←Ny140.out] at ho5|(simp only[Int.reduceToNat] at ho5;rw[←Ny140.out] at ho5));have aV:=zA (Kd.R_lower ho5 (below_size (zb)));have aU:=zA (blk_below (g:=aQ) (o:=.cells #[.int .i64 aK,.int .i64 aJ,.slice aY aH.length aX] 26 (0,0)) (by(with_reducible repeat (first|refine blk_drewN ?_ _|refine blk_drew ?_|refine blk_alloc ?_ _));exact aA.out) hb);have aT:=zA (below_step (zb) hb);clear aA;clear HB;have bX:=aV;have aA:=aU;have HB:=aT;clear aV aU aT;clear hb ho5))
 go_loopg [5,6] k (fun kq v5 v6 w'=>∃ (aZ:List Int) (bE:Int),v6=.int .i64 bE∧Aside0 (spec_l5From.l0 kq a1 aZ bE aK aJ aH=some r)∧Aside0 (kq≤k)∧Aside0 (Kd.R (Kd.int .i64) 3 w' w.heap.size (fun _=>True) v5 aZ)∧Aside0 (w'.heap[aQ]?=some (.cells #[.int .i64 aK,.int .i64 aJ,(.slice aY aH.length aX)] 26 (0,0)))∧Aside0 (Below w.heap.size w w'))
 case atStart=>exact⟨(y140),(0),(by first|rfl|(simp;done)|(simp[*];done)),H',⟨Nat.le_refl _⟩,⟨zR bX⟩,⟨zkf aA⟩,⟨zb⟩⟩
 case round =>
  clear H'
  try clear p2
  obtain⟨aZ,bE,rfl,HA,HK1,aD,aA,HB⟩:=hrel
  cases gk with
  |zero=>exact absurd HA.out (by simp[spec_l5From.l0])
  |succ k1 =>
   have H:=HA.out
   clear HA
   simp only[spec_l5From.l0] at H
   by_cases c6:bE<(aH.length:Int)
   ·rw[if_pos c6] at H
    have bM:decide (bE<(aH.length:Int))=true:=decide_eq_true c6
    clear c6
    by_cases c7:aZ.length<17592186044416
    ·rw[if_pos c7] at H
     have LMc7:=zA c7
     clear c7
     obtain⟨y143,hy143⟩:∃ y_:List Int,y_=(aZ++[(-1)]):=⟨_,rfl⟩
     replace H:(spec_l5From.l0 k1 a1 y143 (wrap64 (bE+1)) aK aJ aH)=some r:=zY hy143 H
     have Ny143:=zA hy143
     clear hy143
     have H':=zA H
     clear H
     have hcz8_0:wr.cell? ⟨aQ,0,none⟩=some (.int .i64 aK):=(blk_cell aA.out 0).trans rfl
     have hcz8_1:wr.cell? ⟨aQ,1,none⟩=some (.int .i64 aJ):=(blk_cell aA.out 1).trans rfl
     have hcz8_2:wr.cell? ⟨aQ,2,none⟩=some (.slice aY aH.length aX):=(blk_cell aA.out 2).trans rfl
     have hfz8_0:=blk_frozen aA.out 0
     have hfz8_1:=blk_frozen aA.out 1
     have hfz8_2:=blk_frozen aA.out 2
     go_wp2_with (first|((with_reducible refine gate_builtin (b:=.append) (xs:=#[.tmp 19,.tmp 20]) rfl ?_);at_builtin;refine Kd.R_append (Kd.int .i64) (w0:=w) w.heap.size rfl (.tmp 19) (.tmp 20) 24 3 (.int .i64 0) 8 rfl Try.underlying24 info3 rfl (by decide) (by omega) u5 aZ (-1) [.int .i64 (-1)] (fun _=>True) (fun _=>False) rfl rfl ?aP (fun _ hk=>hk.elim) ?aF ?aO ?aB ?aS ?aL ?_;(case aP=>exact rfl);(case aB=>exact(zb));(case aF=>exact(fun _ _=>trivial));(case aO=>exact(zR aD));(case aS=>exact(below_size (zb)));(case aL=>have:=LMc7.out;omega);intro v144 w9 ho hb hg hat;rw[←Ny143.out] at ho;have aV:=zA (blk_grown (g:=aQ) (o:=.cells #[.int .i64 aK,.int .i64 aJ,.slice aY aH.length aX] 26 (0,0)) (by(with_reducible repeat (first|refine blk_drewN ?_ _|refine blk_drew ?_|refine blk_alloc ?_ _));exact aA.out) hg (Kd.R_ne aD.out aA.out (by decide)));have aU:=zA hb;have aT:=zA ho;clear aA;clear HB;clear aD;have aA:=aV;have HB:=aU;have bW:=aT;clear aV aU aT;clear ho hb hg hat))
     go_roundg k1
     case measure=>have:=HK1.out;omega
     case rel=>exact⟨(y143),(wrap64 (bE+1)),(by first|rfl|(simp;done)|(simp[*];done)),H',⟨by have:=HK1.out;omega⟩,⟨zR bW⟩,⟨zkf aA⟩,⟨zb⟩⟩
    ·rw[if_neg c7] at H
     exact absurd H (by simp)
   ·rw[if_neg c6] at H
    have bM:decide (bE<(aH.length:Int))=false:=decide_eq_false c6
    clear c6
    by_cases c10:0≤a1
    ·rw[if_pos c10] at H
     have c10b0:decide (0≤a1)=true:=decide_eq_true c10
     clear c10
     by_cases c11:a1<(aZ.length:Int)
     ·rw[if_pos c11] at H
      have c11b0:decide (a1<(aZ.length:Int))=true:=decide_eq_true c11
      clear c11
      obtain⟨bK,hy146⟩:∃ y_:List Int,y_=(aZ.set (a1:Int).toNat 0):=⟨_,rfl⟩
      replace H:(spec_l5From.l1 k1 bK (([a1]:List Int)) 0 aK aJ aH)=some r:=zY hy146 H
      have Ny146:=zA hy146
      clear hy146
      obtain⟨y147,hy147⟩:∃ y_:List Int,y_=(([a1]:List Int)):=⟨_,rfl⟩
      replace H:(spec_l5From.l1 k1 bK y147 0 aK aJ aH)=some r:=zY hy147 H
      have Ny147:=zA hy147
      clear hy147
      have H':=zA H
      clear H
      have hcz13_0:wr.cell? ⟨aQ,0,none⟩=some (.int .i64 aK):=(blk_cell aA.out 0).trans rfl
      have hcz13_1:wr.cell? ⟨aQ,1,none⟩=some (.int .i64 aJ):=(blk_cell aA.out 1).trans rfl
      have hcz13_2:wr.cell? ⟨aQ,2,none⟩=some (.slice aY aH.length aX):=(blk_cell aA.out 2).trans rfl
      have hfz13_0:=blk_frozen aA.out 0
      have hfz13_1:=blk_frozen aA.out 1
      have hfz13_2:=blk_frozen aA.out 2
      have p12:0≤(a1:Int):=of_decide_eq_true (by first|(with_reducible assumption)|assumption)
      have q12:(a1:Int)<((aZ.length:Int):Int):=of_decide_eq_true (by first|(with_reducible assumption)|assumption)
      obtain⟨go12,bG,eo12,gb12,gl12,cl12,HG12⟩:=Kd.R_form aD.out (by omega)
      (first|cases eo12|(injection eo12 with ea_ en_ ec_;(first|subst ea_|(injection ea_ with ea_;subst ea_));subst ec_;clear en_))
      have GB12:=zA gb12
      have GG12:=zA HG12
      clear gb12 gl12 HG12
      obtain⟨hx12_0,hf12_0⟩:=Kd.R_celln 0 aD.out (a1:Int) p12 q12
      replace p12:=eq_true p12
      replace q12:=eq_true q12
      have HP14:=Kd.R_putg aD.out (a1:Int) 0
      go_wp2_with (first|((with_reducible refine gate_store (t:=3) (p:=24) rfl ?_);refine store_event (t:=3) (p:=24) (v:=?vo_w15) (w1:=(wr.setCell ⟨go12,(a1:Int).toNat,none⟩ (.int .i64 0))) ?hg ?ho ?hn ?hr ?_;(case ho=>rfl);(case hg=>rfl);(case hn=>rfl);(case hr=>first|(go_simp;done)|(go_simp;rfl));intro bQ hw;have hg:wr.grownBy bQ (some go12):=(by rw[hw];exact HP14.2);have hp_:Kd.R (Kd.int .i64) 3 bQ w.heap.size (fun _=>True) (.slice (some ⟨go12,0,none⟩) aZ.length bG) bK:=(by rw[hw,Ny146.out];exact HP14.1);clear HP14;have aV:=zA hp_;have aU:=zA (blk_grown (g:=aQ) (o:=.cells #[.int .i64 aK,.int .i64 aJ,.slice aY aH.length aX] 26 (0,0)) (by(with_reducible repeat (first|refine blk_drewN ?_ _|refine blk_drew ?_|refine blk_alloc ?_ _));exact aA.out) hg (Kd.R_ne aD.out aA.out (by decide)));have aT:=zA ((by rw[hw];exact below_set (HB.out) GB12.out:Below w.heap.size w bQ));clear aD;clear aA;clear HB;have aD:=aV;have aA:=aU;have HB:=aT;clear aV aU aT;clear hg hw hp_)|((with_reducible refine zgd 26 rfl ?_);refine Kd.R_lit (Kd.int .i64) _ 3 ?hg (N:=26) ?hd (xs:=([a1]:List Int)) (inner:=[.int .i64 a1]) (ok:=fun _=>True) (okp:=fun _=>True) ?hr ?hp (fun _ hk=>hk) trivial (Below.refl _ _) (Nat.le_refl _) (by simp) ?_;(case hd=>rfl);(case hg=>rfl);(case hr=>first|(go_simp;done)|(go_simp;rfl));(case hp=>exact(Reps.one (show Kd.M (Kd.int .i64) _ _ _ a1 [.int .i64 a1] from rfl) (Reps.none _ _)));intro v148 cD ho17 hb hg_ hnew_;clear hg_ hnew_;(first|rw[←Ny147.out] at ho17|(simp only[Int.reduceToNat] at ho17;rw[←Ny147.out] at ho17));have aV:=zA (Kd.R_elder' (zR aD) (Kd.R_base ho17) hb);have aU:=zA (Kd.R_lower (Kd.R_new' ho17 (Kd.R_lt (zR aD))) (below_size (zb)));have aT:=zA (blk_below (g:=aQ) (o:=.cells #[.int .i64 aK,.int .i64 aJ,.slice aY aH.length aX] 26 (0,0)) (by(with_reducible repeat (first|refine blk_drewN ?_ _|refine blk_drew ?_|refine blk_alloc ?_ _));exact aA.out) hb);have bA:=zA (below_step (zb) hb);clear aD;clear aA;clear HB;have aD:=aV;have bV:=aU;have aA:=aT;have HB:=bA;clear aV aU aT bA;clear hb ho17))
      go_loopg [7,8] k1 (fun kq v7 v8 w'=>∃ (bF:List Int) (bB:List Int) (aE:Int),v8=.int .i64 aE∧Aside0 (spec_l5From.l1 kq bF bB aE aK aJ aH=some r)∧Aside0 (kq≤k1)∧Aside0 (Kd.R (Kd.int .i64) 3 w' w.heap.size (fun k_=>some k_≠(v7:Value).ownBlock) (.slice (some ⟨go12,0,none⟩) aZ.length bG) bF)∧Aside0 (Kd.R (Kd.int .i64) 3 w' w.heap.size (fun k_=>some k_≠((.slice (some ⟨go12,0,none⟩) aZ.length bG):Value).ownBlock) v7 bB)∧Aside0 (w'.heap[aQ]?=some (.cells #[.int .i64 aK,.int .i64 aJ,(.slice aY aH.length aX)] 26 (0,0)))∧Aside0 (Below w.heap.size w w'))
      case atStart=>exact⟨(bK),(y147),(0),(by first|rfl|(simp;done)|(simp[*];done)),H',⟨Nat.le_refl _⟩,⟨z_2 aD⟩,⟨z_2 bV⟩,⟨zkf aA⟩,⟨zb⟩⟩
      case round =>
       clear H'
       try clear c1
       try clear p1
       try clear q1
       try clear hx1
       try clear p2
       try clear c6
       try clear bM
       try clear p6
       try clear c7
       try clear c10
       try clear c10b0
       try clear c11
       try clear c11b0
       try clear p12
       try clear q12
       try clear hx12
       try clear hf12
       try clear hcz13_0
       try clear hcz13_1
       try clear hcz13_2
       try clear hcz8_0
       try clear hcz8_1
       try clear hcz8_2
       try clear hfz13_0
       try clear hfz13_1
       try clear hfz13_2
       try clear hfz8_0
       try clear hfz8_1
       try clear hfz8_2
       try clear hx12_0
       try clear p12
       try clear p2
       try clear q12
       obtain⟨bF,bB,aE,rfl,HA,HK2,aD,aN,aA,HB⟩:=hrel
       have hl5_2:=(Kd.R_reads' aD.out).1
       rw[hl5_2] at aD
       (try simp only[hl5_2])
       (try simp only[hl5_2] at aA)
       (try simp only[hl5_2] at aN)
       cases gk with
       |zero=>exact absurd HA.out (by simp[spec_l5From.l1])
       |succ k2 =>
        have H:=HA.out
        clear HA
        simp only[spec_l5From.l1] at H
        by_cases c18:aE<(bB.length:Int)
        ·rw[if_pos c18] at H
         have bP:decide (aE<(bB.length:Int))=true:=decide_eq_true c18
         clear c18
         by_cases c19:0≤aE
         ·rw[if_pos c19] at H
          have c19b0:decide (0≤aE)=true:=decide_eq_true c19
          clear c19
          replace H:=Option.bind_eq_some_iff.mp H
          obtain⟨aG,A200,H⟩:=H
          replace H:(spec_l5From.l2 k2 bF bB aE aG 0 aK aJ aH)=some r:=H
          have A20:=zA A200
          clear A200
          have H':=zA H
          clear H
          obtain⟨Ao21,co21,eo21⟩:=Kd.R_slice aN.out
          subst eo21
          try go_wp2
          have aV:=zA (Kd.R_drew aD.out)
          have aU:=zA (Kd.R_drew aN.out)
          have aT:=zA (blk_drew aA.out)
          have bA:=zA (below_drew1 HB.out)
          clear aD
          clear aN
          clear aA
          clear HB
          have aD:=aV
          have aN:=aU
          have aA:=aT
          have HB:=bA
          clear aV aU aT bA
          have p150:0≤(aE:Int):=of_decide_eq_true (by first|(with_reducible assumption)|assumption)
          have q150:aE<(bB.length:Int):=of_decide_eq_true (by first|(with_reducible assumption)|assumption)
          obtain⟨ad150,e150,hx150_0⟩:=Kd.at_int (Kd.R_reads' aN.out).2.2 aE p150 q150
          cases e150
          replace p150:=eq_true p150
          replace q150:=eq_true q150
          refine start_ (n:=7) (S:=fun w'=>w'.cell? ⟨aQ,0,none⟩=some (.int .i64 aK)∧w'.cell? ⟨aQ,1,none⟩=some (.int .i64 aJ)∧w'.cell? ⟨aQ,2,none⟩=some (.slice aY aH.length aX)∧w'.cell? (ad150.add (aE).toNat)=some (.int .i64 (rd bB aE))) (ds:=[]) #[false,false,false,false,false,false,false] (by kernel_rfl) rfl rfl ⟨(blk_cell aA.out 0).trans rfl,(blk_cell aA.out 1).trans rfl,(blk_cell aA.out 2).trans rfl,hx150_0⟩ (fun hHeld=>?_)
          generalize wr.drew=cC at aD aN aA HB hx150_0 hHeld ⊢
          refine pure_ (i:=1) (N:=some 34) (v:=?_) (a':=?_) #[false,true,false,false,false,false,false] rfl rfl (by kernel_rfl) (fun _ _ _ h=>h) (Or.inl ⟨by rfl,?_⟩) ?_ ?_
          rotate_left
          ·intro w'
           go_simp
           with_reducible rfl
          rotate_left
          ·simp only[Act.put,z_L,i64_w,i32_w]
           rfl
          refine pure_ (i:=2) (N:=some 35) (v:=?_) (a':=?_) #[false,true,true,false,false,false,false] rfl rfl (by kernel_rfl) (fun _ _ _ h=>h) (Or.inl ⟨by rfl,?_⟩) ?_ ?_
          rotate_left
          ·intro w'
           go_simp
           with_reducible rfl
          rotate_left
          ·simp only[Act.put,z_L,i64_w,i32_w]
           rfl
          refine pure_ (i:=3) (N:=some 36) (v:=?_) (a':=?_) #[false,true,true,true,false,false,false] rfl rfl (by kernel_rfl) (fun _ _ _ h=>h) (Or.inl ⟨by rfl,?_⟩) ?_ ?_
          rotate_left
          ·intro w'
           go_simp
           with_reducible rfl
          rotate_left
          ·simp only[Act.put,z_L,i64_w,i32_w]
           rfl
          refine take_ (i:=0) (N:=some 33) (v:=?_) (a':=?_) #[true,true,true,true,false,false,false] rfl rfl (by kernel_rfl) (fun _ _ _ h=>h) (Or.inl ⟨by rfl,?_⟩) hHeld ?_ ?_
          rotate_left
          ·rintro w' ⟨s0,s1,s2,s3⟩
           go_simp
           with_reducible rfl
          rotate_left
          ·simp only[Act.put,z_L,i64_w,i32_w]
           rfl
          refine take_ (i:=4) (N:=some 37) (v:=?_) (a':=?_) #[true,true,true,true,true,false,false] rfl rfl (by kernel_rfl) (fun _ _ _ h=>h) (Or.inl ⟨by rfl,?_⟩) hHeld ?_ ?_
          rotate_left
          ·rintro w' ⟨s0,s1,s2,s3⟩
           go_simp
           with_reducible rfl
          rotate_left
          ·simp only[Act.put,z_L,i64_w,i32_w]
           rfl
          refine one_ (i:=5) (N:=some 38) #[true,true,true,true,true,true,false] rfl rfl (by kernel_rfl) (by decide) (fun K hK=>?_)
          refine goes_ Try.func77 (by kernel_rfl) rfl #[.agg #[.int .i64 aK,.int .i64 aJ,.slice aY aH.length aX],.int .i64 (rd bB aE)] (by rfl) rfl rfl (by(try simp only[List.map_toArray,List.map_cons,List.map_nil]);first|done|rfl|(simp only[List.length_drop,List.length_take];rfl)) ?_
          with_reducible refine(spec_l4Near.calls k2 aK aJ _ _ aH (rd bB aE) aG _ ?s1 ?s2 A20.out).mono ?_
          (case s1=>repeat (first|exact(Kd.C_below HR0_2.out HB.out)|(with_reducible refine Kd.C_alloc ?_ _)|(with_reducible refine Kd.C_drewN ?_ _)|(with_reducible refine Kd.C_drew ?_)))
          (case s2=>exact HC0_2.out)
          rintro e cB ⟨v152,rfl,ho0,hb⟩
          have HS3_:=(hb.cell (World.block_lt_of_cell? _ _ (hHeld.2.2.2))).trans (hHeld.2.2.2)
          refine⟨_,rfl,?_⟩
          have aV:=zA (Kd.R_elder' (zR aD) (Kd.R_base ho0) hb)
          have aU:=zA (Kd.R_elder' (zR aN) (Kd.R_base ho0) hb)
          have aT:=zA (Kd.R_lower (Kd.R_new' (Kd.R_new' ho0 (Kd.R_lt (zR aD))) (Kd.R_lt (zR aN))) (below_size (zb)))
          have bA:=zA (blk_below (g:=aQ) (o:=.cells #[.int .i64 aK,.int .i64 aJ,.slice aY aH.length aX] 26 (0,0)) (by(with_reducible repeat (first|refine blk_drewN ?_ _|refine blk_drew ?_|refine blk_alloc ?_ _));exact aA.out) hb)
          have bH:=zA (below_step (zb) hb)
          clear aD
          clear aN
          clear aA
          clear HB
          have aD:=aV
          have aN:=aU
          have HO153:=aT
          have aA:=bA
          have HB:=bH
          clear aV aU aT bA bH
          (try clear hb)
          (try clear hb2)
          (try clear hk)
          (try clear hi)
          (try clear ho0)
          refine hK.out _ _ ⟨(blk_cell aA.out 0).trans rfl,(blk_cell aA.out 1).trans rfl,(blk_cell aA.out 2).trans rfl,HS3_⟩ (fun hHeld=>?_)
          clear hK K
          refine norm_ (a':=?_) ?_ ?_
          rotate_left
          ·show Act.put _ (some 38) _=_
           simp only[Act.put,z_L,i64_w,i32_w]
           rfl
          refine pure_ (i:=6) (N:=some 9) (v:=?_) (a':=?_) #[true,true,true,true,true,true,true] rfl rfl (by kernel_rfl) (fun _ _ _ h=>h) (Or.inl ⟨by rfl,?_⟩) ?_ ?_
          rotate_left
          ·intro w'
           go_simp
           with_reducible rfl
          rotate_left
          ·simp only[Act.put,z_L,i64_w,i32_w]
           rfl
          refine done_ (by kernel_rfl) ?_
          try go_wp2
          go_loopg [7,10] k2 (fun kq v7 v10 w'=>∃ (aM:List Int) (aI:List Int) (aC:Int),v10=.int .i64 aC∧Aside0 (spec_l5From.l2 kq aM aI aE aG aC aK aJ aH=some r)∧Aside0 (kq≤k2)∧Aside0 (Kd.R (Kd.int .i64) 3 w' w.heap.size (fun k_=>some k_≠(v7:Value).ownBlock∧some k_≠(v152:Value).ownBlock) (.slice (some ⟨go12,0,none⟩) bF.length bG) aM)∧Aside0 (Kd.R (Kd.int .i64) 3 w' w.heap.size (fun k_=>some k_≠((.slice (some ⟨go12,0,none⟩) bF.length bG):Value).ownBlock∧some k_≠(v152:Value).ownBlock) v7 aI)∧Aside0 (Kd.R (Kd.int .i64) 3 w' w.heap.size (fun k_=>some k_≠((.slice (some ⟨go12,0,none⟩) bF.length bG):Value).ownBlock∧some k_≠(v7:Value).ownBlock) v152 aG)∧Aside0 (w'.heap[aQ]?=some (.cells #[.int .i64 aK,.int .i64 aJ,(.slice aY aH.length aX)] 26 (0,0)))∧Aside0 (Below w.heap.size w w'))
          case atStart=>exact⟨(bF),(bB),(0),(by first|rfl|(simp;done)|(simp[*];done)),H',⟨Nat.le_refl _⟩,⟨by(try simp only[hl5_2]);(with_reducible repeat (first|apply Kd.R_alloc|apply Kd.R_drewN|apply Kd.R_drew));exact aD.out⟩,⟨by(try simp only[hl5_2]);(with_reducible repeat (first|apply Kd.R_alloc|apply Kd.R_drewN|apply Kd.R_drew));exact aN.out⟩,⟨by(try simp only[hl5_2]);(with_reducible repeat (first|apply Kd.R_alloc|apply Kd.R_drewN|apply Kd.R_drew));exact Kd.R_mono HO153.out (fun _ hk=>⟨hk.1.2,hk.2⟩)⟩,⟨by(try simp only[hl5_2]);(with_reducible repeat (first|refine blk_drewN ?_ _|refine blk_drew ?_|refine blk_alloc ?_ _));exact aA.out⟩,⟨zb⟩⟩
          case round =>
           clear H'
           try clear c1
           try clear p1
           try clear q1
           try clear hx1
           try clear p2
           try clear c6
           try clear bM
           try clear p6
           try clear c7
           try clear c10
           try clear c10b0
           try clear c11
           try clear c11b0
           try clear p12
           try clear q12
           try clear hx12
           try clear hf12
           try clear p15
           try clear q15
           try clear hx15
           try clear c18
           try clear bP
           try clear c19
           try clear c19b0
           try clear hcz13_0
           try clear hcz13_1
           try clear hcz13_2
           try clear hcz8_0
           try clear hcz8_1
           try clear hcz8_2
           try clear hfz13_0
           try clear hfz13_1
           try clear hfz13_2
           try clear hfz8_0
           try clear hfz8_1
           try clear hfz8_2
           try clear hx12_0
           try clear hx150_0
           try clear p1
           try clear p12
           try clear p150
           try clear p2
           try clear p6
           try clear q1
           try clear q12
           try clear q150
           obtain⟨aM,aI,aC,rfl,HA,HK3,aD,aN,aW,aA,HB⟩:=hrel
           have hl5_3:=(Kd.R_reads' aD.out).1
           rw[hl5_3] at aD
           (try simp only[hl5_3])
           (try simp only[hl5_3] at aA)
           (try simp only[hl5_3] at aN)
           (try simp only[hl5_3] at aW)
           cases gk with
           |zero=>exact absurd HA.out (by simp[spec_l5From.l2])
           |succ k3 =>
            have H:=HA.out
            clear HA
            simp only[spec_l5From.l2] at H
            by_cases c24:aC<(aG.length:Int)
            ·rw[if_pos c24] at H
             have bT:decide (aC<(aG.length:Int))=true:=decide_eq_true c24
             clear c24
             by_cases c25:0≤aC
             ·rw[if_pos c25] at H
              have c25b0:decide (0≤aC)=true:=decide_eq_true c25
              clear c25
              by_cases c26:0≤(rd aG aC)
              ·rw[if_pos c26] at H
               have c26b0:decide (0≤(rd aG aC))=true:=decide_eq_true c26
               clear c26
               by_cases c27:(rd aG aC)<(aM.length:Int)
               ·rw[if_pos c27] at H
                have c27b0:decide ((rd aG aC)<(aM.length:Int))=true:=decide_eq_true c27
                clear c27
                by_cases c28:(rd aM (rd aG aC))<0
                ·rw[if_pos c28] at H
                 have bS:decide ((rd aM (rd aG aC))<0)=true:=decide_eq_true c28
                 clear c28
                 by_cases c29:0≤aE
                 ·rw[if_pos c29] at H
                  have c29b0:decide (0≤aE)=true:=decide_eq_true c29
                  clear c29
                  by_cases c30:aE<(aI.length:Int)
                  ·rw[if_pos c30] at H
                   have c30b0:decide (aE<(aI.length:Int))=true:=decide_eq_true c30
                   clear c30
                   by_cases c31:0≤(rd aI aE)
                   ·rw[if_pos c31] at H
                    have c31b0:decide (0≤(rd aI aE))=true:=decide_eq_true c31
                    clear c31
                    by_cases c32:(rd aI aE)<(aM.length:Int)
                    ·rw[if_pos c32] at H
                     have c32b0:decide ((rd aI aE)<(aM.length:Int))=true:=decide_eq_true c32
                     clear c32
                     obtain⟨y159,hy159⟩:∃ y_:List Int,y_=(aM.set ((rd aG aC):Int).toNat (wrap64 ((rd aM (rd aI aE))+1))):=⟨_,rfl⟩
                     replace H:(if aI.length<17592186044416 then(spec_l5From.l2 k3 y159 (aI++[rd aG aC]) aE aG (wrap64 (aC+1)) aK aJ aH) else(none))=some r:=zY hy159 H
                     have Ny159:=zA hy159
                     clear hy159
                     by_cases c34:aI.length<17592186044416
                     ·rw[if_pos c34] at H
                      have LMc34:=zA c34
                      clear c34
                      obtain⟨y160,hy160⟩:∃ y_:List Int,y_=(aI++[rd aG aC]):=⟨_,rfl⟩
                      replace H:(spec_l5From.l2 k3 y159 y160 aE aG (wrap64 (aC+1)) aK aJ aH)=some r:=zY hy160 H
                      have Ny160:=zA hy160
                      clear hy160
                      have H':=zA H
                      clear H
                      obtain⟨Ao35,co35,eo35⟩:=Kd.R_slice aW.out
                      subst eo35
                      have p154:0≤(aC:Int):=of_decide_eq_true (by first|(with_reducible assumption)|assumption)
                      have q154:aC<(aG.length:Int):=of_decide_eq_true (by first|(with_reducible assumption)|assumption)
                      obtain⟨ad154,e154,hx154_0⟩:=Kd.at_int (Kd.R_reads' aW.out).2.2 aC p154 q154
                      cases e154
                      replace p154:=eq_true p154
                      replace q154:=eq_true q154
                      have p155:0≤((rd aG aC):Int):=of_decide_eq_true (by first|(with_reducible assumption)|assumption)
                      have q155:(rd aG aC)<(aM.length:Int):=of_decide_eq_true (by first|(with_reducible assumption)|assumption)
                      obtain⟨ad155,e155,hx155_0⟩:=Kd.at_int (Kd.R_reads' aD.out).2.2 (rd aG aC) p155 q155
                      obtain rfl:(⟨go12,0,none⟩:Addr)=ad155:=(by injection e155)
                      (first|simp only[add_plain] at hx155_0|simp only[add_at] at hx155_0|simp only[Addr.add,Nat.zero_add] at hx155_0|skip)
                      replace p155:=eq_true p155
                      replace q155:=eq_true q155
                      try go_wp2
                      have aV:=zA (Kd.R_drew aD.out)
                      have aU:=zA (Kd.R_drew aN.out)
                      have aT:=zA (Kd.R_drew aW.out)
                      have bA:=zA (blk_drew aA.out)
                      have bH:=zA (below_drew1 HB.out)
                      clear aD
                      clear aN
                      clear aW
                      clear aA
                      clear HB
                      have aD:=aV
                      have aN:=aU
                      have aW:=aT
                      have aA:=bA
                      have HB:=bH
                      clear aV aU aT bA bH
                      have p156:0≤(aC:Int):=of_decide_eq_true (by first|(with_reducible assumption)|assumption)
                      have q156:aC<(aG.length:Int):=of_decide_eq_true (by first|(with_reducible assumption)|assumption)
                      obtain⟨ad156,e156,bJ⟩:=Kd.at_int (Kd.R_reads' aW.out).2.2 aC p156 q156
                      obtain rfl:ad154=ad156:=(by injection e156)
                      replace p156:=eq_true p156
                      replace q156:=eq_true q156
                      obtain⟨Ao37,co37,eo37⟩:=Kd.R_slice aN.out
                      (first|subst eo37|(injection eo37 with f1_ f2_ f3_;have f4_:=f1_.symm;have f5_:=f3_.symm;clear f1_ f2_ f3_;subst f4_;subst f5_))
                      have bL:0≤(aE:Int):=of_decide_eq_true (by first|(with_reducible assumption)|assumption)
                      have q157:aE<(aI.length:Int):=of_decide_eq_true (by first|(with_reducible assumption)|assumption)
                      obtain⟨ad157,e157,bI⟩:=Kd.at_int (Kd.R_reads' aN.out).2.2 aE bL q157
                      cases e157
                      replace bL:=eq_true bL
                      replace q157:=eq_true q157
                      have p158:0≤((rd aI aE):Int):=of_decide_eq_true (by first|(with_reducible assumption)|assumption)
                      have q158:(rd aI aE)<(aM.length:Int):=of_decide_eq_true (by first|(with_reducible assumption)|assumption)
                      obtain⟨ad158,e158,bD⟩:=Kd.at_int (Kd.R_reads' aD.out).2.2 (rd aI aE) p158 q158
                      obtain rfl:(⟨go12,0,none⟩:Addr)=ad158:=(by injection e158)
                      (first|simp only[add_plain] at bD|simp only[add_at] at bD|simp only[Addr.add,Nat.zero_add] at bD|skip)
                      replace p158:=eq_true p158
                      replace q158:=eq_true q158
                      have p33:0≤((rd aG aC):Int):=of_decide_eq_true (by first|(with_reducible assumption)|assumption)
                      have q33:((rd aG aC):Int)<((aM.length:Int):Int):=of_decide_eq_true (by first|(with_reducible assumption)|assumption)
                      obtain⟨bR,hf33_0⟩:=Kd.R_celln 0 aD.out ((rd aG aC):Int) p33 q33
                      replace p33:=eq_true p33
                      replace q33:=eq_true q33
                      have HP38:=Kd.R_putn aD.out ((rd aG aC):Int) (wrap64 ((rd aM (rd aI aE))+1))
                      rw[←Ny159.out] at HP38
                      have HQ38:=zA HP38
                      clear HP38
                      refine start_ (n:=15) (S:=fun w'=>w'.cell? (ad154.add (aC).toNat)=some (.int .i64 (rd aG aC))∧w'.cell? (ad157.add (aE).toNat)=some (.int .i64 (rd aI aE))∧w'.cell? ⟨go12,((rd aI aE)).toNat,none⟩=some (.int .i64 (rd aM (rd aI aE)))) (ds:=[14]) #[false,false,false,false,false,false,false,false,false,false,false,false,false,false,false] (by kernel_rfl) rfl rfl ⟨bJ,bI,bD⟩ (fun hHeld=>?_);refine with_tabW spec_l5From.tab16 spec_l5From.bits16 (fun HT_ HW_=>?_)
                      generalize wr.drew=cA at aD aN aW aA HB HQ38 hf33_0 bJ bI bD bR hHeld ⊢
                      refine pure_ (i:=0) (N:=some 53) (v:=?_) (a':=?_) #[true,false,false,false,false,false,false,false,false,false,false,false,false,false,false] rfl rfl (any_of HT_.out (by kernel_rfl)) (fun _ _ _ h=>h) (Or.inl ⟨by rfl,?_⟩) ?_ ?_
                      rotate_left
                      ·intro w'
                       go_simp
                       with_reducible rfl
                      rotate_left
                      ·simp only[Act.put,z_L,i64_w,i32_w]
                       rfl
                      refine pure_ (i:=1) (N:=some 54) (v:=?_) (a':=?_) #[true,true,false,false,false,false,false,false,false,false,false,false,false,false,false] rfl rfl (any_of HT_.out (by kernel_rfl)) (fun _ _ _ h=>h) (Or.inl ⟨by rfl,?_⟩) ?_ ?_
                      rotate_left
                      ·intro w'
                       go_simp
                       with_reducible rfl
                      rotate_left
                      ·simp only[Act.put,z_L,i64_w,i32_w]
                       rfl
                      refine pure_ (i:=2) (N:=some 55) (v:=?_) (a':=?_) #[true,true,true,false,false,false,false,false,false,false,false,false,false,false,false] rfl rfl (any_of HT_.out (by kernel_rfl)) (fun _ _ _ h=>h) (Or.inl ⟨by rfl,?_⟩) ?_ ?_
                      rotate_left
                      ·intro w'
                       go_simp
                       with_reducible rfl
                      rotate_left
                      ·simp only[Act.put,z_L,i64_w,i32_w]
                       rfl
                      refine pure_ (i:=3) (N:=some 56) (v:=?_) (a':=?_) #[true,true,true,true,false,false,false,false,false,false,false,false,false,false,false] rfl rfl (any_of HT_.out (by kernel_rfl)) (fun _ _ _ h=>h) (Or.inl ⟨by rfl,?_⟩) ?_ ?_
                      rotate_left
                      ·intro w'
                       go_simp
                       with_reducible rfl
                      rotate_left
                      ·simp only[Act.put,z_L,i64_w,i32_w]
                       rfl
                      refine pure_ (i:=5) (N:=some 58) (v:=?_) (a':=?_) #[true,true,true,true,false,true,false,false,false,false,false,false,false,false,false] rfl rfl (any_of HT_.out (by kernel_rfl)) (fun _ _ _ h=>h) (Or.inl ⟨by rfl,?_⟩) ?_ ?_
                      rotate_left
                      ·intro w'
                       go_simp
                       with_reducible rfl
                      rotate_left
                      ·simp only[Act.put,z_L,i64_w,i32_w]
                       rfl
                      refine pure_ (i:=6) (N:=some 59) (v:=?_) (a':=?_) #[true,true,true,true,false,true,true,false,false,false,false,false,false,false,false] rfl rfl (any_of HT_.out (by kernel_rfl)) (fun _ _ _ h=>h) (Or.inl ⟨by rfl,?_⟩) ?_ ?_
                      rotate_left
                      ·intro w'
                       go_simp
                       with_reducible rfl
                      rotate_left
                      ·simp only[Act.put,z_L,i64_w,i32_w]
                       rfl
                      refine pure_ (i:=7) (N:=some 60) (v:=?_) (a':=?_) #[true,true,true,true,false,true,true,true,false,false,false,false,false,false,false] rfl rfl (any_of HT_.out (by kernel_rfl)) (fun _ _ _ h=>h) (Or.inl ⟨by rfl,?_⟩) ?_ ?_
                      rotate_left
                      ·intro w'
                       go_simp
                       with_reducible rfl
                      rotate_left
                      ·simp only[Act.put,z_L,i64_w,i32_w]
                       rfl
                      refine pure_ (i:=8) (N:=some 61) (v:=?_) (a':=?_) #[true,true,true,true,false,true,true,true,true,false,false,false,false,false,false] rfl rfl (any_of HT_.out (by kernel_rfl)) (fun _ _ _ h=>h) (Or.inl ⟨by rfl,?_⟩) ?_ ?_
                      rotate_left
                      ·intro w'
                       go_simp
                       with_reducible rfl
                      rotate_left
                      ·simp only[Act.put,z_L,i64_w,i32_w]
                       rfl
                      refine take_ (i:=4) (N:=some 57) (v:=?_) (a':=?_) #[true,true,true,true,true,true,true,true,true,false,false,false,false,false,false] rfl rfl (take_ofW HT_.out HW_.out (by kernel_rfl)) (fun _ _ _ h=>h) (Or.inl ⟨by rfl,?_⟩) hHeld ?_ ?_
                      rotate_left
                      ·rintro w' ⟨s0,s1,s2⟩
                       go_simp
                       with_reducible rfl
                      rotate_left
                      ·simp only[Act.put,z_L,i64_w,i32_w]
                       rfl
                      refine take_ (i:=9) (N:=some 62) (v:=?_) (a':=?_) #[true,true,true,true,true,true,true,true,true,true,false,false,false,false,false] rfl rfl (take_ofW HT_.out HW_.out (by kernel_rfl)) (fun _ _ _ h=>h) (Or.inl ⟨by rfl,?_⟩) hHeld ?_ ?_
                      rotate_left
                      ·rintro w' ⟨s0,s1,s2⟩
                       go_simp
                       with_reducible rfl
                      rotate_left
                      ·simp only[Act.put,z_L,i64_w,i32_w]
                       rfl
                      refine pure_ (i:=10) (N:=some 63) (v:=?_) (a':=?_) #[true,true,true,true,true,true,true,true,true,true,true,false,false,false,false] rfl rfl (any_of HT_.out (by kernel_rfl)) (fun _ _ _ h=>h) (Or.inl ⟨by rfl,?_⟩) ?_ ?_
                      rotate_left
                      ·intro w'
                       go_simp
                       with_reducible rfl
                      rotate_left
                      ·simp only[Act.put,z_L,i64_w,i32_w]
                       rfl
                      refine take_ (i:=11) (N:=some 64) (v:=?_) (a':=?_) #[true,true,true,true,true,true,true,true,true,true,true,true,false,false,false] rfl rfl (take_ofW HT_.out HW_.out (by kernel_rfl)) (fun _ _ _ h=>h) (Or.inl ⟨by rfl,?_⟩) hHeld ?_ ?_
                      rotate_left
                      ·rintro w' ⟨s0,s1,s2⟩
                       go_simp
                       with_reducible rfl
                      rotate_left
                      ·simp only[Act.put,z_L,i64_w,i32_w]
                       rfl
                      refine pure_ (i:=12) (N:=some 65) (v:=?_) (a':=?_) #[true,true,true,true,true,true,true,true,true,true,true,true,true,false,false] rfl rfl (any_of HT_.out (by kernel_rfl)) (fun _ _ _ h=>h) (Or.inl ⟨by rfl,?_⟩) ?_ ?_
                      rotate_left
                      ·intro w'
                       go_simp
                       with_reducible rfl
                      rotate_left
                      ·simp only[Act.put,z_L,i64_w,i32_w]
                       rfl
                      refine pure_ (i:=13) (N:=some 66) (v:=?_) (a':=?_) #[true,true,true,true,true,true,true,true,true,true,true,true,true,true,false] rfl rfl (any_of HT_.out (by kernel_rfl)) (fun _ _ _ h=>h) (Or.inl ⟨by rfl,?_⟩) ?_ ?_
                      rotate_left
                      ·intro w'
                       go_simp
                       with_reducible rfl
                      rotate_left
                      ·simp only[Act.put,z_L,i64_w,i32_w]
                       rfl
                      refine last_ (i:=14) (N:=none) #[true,true,true,true,true,true,true,true,true,true,true,true,true,true,true] rfl rfl (one_of HT_.out (by kernel_rfl)) (by decide) (fun K hK=>?_)
                      refine skip_ (w1:=?_) (by rfl) rfl ?_ ?_
                      rotate_left
                      ·go_simp
                       rfl
                      refine hK.out _ _ ?_
                      clear hK K
                      refine done_ (done_of HT_.out (by kernel_rfl)) ?_
                      obtain⟨adN_,eN_,hxN_⟩:=Kd.at_int (Kd.R_reads' (Kd.R_mono (Kd.R_far (p:=⟨go12,((rd aG aC):Int).toNat,none⟩) (Kd.R_mono aW.out (fun k_ hk=>(⟨hk,fun e_=>hk.1 (by rw[e_];rfl)⟩:_∧k_≠go12))) (fun _ hk=>hk.2) (.int .i64 (wrap64 ((rd aM (rd aI aE))+1)))) (fun _ h_=>h_.1))).2.2 aC (of_decide_eq_true (by first|(with_reducible assumption)|assumption)) (of_decide_eq_true (by first|(with_reducible assumption)|assumption));cases eN_
                      try go_wp2_with (first|((with_reducible refine gate_builtin (b:=.append) (xs:=#[.tmp 67,.tmp 72]) rfl ?_);at_builtin;refine Kd.R_append (Kd.int .i64) (w0:=w) w.heap.size rfl (.tmp 67) (.tmp 72) 24 3 (.int .i64 0) 8 rfl Try.underlying24 info3 rfl (by decide) (by omega) (.slice (some ad157) aI.length co37) aI (rd aG aC) [.int .i64 (rd aG aC)] (fun k_=>some k_≠(.slice (some ⟨go12,0,none⟩) aM.length bG:Value).ownBlock∧some k_≠(.slice (some ad154) aG.length co35:Value).ownBlock) (fun _=>False) rfl (by first|(go_simp;done)|(go_simp;rfl)) ?aP (fun _ hk=>hk.elim) ?aF ?aO ?aB ?aS ?aL ?_;(case aP=>exact rfl);(case aB=>exact(zb));(case aF=>exact(fun k_ hk=>⟨Kd.fresh' (Kd.R_lt (zR HQ38)) k_ hk,Kd.fresh' (Kd.R_lt (by(with_reducible repeat (first|apply Kd.R_alloc|apply Kd.R_drewN|apply Kd.R_drew));exact(Kd.R_mono (Kd.R_far (p:=⟨go12,((rd aG aC):Int).toNat,none⟩) (Kd.R_mono aW.out (fun k_ hk=>(⟨hk,fun e_=>hk.1 (by rw[e_];rfl)⟩:_∧k_≠go12))) (fun _ hk=>hk.2) (.int .i64 (wrap64 ((rd aM (rd aI aE))+1)))) (fun _ h_=>h_.1)))) k_ hk⟩));(case aO=>exact(by(with_reducible repeat (first|apply Kd.R_alloc|apply Kd.R_drewN|apply Kd.R_drew));exact Kd.R_mono (Kd.R_far (p:=⟨go12,((rd aG aC):Int).toNat,none⟩) (Kd.R_mono aN.out (fun k_ hk=>(⟨hk,fun e_=>hk.1 (by rw[e_];rfl)⟩:_∧k_≠go12))) (fun _ hk=>hk.2) (.int .i64 (wrap64 ((rd aM (rd aI aE))+1)))) (fun _ hk=>⟨hk.1.1,hk.1.2⟩)));(case aS=>exact(below_size (zb)));(case aL=>have:=LMc34.out;omega);intro v161 bZ ho hb hg hat;rw[←Ny160.out] at ho;have aV:=zA (Kd.R_after (ok:=(fun k_=>some k_≠(.slice (some ad154) aG.length co35:Value).ownBlock)) (z_o HQ38 (fun _ hk=>⟨hk.2,hk.1⟩)) hg hat);have aU:=zA (Kd.R_after (ok:=(fun k_=>some k_≠(.slice (some ⟨go12,0,none⟩) aM.length bG:Value).ownBlock)) (by(with_reducible repeat (first|apply Kd.R_alloc|apply Kd.R_drewN|apply Kd.R_drew));exact Kd.R_mono (Kd.R_far (p:=⟨go12,((rd aG aC):Int).toNat,none⟩) (Kd.R_mono aW.out (fun k_ hk=>(⟨hk,fun e_=>hk.1 (by rw[e_];rfl)⟩:_∧k_≠go12))) (fun _ hk=>hk.2) (.int .i64 (wrap64 ((rd aM (rd aI aE))+1)))) (fun _ hk=>⟨hk.1.1,hk.1.2⟩)) hg hat);have aT:=zA (blk_grown (g:=aQ) (o:=.cells #[.int .i64 aK,.int .i64 aJ,.slice aY aH.length aX] 26 (0,0)) (by(with_reducible repeat (first|refine blk_drewN ?_ _|refine blk_drew ?_|refine blk_alloc ?_ _));refine blk_far ?_ (by have h_:=Kd.R_ne aD.out aA.out (by decide);intro e_;exact h_ (by rw[e_];rfl)) _;(with_reducible repeat (first|refine blk_drewN ?_ _|refine blk_drew ?_|refine blk_alloc ?_ _));exact aA.out) hg (Kd.R_ne aN.out aA.out (by decide)));have bA:=zA hb;have bH:=zA ho;clear aD;clear aW;clear aA;clear HB;clear aN;have aD:=aV;have aW:=aU;have aA:=aT;have HB:=bA;have bU:=bH;clear aV aU aT bA bH;clear ho hb hg hat))
                      (try simp only[←hl5_3])
                      go_roundg k3
                      case measure=>have:=HK1.out;have:=HK2.out;have:=HK3.out;omega
                      case rel=>exact⟨(y159),(y160),(wrap64 (aC+1)),(by first|rfl|(simp;done)|(simp[*];done)),H',⟨by have:=HK1.out;have:=HK2.out;have:=HK3.out;omega⟩,⟨by(try simp only[hl5_2]);(try simp only[hl5_3]);(with_reducible repeat (first|apply Kd.R_alloc|apply Kd.R_drewN|apply Kd.R_drew));exact Kd.R_mono aD.out (fun _ hk=>⟨hk.2,hk.1⟩)⟩,⟨by(try simp only[hl5_2]);(try simp only[hl5_3]);(with_reducible repeat (first|apply Kd.R_alloc|apply Kd.R_drewN|apply Kd.R_drew));exact bU.out⟩,⟨by(try simp only[hl5_2]);(try simp only[hl5_3]);(with_reducible repeat (first|apply Kd.R_alloc|apply Kd.R_drewN|apply Kd.R_drew));exact aW.out⟩,⟨by(try simp only[hl5_2]);(try simp only[hl5_3]);(with_reducible repeat (first|refine blk_drewN ?_ _|refine blk_drew ?_|refine blk_alloc ?_ _));exact aA.out⟩,⟨zb⟩⟩
                     ·rw[if_neg c34] at H
                      exact absurd H (by simp)
                    ·rw[if_neg c32] at H
                     exact absurd H (by simp)
                   ·rw[if_neg c31] at H
                    exact absurd H (by simp)
                  ·rw[if_neg c30] at H
                   exact absurd H (by simp)
                 ·rw[if_neg c29] at H
                  exact absurd H (by simp)
                ·rw[if_neg c28] at H
                 have bS:decide ((rd aM (rd aG aC))<0)=false:=decide_eq_false c28
                 clear c28
                 have H':=zA H
                 clear H
                 obtain⟨Ao40,co40,eo40⟩:=Kd.R_slice aW.out
                 subst eo40
                 have p154:0≤(aC:Int):=of_decide_eq_true (by first|(with_reducible assumption)|assumption)
                 have q154:aC<(aG.length:Int):=of_decide_eq_true (by first|(with_reducible assumption)|assumption)
                 obtain⟨ad154,e154,hx154_0⟩:=Kd.at_int (Kd.R_reads' aW.out).2.2 aC p154 q154
                 cases e154
                 replace p154:=eq_true p154
                 replace q154:=eq_true q154
                 have p155:0≤((rd aG aC):Int):=of_decide_eq_true (by first|(with_reducible assumption)|assumption)
                 have q155:(rd aG aC)<(aM.length:Int):=of_decide_eq_true (by first|(with_reducible assumption)|assumption)
                 obtain⟨ad155,e155,hx155_0⟩:=Kd.at_int (Kd.R_reads' aD.out).2.2 (rd aG aC) p155 q155
                 obtain rfl:(⟨go12,0,none⟩:Addr)=ad155:=(by injection e155)
                 (first|simp only[add_plain] at hx155_0|simp only[add_at] at hx155_0|simp only[Addr.add,Nat.zero_add] at hx155_0|skip)
                 replace p155:=eq_true p155
                 replace q155:=eq_true q155
                 go_wp2
                 (try simp only[←hl5_3])
                 go_roundg k3
                 case measure=>have:=HK1.out;have:=HK2.out;have:=HK3.out;omega
                 case rel=>exact⟨(aM),(aI),(wrap64 (aC+1)),(by first|rfl|(simp;done)|(simp[*];done)),H',⟨by have:=HK1.out;have:=HK2.out;have:=HK3.out;omega⟩,⟨by(try simp only[hl5_2]);(try simp only[hl5_3]);(with_reducible repeat (first|apply Kd.R_alloc|apply Kd.R_drewN|apply Kd.R_drew));exact aD.out⟩,⟨by(try simp only[hl5_2]);(try simp only[hl5_3]);(with_reducible repeat (first|apply Kd.R_alloc|apply Kd.R_drewN|apply Kd.R_drew));exact aN.out⟩,⟨by(try simp only[hl5_2]);(try simp only[hl5_3]);(with_reducible repeat (first|apply Kd.R_alloc|apply Kd.R_drewN|apply Kd.R_drew));exact aW.out⟩,⟨by(try simp only[hl5_2]);(try simp only[hl5_3]);(with_reducible repeat (first|refine blk_drewN ?_ _|refine blk_drew ?_|refine blk_alloc ?_ _));exact aA.out⟩,⟨zb⟩⟩
               ·rw[if_neg c27] at H
                exact absurd H (by simp)
              ·rw[if_neg c26] at H
               exact absurd H (by simp)
             ·rw[if_neg c25] at H
              exact absurd H (by simp)
            ·rw[if_neg c24] at H
             have bT:decide (aC<(aG.length:Int))=false:=decide_eq_false c24
             clear c24
             have H':=zA H
             clear H
             obtain⟨Ao41,co41,eo41⟩:=Kd.R_slice aW.out
             subst eo41
             go_wp2
             (try simp only[←hl5_2,←hl5_3])
             go_roundg k3
             case measure=>have:=HK1.out;have:=HK2.out;have:=HK3.out;omega
             case rel=>exact⟨(aM),(aI),(wrap64 (aE+1)),(by first|rfl|(simp;done)|(simp[*];done)),H',⟨by have:=HK1.out;have:=HK2.out;have:=HK3.out;omega⟩,⟨by(try simp only[hl5_2]);(try simp only[hl5_3]);(with_reducible repeat (first|apply Kd.R_alloc|apply Kd.R_drewN|apply Kd.R_drew));exact Kd.R_mono aD.out (fun _ hk=>hk.1)⟩,⟨by(try simp only[hl5_2]);(try simp only[hl5_3]);(with_reducible repeat (first|apply Kd.R_alloc|apply Kd.R_drewN|apply Kd.R_drew));exact Kd.R_mono aN.out (fun _ hk=>hk.1)⟩,⟨by(try simp only[hl5_2]);(try simp only[hl5_3]);(with_reducible repeat (first|refine blk_drewN ?_ _|refine blk_drew ?_|refine blk_alloc ?_ _));exact aA.out⟩,⟨zb⟩⟩
         ·rw[if_neg c19] at H
          exact absurd H (by simp)
        ·rw[if_neg c18] at H
         have bP:decide (aE<(bB.length:Int))=false:=decide_eq_false c18
         clear c18
         obtain rfl:=zI H
         obtain⟨Ao42,co42,eo42⟩:=Kd.R_slice aN.out
         subst eo42
         go_wp2
         go_ret
         exact⟨_,zE,z_t aD,zb⟩
     ·rw[if_neg c11] at H
      exact absurd H (by simp)
    ·rw[if_neg c10] at H
     exact absurd H (by simp)

def spec_Reach.l0:Nat→Int→List Int→List Int→Int→Option (List Int)
  |0,_,_,_,_=>none
  |k+1,x2,x7,x8,x9=>if x9<(x8.length:Int) then(if 0≤x9 then(if (rd x8 x9)≥0 then(if (rd x8 x9)≤x2 then(if x7.length<17592186044416 then(spec_Reach.l0 k x2 (x7++[x9]) x8 (wrap64 (x9+1))) else(none)) else(spec_Reach.l0 k x2 x7 x8 (wrap64 (x9+1)))) else(spec_Reach.l0 k x2 x7 x8 (wrap64 (x9+1)))) else(none)) else(some x7)
def spec_Reach.f (k:Nat) (a0_0:Int) (a0_1:Int) (l0_2:List Int) (a1:Int) (a2:Int):Option (List Int):=(some (([]:List Int):List Int)).bind fun y311=>((spec_IsOpen.f k a0_0 a0_1 l0_2 a1).bind fun t314=>(if t314=true then((spec_l5From.f k a0_0 a0_1 l0_2 a1).bind fun t315=>(spec_Reach.l0 k a2 y311 t315 0)) else(some y311)))
theorem spec_Reach.calls (k:Nat) (aI:Int) (aH:Int) (aM:Option Addr) (aK:Nat) (aE:List Int) (a1:Int) (a2:Int) (r:List Int) (w:World) (bE:Kd.C (Kd.int .i64) w aM aE.length aE) (bF:aE.length≤aK) (h:spec_Reach.f k aI aH aE a1 a2=some r) :
  Calls Try.prog 59 #[.agg #[.int .i64 aI,.int .i64 aH,.slice aM aE.length aK],.int .i64 a1,.int .i64 a2] w fun e w'=>∃ v0_:Value,e=.returned (v0_)∧Kd.R (Kd.int .i64) 3 w' w.heap.size (fun _=>True) v0_ r∧Below w.heap.size w w':=by
 have hu26:=Try.underlying26;have aZ:=zA bE;have bA:=zA bF;clear bE bF;have HB:=zA (Below.refl w.heap.size w);have H:=h;clear h;unfold spec_Reach.f at H;obtain⟨bB,aX⟩:∃ y_:List Int,y_=(([]:List Int)):=⟨_,rfl⟩
 replace H:((spec_IsOpen.f k aI aH aE a1).bind fun bC=>(if bC=true then((spec_l5From.f k aI aH aE a1).bind fun aD=>(spec_Reach.l0 k a2 bB aD 0)) else(some bB)))=some r:=zY aX H
 have Ny311:=zA aX;clear aX;obtain⟨bC,A4,H⟩:=zB H
 by_cases c5:bC=true
 ·subst c5;rw[if_pos rfl] at H;obtain⟨aD,A6,H⟩:=zB H;have H':=zA H;clear H;go_enter Try.func59,Try.ntmps59
  go_wp2_with (first|((with_reducible refine zgd 3 rfl ?_);refine zbx 3 #[.int .i64 aI,.int .i64 aH,.slice aM aE.length aK] 26 ?_;intro bG hg w7 hbox hb;have aC:=zA hbox;have cF:=zga (w:=w) hg;replace HB:=zbs hb;clear hb hbox hg)|((with_reducible refine zgd 10 rfl ?_);refine Kd.R_lit (Kd.int .i64) _ 3 ?hg (N:=10) ?hd (xs:=([]:List Int)) (inner:=[]) (ok:=fun _=>True) (okp:=fun _=>True) ?hr ?hp (fun _ hk=>hk) trivial (Below.refl _ _) (Nat.le_refl _) (by simp) ?_;(case hd=>rfl);(case hg=>rfl);(case hr=>first|(go_simp;done)|(go_simp;rfl));(case hp=>exact(Reps.none _ _));intro v312 w8 ho9 hb hg_ hnew_;clear hg_ hnew_;(first|rw[←Ny311.out] at ho9|(simp only[Int.reduceToNat] at ho9;rw[←Ny311.out] at ho9));have aJ:=zA (Kd.R_lower ho9 (below_size zb));replace aC:=zkb aC hb;replace HB:=zbs hb;clear hb ho9;obtain⟨bT,bS,bR,bN,bM,bL⟩:=ze3 aC)|((with_reducible refine zgf 69 rfl ?_);refine zgl 13 Try.func69 #[.agg #[.int .i64 aI,.int .i64 aH,.slice aM aE.length aK],.int .i64 a1] ?_;(with_reducible refine(spec_IsOpen.calls k aI aH _ _ aE a1 true _ ?s1 ?s2 A4.out).mono ?_);(case s1=>exact zCb aZ);(case s2=>exact bA.out);rintro e dI ⟨rfl,hb⟩;refine⟨_,rfl,?_⟩;replace aJ:=zRb aJ hb;replace aC:=zkb aC hb;replace HB:=zbs hb;(try clear hb);obtain⟨bQ,bP,bO,bK,bJ,bI⟩:=ze3 aC)|((with_reducible refine zgf 70 rfl ?_);refine zgl 18 Try.func70 #[.agg #[.int .i64 aI,.int .i64 aH,.slice aM aE.length aK],.int .i64 a1] ?_;(with_reducible refine(spec_l5From.calls k aI aH _ _ aE a1 aD _ ?s1 ?s2 A6.out).mono ?_);(case s1=>exact zCb aZ);(case s2=>exact bA.out);rintro e dH ⟨v316,rfl,ho0,hb⟩;refine⟨_,rfl,?_⟩;have cE:=zA (Kd.R_lower (Kd.R_new' ho0 (Kd.R_lt (zR aJ))) (below_size zb));replace aJ:=zA (Kd.R_elder' (zR aJ) (Kd.R_base ho0) hb);replace aC:=zkb aC hb;replace HB:=zbs hb;(try clear hb);(try clear ho0)))
  go_loopg [7,9] k (fun kq v7 v9 w'=>∃ (aN:List Int) (aA:Int),v9=.int .i64 aA∧Aside0 (spec_Reach.l0 kq a2 aN aD aA=some r)∧Aside0 (kq≤k)∧Aside0 (Kd.R (Kd.int .i64) 3 w' w.heap.size (fun k_=>some k_≠(v316:Value).ownBlock) v7 aN)∧Aside0 (Kd.R (Kd.int .i64) 3 w' w.heap.size (fun k_=>some k_≠(v7:Value).ownBlock) v316 aD)∧Aside0 (w'.heap[bG]?=some (.cells #[.int .i64 aI,.int .i64 aH,(.slice aM aE.length aK)] 26 (0,0)))∧Aside0 (Below w.heap.size w w'))
  case atStart=>exact⟨(bB),(0),zr,H',⟨Nat.le_refl _⟩,⟨z_2 aJ⟩,⟨z_2 cE⟩,⟨zk aC⟩,⟨zb⟩⟩
  case round =>
   clear H';(try clear c5);(try clear bT);(try clear bS);(try clear bR);(try clear bQ);(try clear bP);(try clear bO);(try clear bN);(try clear bM);(try clear bL);(try clear bK);(try clear bJ);(try clear bI);obtain⟨aN,aA,rfl,HA,HK1,aR,aG,aC,HB⟩:=hrel
   cases gk with
   |zero=>exact absurd HA.out (by simp[spec_Reach.l0])
   |succ k1 =>
    have H:=HA.out;clear HA;simp only[spec_Reach.l0] at H
    by_cases c14:aA<(aD.length:Int)
    ·rw[if_pos c14] at H;have cB:=decide_eq_true c14;clear c14;obtain⟨cU,H⟩:=zifD H
     by_cases c16:(rd aD aA)≥0
     ·rw[if_pos c16] at H;have cA:decide (0≤(rd aD aA))=true:=decide_eq_true c16;clear c16
      by_cases c17:(rd aD aA)≤a2
      ·rw[if_pos c17] at H;have bZ:=decide_eq_true c17;clear c17;obtain⟨cC,H⟩:=zifA H;obtain⟨bV,aW⟩:∃ y_:List Int,y_=(aN++[aA]):=⟨_,rfl⟩
       replace H:(spec_Reach.l0 k1 a2 bV aD (wrap64 (aA+1)))=some r:=zY aW H
       have Ny320:=zA aW;clear aW;have H':=zA H;clear H;obtain⟨dB,cM,cL⟩:=Kd.R_slice aG.out;subst cL;have bX:=zT (0≤(aA:Int));have bW:=zT (aA<(aD.length:Int));obtain⟨aQ,aT,aV⟩:=Kd.at_int (Kd.R_reads' aG.out).2.2 aA zd zd;cases aT;have cH:=zT (0≤(aA:Int));have cG:=zT (aA<(aD.length:Int));obtain⟨aY,bD,bH⟩:=Kd.at_int (Kd.R_reads' aG.out).2.2 aA zd zd;obtain rfl:aQ=aY:=(by injection bD)
       go_wp2_with (first|((with_reducible refine gate_builtin (b:=.append) (xs:=#[.tmp 38,.tmp 40]) rfl ?_);at_builtin;refine Kd.R_append (Kd.int .i64) (w0:=w) w.heap.size rfl (.tmp 38) (.tmp 40) 24 3 (.int .i64 0) 8 rfl Try.underlying24 info3 rfl (by decide) (by omega) u7 aN aA [.int .i64 aA] (fun k_=>some k_≠(.slice (some aQ) aD.length cM:Value).ownBlock) (fun _=>False) rfl rfl ?aP (fun _ hk=>hk.elim) ?aF ?aO ?aB ?aS ?aL ?_;(case aP=>exact rfl);(case aB=>exact zb);(case aF=>exact(fun k_ hk=>Kd.fresh' (Kd.R_lt (zR aG)) k_ hk));(case aO=>exact(zR aR));(case aS=>exact(below_size zb));(case aL=>have:=cC.out;omega);intro v321 dG ho hb hg hat;rw[←Ny320.out] at ho;replace aG:=zA (Kd.R_after (ok:=(fun _=>True)) (z_o aG (fun _ hk=>⟨trivial,hk⟩)) hg hat);replace aC:=zgr aC hg (Kd.R_ne aR.out aC.out (by decide));replace HB:=zA hb;have cD:=zA ho;clear aR;clear ho hb hg hat))
       go_roundg k1
       case measure=>have:=HK1.out;omega
       case rel=>exact⟨(bV),(wrap64 (aA+1)),zr,H',⟨by have:=HK1.out;omega⟩,⟨zR cD⟩,⟨z_2 aG⟩,⟨zk aC⟩,⟨zb⟩⟩
      ·rw[if_neg c17] at H;have bZ:=decide_eq_false c17;clear c17;have H':=zA H;clear H;obtain⟨dA,cX,cK⟩:=Kd.R_slice aG.out;subst cK;have bX:=zT (0≤(aA:Int));have bW:=zT (aA<(aD.length:Int));obtain⟨aQ,aT,aV⟩:=Kd.at_int (Kd.R_reads' aG.out).2.2 aA zd zd;cases aT;have cH:=zT (0≤(aA:Int));have cG:=zT (aA<(aD.length:Int));obtain⟨aY,bD,bH⟩:=Kd.at_int (Kd.R_reads' aG.out).2.2 aA zd zd;obtain rfl:aQ=aY:=(by injection bD);go_wp2
       go_roundg k1
       case measure=>have:=HK1.out;omega
       case rel=>exact⟨(aN),(wrap64 (aA+1)),zr,H',⟨by have:=HK1.out;omega⟩,⟨zR aR⟩,⟨zR aG⟩,⟨zk aC⟩,⟨zb⟩⟩
     ·rw[if_neg c16] at H;have cA:decide (0≤(rd aD aA))=false:=decide_eq_false c16;clear c16;have H':=zA H;clear H;obtain⟨cZ,cW,cJ⟩:=Kd.R_slice aG.out;subst cJ;have bX:=zT (0≤(aA:Int));have bW:=zT (aA<(aD.length:Int));obtain⟨aQ,aT,aV⟩:=Kd.at_int (Kd.R_reads' aG.out).2.2 aA zd zd;cases aT;go_wp2
      go_roundg k1
      case measure=>have:=HK1.out;omega
      case rel=>exact⟨(aN),(wrap64 (aA+1)),zr,H',⟨by have:=HK1.out;omega⟩,⟨zR aR⟩,⟨zR aG⟩,⟨zk aC⟩,⟨zb⟩⟩
    ·rw[if_neg c14] at H;have cB:=decide_eq_false c14;clear c14;obtain rfl:=zI H;obtain⟨cY,cV,cI⟩:=Kd.R_slice aG.out;subst cI;go_wp2;go_ret;exact⟨_,zE,z_t aR,zb⟩
 ·replace c5:=Bool.eq_false_iff.mpr c5;subst c5;rw[if_neg zNo] at H;obtain rfl:=zI H;go_enter Try.func59,Try.ntmps59
  go_wp2_with (first|((with_reducible refine zgd 3 rfl ?_);refine zbx 3 #[.int .i64 aI,.int .i64 aH,.slice aM aE.length aK] 26 ?_;intro bG hg dF hbox hb;have aC:=zA hbox;have cF:=zga (w:=w) hg;replace HB:=zbs hb;clear hb hbox hg)|((with_reducible refine zgd 10 rfl ?_);refine Kd.R_lit (Kd.int .i64) _ 3 ?hg (N:=10) ?hd (xs:=([]:List Int)) (inner:=[]) (ok:=fun _=>True) (okp:=fun _=>True) ?hr ?hp (fun _ hk=>hk) trivial (Below.refl _ _) (Nat.le_refl _) (by simp) ?_;(case hd=>rfl);(case hg=>rfl);(case hr=>first|(go_simp;done)|(go_simp;rfl));(case hp=>exact(Reps.none _ _));intro v312 dE ho26 hb hg_ hnew_;clear hg_ hnew_;(first|rw[←Ny311.out] at ho26|(simp only[Int.reduceToNat] at ho26;rw[←Ny311.out] at ho26));have aJ:=zA (Kd.R_lower ho26 (below_size zb));replace aC:=zkb aC hb;replace HB:=zbs hb;clear hb ho26;obtain⟨cS,cR,cQ,cP,cO,cN⟩:=ze3 aC)|((with_reducible refine zgf 69 rfl ?_);refine zgl 13 Try.func69 #[.agg #[.int .i64 aI,.int .i64 aH,.slice aM aE.length aK],.int .i64 a1] ?_;(with_reducible refine(spec_IsOpen.calls k aI aH _ _ aE a1 false _ ?s1 ?s2 A4.out).mono ?_);(case s1=>exact zCb aZ);(case s2=>exact bA.out);rintro e dD ⟨rfl,hb⟩;refine⟨_,rfl,?_⟩;replace aJ:=zRb aJ hb;replace aC:=zkb aC hb;replace HB:=zbs hb;(try clear hb)))
  go_ret;exact⟨_,zE,zR aJ,zb⟩
end Go.Proofs.Ytdnbfegkplpngaa.Q
