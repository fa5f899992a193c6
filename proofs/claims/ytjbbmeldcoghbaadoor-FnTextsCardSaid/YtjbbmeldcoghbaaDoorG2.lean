/- Walks of 16 functions of the program: each comes to what a plain function tells. -/
import Derived.Test.YtjbbmeldcoghbaaDoorG0
import Derived.Test.YtjbbmeldcoghbaaDoorG1
namespace Go.Proofs.YtjbbmeldcoghbaaDoor.Q
open Go.RowKit Go.Proofs.YtjbbmeldcoghbaaDoorW.PrintWords Go.Proofs.YtjbbmeldcoghbaaDoorW.PrintLast Go.Proofs.YtjbbmeldcoghbaaDoorW.PrintMore Go.Proofs.YtjbbmeldcoghbaaDoorW.Zip
attribute [local go_sem] max2_int min2_int max_two min_two max_three min_three max_four min_four   -- for this text's walks alone
set_option linter.unusedVariables false
set_option maxHeartbeats 8000000
set_option maxRecDepth 100000
set_option linter.unusedSimpArgs false

mutual
def spec_l4Near.j0:Nat→Int→List Int→Bool→Int→Int→List Int→Option (List Int)
  |0,_,_,_,_,_,_=>none
  |k+1,x1,x5,x21,x306000,x306001,x306002=>if x21=true then(if x5.length<17592186044416 then(spec_l4Near.j1 k x1 (x5++[wrap64 (x1-x306000)]) x306000 x306001 x306002) else(none)) else(spec_l4Near.j1 k x1 x5 x306000 x306001 x306002)
def spec_l4Near.j1:Nat→Int→List Int→Int→Int→List Int→Option (List Int)
  |0,_,_,_,_,_=>none
  |k+1,x1,x5,x306000,x306001,x306002=>if x306000=0 then(none) else(if (Int.tmod x1 x306000)>0 then(if 0≤(wrap64 (x1-1)) then(if (wrap64 (x1-1))<(x306002.length:Int) then(spec_l4Near.j2 k x1 x5 ((rd x306002 (wrap64 (x1-1))) != 2) x306000 x306001 x306002) else(none)) else(none)) else(spec_l4Near.j2 k x1 x5 false x306000 x306001 x306002))
def spec_l4Near.j2:Nat→Int→List Int→Bool→Int→Int→List Int→Option (List Int)
  |0,_,_,_,_,_,_=>none
  |k+1,x1,x5,x42,x306000,x306001,x306002=>if x42=true then(if x5.length<17592186044416 then(spec_l4Near.j3 k x1 (x5++[wrap64 (x1-1)]) x306000 x306001 x306002) else(none)) else(spec_l4Near.j3 k x1 x5 x306000 x306001 x306002)
def spec_l4Near.j3:Nat→Int→List Int→Int→Int→List Int→Option (List Int)
  |0,_,_,_,_,_=>none
  |k+1,x1,x5,x306000,x306001,x306002=>if x306000=0 then(none) else(if (Int.tmod x1 x306000)<(wrap64 (x306000-1)) then(if 0≤(wrap64 (x1+1)) then(if (wrap64 (x1+1))<(x306002.length:Int) then(spec_l4Near.j4 k x1 x5 ((rd x306002 (wrap64 (x1+1))) != 2) x306000 x306001 x306002) else(none)) else(none)) else(spec_l4Near.j4 k x1 x5 false x306000 x306001 x306002))
def spec_l4Near.j4:Nat→Int→List Int→Bool→Int→Int→List Int→Option (List Int)
  |0,_,_,_,_,_,_=>none
  |k+1,x1,x5,x64,x306000,x306001,x306002=>if x64=true then(if x5.length<17592186044416 then((some (x5++[wrap64 (x1+1)]:List Int)).bind fun y318=>(if (wrap64 (x1+x306000))<(x306002.length:Int) then(if 0≤(wrap64 (x1+x306000)) then(if (rd x306002 (wrap64 (x1+x306000)))=2 then(some y318) else(if y318.length<17592186044416 then(some (y318++[wrap64 (x1+x306000)])) else(none))) else(none)) else(some y318))) else(none)) else(if (wrap64 (x1+x306000))<(x306002.length:Int) then(if 0≤(wrap64 (x1+x306000)) then(if (rd x306002 (wrap64 (x1+x306000)))=2 then(some x5) else(if x5.length<17592186044416 then(some (x5++[wrap64 (x1+x306000)])) else(none))) else(none)) else(some x5))
end
def spec_l4Near.f (k:Nat) (a0_0:Int) (a0_1:Int) (l0_2:List Int) (a1:Int):Option (List Int):=(some (([]:List Int):List Int)).bind fun y306=>(if a1≥a0_0 then(if 0≤(wrap64 (a1-a0_0)) then(if (wrap64 (a1-a0_0))<(l0_2.length:Int) then(spec_l4Near.j0 k a1 y306 ((rd l0_2 (wrap64 (a1-a0_0))) != 2) a0_0 a0_1 l0_2) else(none)) else(none)) else(spec_l4Near.j0 k a1 y306 false a0_0 a0_1 l0_2))
theorem spec_l4Near.calls (k:Nat) (aD:Int) (aJ:Int) (bM:Option Addr) (bL:Nat) (aC:List Int) (a1:Int) (r:List Int) (w:World) (dX:Kd.C (Kd.int .i64) w bM aC.length aC) (dY:aC.length≤bL) (h:spec_l4Near.f k aD aJ aC a1=some r) :
  Calls Tryd.prog 59 #[.agg #[.int .i64 aD,.int .i64 aJ,.slice bM aC.length bL],.int .i64 a1] w fun e w'=>∃ v0_:Value,e=.returned (v0_)∧Kd.R (Kd.int .i64) 3 w' w.heap.size (fun _=>True) v0_ r∧Below w.heap.size w w':=by
 have hu26:=Tryd.underlying26;have aT:=zA dX;have hY:=zA dY;clear dX dY;have HB:=zA (Below.refl w.heap.size w);have H:=h;clear h;unfold spec_l4Near.f at H;obtain⟨bK,dG⟩:∃ y_:List Int,y_=(([]:List Int)):=⟨_,rfl⟩
 replace H:(if a1≥aD then(if 0≤(wrap64 (a1-aD)) then(if (wrap64 (a1-aD))<(aC.length:Int) then(spec_l4Near.j0 k a1 bK ((rd aC (wrap64 (a1-aD))) != 2) aD aJ aC) else(none)) else(none)) else(spec_l4Near.j0 k a1 bK false aD aJ aC))=some r:=zY dG H
 have Ny306:=zA dG;clear dG;have fR:=zA H;clear H;go_enter Tryd.func59,Tryd.ntmps59
 go_upto_region 2 with (first|((with_reducible refine zgd 2 rfl ?_);refine zbx 2 #[.int .i64 aD,.int .i64 aJ,.slice bM aC.length bL] 26 ?_;intro bX hg w4 hbox hb;have aA:=zA hbox;have gA:=zga (w:=w) hg;replace HB:=zbs hb;clear hb hbox hg)|((with_reducible refine zgd 6 rfl ?_);refine Kd.R_lit (Kd.int .i64) _ 3 ?hg (N:=6) ?hd (xs:=([]:List Int)) (inner:=[]) (ok:=fun _=>True) (okp:=fun _=>True) ?hr ?hp (fun _ hk=>hk) trivial (Below.refl _ _) (Nat.le_refl _) (by simp) ?_;(case hd=>rfl);(case hg=>rfl);(case hr=>first|(go_simp;done)|(go_simp;rfl));(case hp=>exact(Reps.none _ _));intro v307 w5 ho6 hb hg_ hnew_;clear hg_ hnew_;(first|rw[←Ny306.out] at ho6|(simp only[Int.reduceToNat] at ho6;rw[←Ny306.out] at ho6));have dN:=zA (Kd.R_lower ho6 (below_size zb));replace aA:=zkb aA hb;replace HB:=zbs hb;clear hb ho6))
 repeat (go_quiet (fail);go_upto_region 2 with (first|((with_reducible refine zgd 2 rfl ?_);refine zbx 2 #[.int .i64 aD,.int .i64 aJ,.slice bM aC.length bL] 26 ?_;intro bX hg w4 hbox hb;have aA:=zA hbox;have gA:=zga (w:=w) hg;replace HB:=zbs hb;clear hb hbox hg)|((with_reducible refine zgd 6 rfl ?_);refine Kd.R_lit (Kd.int .i64) _ 3 ?hg (N:=6) ?hd (xs:=([]:List Int)) (inner:=[]) (ok:=fun _=>True) (okp:=fun _=>True) ?hr ?hp (fun _ hk=>hk) trivial (Below.refl _ _) (Nat.le_refl _) (by simp) ?_;(case hd=>rfl);(case hg=>rfl);(case hr=>first|(go_simp;done)|(go_simp;rfl));(case hp=>exact(Reps.none _ _));intro v307 w5 ho6 hb hg_ hnew_;clear hg_ hnew_;(first|rw[←Ny306.out] at ho6|(simp only[Int.reduceToNat] at ho6;rw[←Ny306.out] at ho6));have dN:=zA (Kd.R_lower ho6 (below_size zb));replace aA:=zkb aA hb;replace HB:=zbs hb;clear hb ho6)))
 (try simp only[Act.put,List.setIfInBounds_toArray,List.set_cons_zero,List.set_cons_succ])
 go_cut [21] (fun v21 wc=>∃ (kq:Nat) (cT:Bool),v21=.bool cT∧Aside0 (spec_l4Near.j0 kq a1 bK cT aD aJ aC=some r)∧Aside0 (kq≤k)∧Aside0 (Kd.R (Kd.int .i64) 3 wc w.heap.size (fun _=>True) v307 bK)∧Aside0 (wc.heap[bX]?=some (.cells #[.int .i64 aD,.int .i64 aJ,(.slice bM aC.length bL)] 26 (0,0)))∧Aside0 (Below w.heap.size w wc))
 case first =>
  have H:=fR.out;clear fR
  by_cases c7:a1≥aD
  ·rw[if_pos c7] at H;have aV:decide (aD≤a1)=true:=decide_eq_true c7;clear c7;(first|rw[aV]|(simp only[i64_w,i32_w];rw[aV])|skip);obtain⟨cR,dH⟩:∃ j_:Int,(wrap64 (a1-aD))=j_:=⟨_,rfl⟩
   replace H:(if 0≤(cR) then(if (cR)<(aC.length:Int) then(spec_l4Near.j0 k a1 bK ((rd aC (cR)) != 2) aD aJ aC) else(none)) else(none))=some r:=by first|(rw[dH] at H;exact H)|(simp only[dH] at H ⊢;exact H)
   have hQ:(IntKind.i64.wrap (a1-aD))=cR:=(i64_w _).trans dH;obtain⟨cZ,H⟩:=zifD H;obtain⟨cD,H⟩:=zifD H;have H':=zA H;clear H;obtain⟨bJ,bI,bH,bD,bC,bB⟩:=ze3 aA;have cY:=zT (0≤((cR):Int));have cX:=zT ((cR)<(aC.length:Int));obtain⟨hX,gJ,aQ⟩:=Kd.at_int aT.out (cR) zd zd;cases gJ;replace aQ:=zC HB aQ;go_wp2
   repeat (go_quiet (fail);try go_wp2)
   go_meet
   case rel=>exact⟨_,(((rd aC (cR)) != 2)),(by first|rfl|(simp;done)|(simp only[←dH] <;> (first|rfl|simp))|(simp[*];done)),H',⟨by first|omega|exact Nat.le_refl _⟩,⟨zR dN⟩,⟨zk aA⟩,⟨zb⟩⟩
  ·rw[if_neg c7] at H;have aV:decide (aD≤a1)=false:=decide_eq_false c7;clear c7;(first|rw[aV]|(simp only[i64_w,i32_w];rw[aV])|skip);have H':=zA H;clear H;obtain⟨bG,bF,bE,bA,aZ,aY⟩:=ze3 aA;go_wp2
   repeat (go_quiet (fail);try go_wp2)
   go_meet
   case rel=>exact⟨_,(false),zr,H',⟨by first|omega|exact Nat.le_refl _⟩,⟨zR dN⟩,⟨zk aA⟩,⟨zb⟩⟩
 case rest =>
  clear fR;(try clear c7);(try clear aV);(try clear c9);(try clear cZ);(try clear c10);(try clear cD);(try clear bJ);(try clear bI);(try clear bH);(try clear bG);(try clear bF);(try clear bE);(try clear bD);(try clear bC);(try clear bB);(try clear bA);(try clear aZ);(try clear aY);(try clear aQ);(try clear cY);(try clear cX);obtain⟨kq,cT,rfl,HA,HJ2,aE,aA,HB⟩:=hcut;cases kq with
  |zero=>exact absurd HA.out (by simp[spec_l4Near.j0])
  |succ kj2 =>
   have H:=HA.out;clear HA;simp only[spec_l4Near.j0] at H;have dW:=zA H;clear H
   go_upto_if 21 with (fail)
   repeat (go_quiet (fail);go_upto_if 21 with (fail))
   go_cut [5] (fun v5 wc=>∃ (kq:Nat) (aR:List Int),Aside0 (spec_l4Near.j1 kq a1 aR aD aJ aC=some r)∧Aside0 (kq≤kj2)∧Aside0 (Kd.R (Kd.int .i64) 3 wc w.heap.size (fun _=>True) v5 aR)∧Aside0 (wc.heap[bX]?=some (.cells #[.int .i64 aD,.int .i64 aJ,(.slice bM aC.length bL)] 26 (0,0)))∧Aside0 (Below w.heap.size w wc))
   case first =>
    have H:=dW.out;clear dW
    by_cases cS:cT=true
    ·subst cS;rw[if_pos rfl] at H;obtain⟨eG,H⟩:=zifA H;obtain⟨fQ,dF⟩:∃ y_:List Int,y_=(bK++[wrap64 (a1-aD)]):=⟨_,rfl⟩
     replace H:(spec_l4Near.j1 kj2 a1 fQ aD aJ aC)=some r:=zY dF H
     have Ny310:=zA dF;clear dF;have H':=zA H;clear H;obtain⟨bW,bV,bU,bT,bS,bR⟩:=ze3 aA
     go_wp2_with (first|((with_reducible refine gate_builtin (b:=.append) (xs:=#[.tmp 22,.tmp 27]) rfl ?_);at_builtin;refine Kd.R_append (Kd.int .i64) (w0:=w) w.heap.size rfl (.tmp 22) (.tmp 27) 24 3 (.int .i64 0) 8 rfl Tryd.underlying24 info3 rfl (by decide) (by omega) v307 bK (wrap64 (a1-aD)) [.int .i64 (wrap64 (a1-aD))] (fun _=>True) (fun _=>False) rfl rfl ?aP (fun _ hk=>hk.elim) ?aF ?aO ?aB ?aS ?aL ?_;(case aP=>exact rfl);(case aB=>exact zb);(case aF=>exact(fun _ _=>trivial));(case aO=>exact(zR aE));(case aS=>exact(below_size zb));(case aL=>have:=eG.out;omega);intro v311 hL ho hb hg hat;rw[←Ny310.out] at ho;replace aA:=zgr aA hg (Kd.R_ne aE.out aA.out (by decide));replace HB:=zA hb;have eK:=zA ho;clear aE;clear ho hb hg hat))
     repeat (go_quiet (fail);try go_wp2_with (first|((with_reducible refine gate_builtin (b:=.append) (xs:=#[.tmp 22,.tmp 27]) rfl ?_);at_builtin;refine Kd.R_append (Kd.int .i64) (w0:=w) w.heap.size rfl (.tmp 22) (.tmp 27) 24 3 (.int .i64 0) 8 rfl Tryd.underlying24 info3 rfl (by decide) (by omega) v307 bK (wrap64 (a1-aD)) [.int .i64 (wrap64 (a1-aD))] (fun _=>True) (fun _=>False) rfl rfl ?aP (fun _ hk=>hk.elim) ?aF ?aO ?aB ?aS ?aL ?_;(case aP=>exact rfl);(case aB=>exact zb);(case aF=>exact(fun _ _=>trivial));(case aO=>exact(zR aE));(case aS=>exact(below_size zb));(case aL=>have:=eG.out;omega);intro v311 hL ho hb hg hat;rw[←Ny310.out] at ho;replace aA:=zgr aA hg (Kd.R_ne aE.out aA.out (by decide));replace HB:=zA hb;have eK:=zA ho;clear aE;clear ho hb hg hat)))
     go_meet
     case rel=>exact⟨_,(fQ),H',⟨by have:=HJ2.out;first|omega|exact Nat.le_refl _⟩,⟨zR eK⟩,⟨zk aA⟩,⟨zb⟩⟩
    ·replace cS:=Bool.eq_false_iff.mpr cS;subst cS;rw[if_neg zNo] at H;have H':=zA H;clear H;go_wp2
     repeat (go_quiet (fail);try go_wp2)
     go_meet
     case rel=>exact⟨_,(bK),H',⟨by have:=HJ2.out;first|omega|exact Nat.le_refl _⟩,⟨zR aE⟩,⟨zk aA⟩,⟨zb⟩⟩
   case rest =>
    clear dW;(try clear c7);(try clear aV);(try clear c9);(try clear cZ);(try clear c10);(try clear cD);(try clear cS);(try clear c15);(try clear bJ);(try clear bI);(try clear bH);(try clear bG);(try clear bF);(try clear bE);(try clear bW);(try clear bV);(try clear bU);(try clear bD);(try clear bC);(try clear bB);(try clear bA);(try clear aZ);(try clear aY);(try clear bT);(try clear bS);(try clear bR);(try clear aQ);(try clear cY);(try clear cX);obtain⟨kq,aR,HA,HJ12,aE,aA,HB⟩:=hcut;cases kq with
    |zero=>exact absurd HA.out (by simp[spec_l4Near.j1])
    |succ kj12 =>
     have H:=HA.out;clear HA;simp only[spec_l4Near.j1] at H;have dV:=zA H;clear H
     go_upto_region 4 with (fail)
     repeat (go_quiet (fail);go_upto_region 4 with (fail))
     go_cut [42] (fun v42 wc=>∃ (kq:Nat) (cB:Bool),v42=.bool cB∧Aside0 (spec_l4Near.j2 kq a1 aR cB aD aJ aC=some r)∧Aside0 (kq≤kj12)∧Aside0 (Kd.R (Kd.int .i64) 3 wc w.heap.size (fun _=>True) u5 aR)∧Aside0 (wc.heap[bX]?=some (.cells #[.int .i64 aD,.int .i64 aJ,(.slice bM aC.length bL)] 26 (0,0)))∧Aside0 (Below w.heap.size w wc))
     case first =>
      have H:=dV.out;clear dV
      by_cases c19:aD=0
      ·rw[if_pos c19] at H;exact absurd H (by simp)
      ·rw[if_neg c19] at H;have cC:(aD==0)=false:=beq_eq_false_iff_ne.mpr c19;have dL:(aD != 0)=true:=bne_iff_ne.mpr c19;(first|rw[cC]|(simp only[i64_w,i32_w];rw[cC])|skip)
       by_cases c20:(Int.tmod a1 aD)>0
       ·rw[if_pos c20] at H;have cW:decide (0<(Int.tmod a1 aD))=true:=decide_eq_true c20;clear c20;obtain⟨bO,cV⟩:∃ j_:Int,(wrap64 (a1-1))=j_:=⟨_,rfl⟩
        replace H:(if 0≤(bO) then(if (bO)<(aC.length:Int) then(spec_l4Near.j2 kj12 a1 aR ((rd aC (bO)) != 2) aD aJ aC) else(none)) else(none))=some r:=by first|(rw[cV] at H;exact H)|(simp only[cV] at H ⊢;exact H)
        have hP:(IntKind.i64.wrap (a1-1))=bO:=(i64_w _).trans cV;obtain⟨dK,H⟩:=zifD H;obtain⟨dJ,H⟩:=zifD H;have H':=zA H;clear H;obtain⟨cQ,cP,cO,cK,cJ,cI⟩:=ze3 aA;have dR:=zT (0≤((bO):Int));have dP:=zT ((bO)<(aC.length:Int));obtain⟨hW,gI,aX⟩:=Kd.at_int aT.out (bO) zd zd;cases gI;replace aX:=zC HB aX;go_wp2
        repeat (go_quiet (fail);try go_wp2)
        go_meet
        case rel=>exact⟨_,(((rd aC (bO)) != 2)),(by first|rfl|(simp;done)|(simp only[←cV] <;> (first|rfl|simp))|(simp[*];done)),H',⟨by have:=HJ2.out;have:=HJ12.out;first|omega|exact Nat.le_refl _⟩,⟨zR aE⟩,⟨zk aA⟩,⟨zb⟩⟩
       ·rw[if_neg c20] at H;have cW:decide (0<(Int.tmod a1 aD))=false:=decide_eq_false c20;clear c20;have H':=zA H;clear H;obtain⟨cN,cM,cL,cH,cG,cF⟩:=ze3 aA;go_wp2
        repeat (go_quiet (fail);try go_wp2)
        go_meet
        case rel=>exact⟨_,(false),zr,H',⟨by have:=HJ2.out;have:=HJ12.out;first|omega|exact Nat.le_refl _⟩,⟨zR aE⟩,⟨zk aA⟩,⟨zb⟩⟩
     case rest =>
      clear dV;(try clear c7);(try clear aV);(try clear c9);(try clear cZ);(try clear c10);(try clear cD);(try clear cS);(try clear c15);(try clear c19);(try clear cC);(try clear dL);(try clear c20);(try clear cW);(try clear c22);(try clear dK);(try clear c23);(try clear dJ);(try clear bJ);(try clear bI);(try clear bH);(try clear bG);(try clear bF);(try clear bE);(try clear bW);(try clear bV);(try clear bU);(try clear cQ);(try clear cP);(try clear cO);(try clear cN);(try clear cM);(try clear cL);(try clear bD);(try clear bC);(try clear bB);(try clear bA);(try clear aZ);(try clear aY);(try clear bT);(try clear bS);(try clear bR);(try clear cK);(try clear cJ);(try clear cI);(try clear cH);(try clear cG);(try clear cF);(try clear aQ);(try clear aX);(try clear cY);(try clear dR);(try clear cX);(try clear dP);obtain⟨kq,cB,rfl,HA,HJ17,aE,aA,HB⟩:=hcut;cases kq with
      |zero=>exact absurd HA.out (by simp[spec_l4Near.j2])
      |succ kj17 =>
       have H:=HA.out;clear HA;simp only[spec_l4Near.j2] at H;have dU:=zA H;clear H
       go_upto_if 42 with (fail)
       repeat (go_quiet (fail);go_upto_if 42 with (fail))
       go_cut [5] (fun v5 wc=>∃ (kq:Nat) (aI:List Int),Aside0 (spec_l4Near.j3 kq a1 aI aD aJ aC=some r)∧Aside0 (kq≤kj17)∧Aside0 (Kd.R (Kd.int .i64) 3 wc w.heap.size (fun _=>True) v5 aI)∧Aside0 (wc.heap[bX]?=some (.cells #[.int .i64 aD,.int .i64 aJ,(.slice bM aC.length bL)] 26 (0,0)))∧Aside0 (Below w.heap.size w wc))
       case first =>
        have H:=dU.out;clear dU
        by_cases dA:cB=true
        ·subst dA;rw[if_pos rfl] at H;obtain⟨eF,H⟩:=zifA H;obtain⟨fP,dE⟩:∃ y_:List Int,y_=(aR++[wrap64 (a1-1)]):=⟨_,rfl⟩
         replace H:(spec_l4Near.j3 kj17 a1 fP aD aJ aC)=some r:=zY dE H
         have Ny314:=zA dE;clear dE;have H':=zA H;clear H
         go_wp2_with (first|((with_reducible refine gate_builtin (b:=.append) (xs:=#[.tmp 43,.tmp 46]) rfl ?_);at_builtin;refine Kd.R_append (Kd.int .i64) (w0:=w) w.heap.size rfl (.tmp 43) (.tmp 46) 24 3 (.int .i64 0) 8 rfl Tryd.underlying24 info3 rfl (by decide) (by omega) u5 aR (wrap64 (a1-1)) [.int .i64 (wrap64 (a1-1))] (fun _=>True) (fun _=>False) rfl rfl ?aP (fun _ hk=>hk.elim) ?aF ?aO ?aB ?aS ?aL ?_;(case aP=>exact rfl);(case aB=>exact zb);(case aF=>exact(fun _ _=>trivial));(case aO=>exact(zR aE));(case aS=>exact(below_size zb));(case aL=>have:=eF.out;omega);intro v315 hJ ho hb hg hat;rw[←Ny314.out] at ho;replace aA:=zgr aA hg (Kd.R_ne aE.out aA.out (by decide));replace HB:=zA hb;have eJ:=zA ho;clear aE;clear ho hb hg hat))
         repeat (go_quiet (fail);try go_wp2_with (first|((with_reducible refine gate_builtin (b:=.append) (xs:=#[.tmp 43,.tmp 46]) rfl ?_);at_builtin;refine Kd.R_append (Kd.int .i64) (w0:=w) w.heap.size rfl (.tmp 43) (.tmp 46) 24 3 (.int .i64 0) 8 rfl Tryd.underlying24 info3 rfl (by decide) (by omega) u5 aR (wrap64 (a1-1)) [.int .i64 (wrap64 (a1-1))] (fun _=>True) (fun _=>False) rfl rfl ?aP (fun _ hk=>hk.elim) ?aF ?aO ?aB ?aS ?aL ?_;(case aP=>exact rfl);(case aB=>exact zb);(case aF=>exact(fun _ _=>trivial));(case aO=>exact(zR aE));(case aS=>exact(below_size zb));(case aL=>have:=eF.out;omega);intro v315 hJ ho hb hg hat;rw[←Ny314.out] at ho;replace aA:=zgr aA hg (Kd.R_ne aE.out aA.out (by decide));replace HB:=zA hb;have eJ:=zA ho;clear aE;clear ho hb hg hat)))
         go_meet
         case rel=>exact⟨_,(fP),H',⟨by have:=HJ2.out;have:=HJ12.out;have:=HJ17.out;first|omega|exact Nat.le_refl _⟩,⟨zR eJ⟩,⟨zk aA⟩,⟨zb⟩⟩
        ·replace dA:=Bool.eq_false_iff.mpr dA;subst dA;rw[if_neg zNo] at H;have H':=zA H;clear H;go_wp2
         repeat (go_quiet (fail);try go_wp2)
         go_meet
         case rel=>exact⟨_,(aR),H',⟨by have:=HJ2.out;have:=HJ12.out;have:=HJ17.out;first|omega|exact Nat.le_refl _⟩,⟨zR aE⟩,⟨zk aA⟩,⟨zb⟩⟩
       case rest =>
        clear dU;(try clear c7);(try clear aV);(try clear c9);(try clear cZ);(try clear c10);(try clear cD);(try clear cS);(try clear c15);(try clear c19);(try clear cC);(try clear dL);(try clear c20);(try clear cW);(try clear c22);(try clear dK);(try clear c23);(try clear dJ);(try clear dA);(try clear c28);(try clear bJ);(try clear bI);(try clear bH);(try clear bG);(try clear bF);(try clear bE);(try clear bW);(try clear bV);(try clear bU);(try clear cQ);(try clear cP);(try clear cO);(try clear cN);(try clear cM);(try clear cL);(try clear bD);(try clear bC);(try clear bB);(try clear bA);(try clear aZ);(try clear aY);(try clear bT);(try clear bS);(try clear bR);(try clear cK);(try clear cJ);(try clear cI);(try clear cH);(try clear cG);(try clear cF);(try clear aQ);(try clear aX);(try clear cY);(try clear dR);(try clear cX);(try clear dP);obtain⟨kq,aI,HA,HJ25,aE,aA,HB⟩:=hcut;cases kq with
        |zero=>exact absurd HA.out (by simp[spec_l4Near.j3])
        |succ kj25 =>
         have H:=HA.out;clear HA;simp only[spec_l4Near.j3] at H;have dT:=zA H;clear H
         go_upto_region 6 with (fail)
         repeat (go_quiet (fail);go_upto_region 6 with (fail))
         go_cut [64] (fun v64 wc=>∃ (kq:Nat) (cA:Bool),v64=.bool cA∧Aside0 (spec_l4Near.j4 kq a1 aI cA aD aJ aC=some r)∧Aside0 (kq≤kj25)∧Aside0 (Kd.R (Kd.int .i64) 3 wc w.heap.size (fun _=>True) u5 aI)∧Aside0 (wc.heap[bX]?=some (.cells #[.int .i64 aD,.int .i64 aJ,(.slice bM aC.length bL)] 26 (0,0)))∧Aside0 (Below w.heap.size w wc))
         case first =>
          have H:=dT.out;clear dT
          by_cases c31:aD=0
          ·rw[if_pos c31] at H;exact absurd H (by simp)
          ·rw[if_neg c31] at H;have dI:(aD==0)=false:=beq_eq_false_iff_ne.mpr c31;have fY:(aD != 0)=true:=bne_iff_ne.mpr c31;(first|rw[dI]|(simp only[i64_w,i32_w];rw[dI])|skip)
           by_cases c32:(Int.tmod a1 aD)<(wrap64 (aD-1))
           ·rw[if_pos c32] at H;have eC:=decide_eq_true c32;clear c32;obtain⟨bN,cU⟩:∃ j_:Int,(wrap64 (a1+1))=j_:=⟨_,rfl⟩
            replace H:(if 0≤(bN) then(if (bN)<(aC.length:Int) then(spec_l4Near.j4 kj25 a1 aI ((rd aC (bN)) != 2) aD aJ aC) else(none)) else(none))=some r:=by first|(rw[cU] at H;exact H)|(simp only[cU] at H ⊢;exact H)
            have hO:(IntKind.i64.wrap (a1+1))=bN:=(i64_w _).trans cU;obtain⟨fX,H⟩:=zifD H;obtain⟨fW,H⟩:=zifD H;have H':=zA H;clear H;obtain⟨fO,fN,fM,eZ,eY,eX⟩:=ze3 aA;have gG:=zT (0≤((bN):Int));have gE:=zT ((bN)<(aC.length:Int));obtain⟨hV,gH,cE⟩:=Kd.at_int aT.out (bN) zd zd;cases gH;replace cE:=zC HB cE;go_wp2
            repeat (go_quiet (fail);try go_wp2)
            go_meet
            case rel=>exact⟨_,(((rd aC (bN)) != 2)),(by first|rfl|(simp;done)|(simp only[←cU] <;> (first|rfl|simp))|(simp[*];done)),H',⟨by have:=HJ2.out;have:=HJ12.out;have:=HJ17.out;have:=HJ25.out;first|omega|exact Nat.le_refl _⟩,⟨zR aE⟩,⟨zk aA⟩,⟨zb⟩⟩
           ·rw[if_neg c32] at H;have eC:=decide_eq_false c32;clear c32;have H':=zA H;clear H;obtain⟨fL,fK,fJ,eW,eV,eU⟩:=ze3 aA;go_wp2
            repeat (go_quiet (fail);try go_wp2)
            go_meet
            case rel=>exact⟨_,(false),zr,H',⟨by have:=HJ2.out;have:=HJ12.out;have:=HJ17.out;have:=HJ25.out;first|omega|exact Nat.le_refl _⟩,⟨zR aE⟩,⟨zk aA⟩,⟨zb⟩⟩
         case rest =>
          clear dT;(try clear c7);(try clear aV);(try clear c9);(try clear cZ);(try clear c10);(try clear cD);(try clear cS);(try clear c15);(try clear c19);(try clear cC);(try clear dL);(try clear c20);(try clear cW);(try clear c22);(try clear dK);(try clear c23);(try clear dJ);(try clear dA);(try clear c28);(try clear c31);(try clear dI);(try clear fY);(try clear c32);(try clear eC);(try clear c34);(try clear fX);(try clear c35);(try clear fW);(try clear bJ);(try clear bI);(try clear bH);(try clear bG);(try clear bF);(try clear bE);(try clear bW);(try clear bV);(try clear bU);(try clear cQ);(try clear cP);(try clear cO);(try clear cN);(try clear cM);(try clear cL);(try clear fO);(try clear fN);(try clear fM);(try clear fL);(try clear fK);(try clear fJ);(try clear bD);(try clear bC);(try clear bB);(try clear bA);(try clear aZ);(try clear aY);(try clear bT);(try clear bS);(try clear bR);(try clear cK);(try clear cJ);(try clear cI);(try clear cH);(try clear cG);(try clear cF);(try clear eZ);(try clear eY);(try clear eX);(try clear eW);(try clear eV);(try clear eU);(try clear aQ);(try clear aX);(try clear cE);(try clear cY);(try clear dR);(try clear gG);(try clear cX);(try clear dP);(try clear gE);obtain⟨kq,cA,rfl,HA,HJ29,aE,aA,HB⟩:=hcut;cases kq with
          |zero=>exact absurd HA.out (by simp[spec_l4Near.j4])
          |succ kj29 =>
           have H:=HA.out;clear HA;simp only[spec_l4Near.j4] at H
           by_cases eB:cA=true
           ·subst eB;rw[if_pos rfl] at H;obtain⟨bY,H⟩:=zifA H;obtain⟨aU,dD⟩:∃ y_:List Int,y_=(aI++[wrap64 (a1+1)]):=⟨_,rfl⟩
            replace H:(if (wrap64 (a1+aD))<(aC.length:Int) then(if 0≤(wrap64 (a1+aD)) then(if (rd aC (wrap64 (a1+aD)))=2 then(some aU) else(if aU.length<17592186044416 then(some (aU++[wrap64 (a1+aD)])) else(none))) else(none)) else(some aU))=some r:=zY dD H
            have Ny318:=zA dD;clear dD
            by_cases c40:(wrap64 (a1+aD))<(aC.length:Int)
            ·rw[if_pos c40] at H;have eA:=decide_eq_true c40;clear c40;obtain⟨aH,bQ⟩:∃ j_:Int,(wrap64 (a1+aD))=j_:=⟨_,rfl⟩
             replace H:(if 0≤(aH) then(if (rd aC (aH))=2 then(some aU) else(if aU.length<17592186044416 then(some (aU++[aH])) else(none))) else(none))=some r:=by first|(rw[bQ] at H;exact H)|(simp only[bQ] at H ⊢;exact H)
             (try rw[bQ] at eA);have hN:(IntKind.i64.wrap (a1+aD))=aH:=(i64_w _).trans bQ;obtain⟨hU,H⟩:=zifD H
             by_cases c43:(rd aC (aH))=2
             ·rw[if_pos c43] at H;have fV:((rd aC (aH))==2)=true:=beq_iff_eq.mpr c43;have fU:((rd aC (aH)) != 2)=false:=bne_eq_false_iff_eq.mpr c43;clear c43;obtain rfl:=zI H
              go_wp2_with (first|((with_reducible refine gate_builtin (b:=.append) (xs:=#[.tmp 65,.tmp 68]) rfl ?_);at_builtin;refine Kd.R_append (Kd.int .i64) (w0:=w) w.heap.size rfl (.tmp 65) (.tmp 68) 24 3 (.int .i64 0) 8 rfl Tryd.underlying24 info3 rfl (by decide) (by omega) u5 aI (wrap64 (a1+1)) [.int .i64 (wrap64 (a1+1))] (fun _=>True) (fun _=>False) rfl rfl ?aP (fun _ hk=>hk.elim) ?aF ?aO ?aB ?aS ?aL ?_;(case aP=>exact rfl);(case aB=>exact zb);(case aF=>exact(fun _ _=>trivial));(case aO=>exact(zR aE));(case aS=>exact(below_size zb));(case aL=>have:=bY.out;omega);intro v319 hH ho hb hg hat;rw[←Ny318.out] at ho;replace aA:=zgr aA hg (Kd.R_ne aE.out aA.out (by decide));replace HB:=zA hb;have aN:=zA ho;clear aE;clear ho hb hg hat;obtain⟨fI,fH,fG,eT,eS,eR⟩:=ze3 aA;have dQ:=zT (0≤((aH):Int));have dO:=zT ((aH)<(aC.length:Int));obtain⟨dM,bZ,aM⟩:=Kd.at_int aT.out (aH) zd zd;cases bZ;replace aM:=zC HB aM))
              repeat (go_quiet (fail);try go_wp2_with (first|((with_reducible refine gate_builtin (b:=.append) (xs:=#[.tmp 65,.tmp 68]) rfl ?_);at_builtin;refine Kd.R_append (Kd.int .i64) (w0:=w) w.heap.size rfl (.tmp 65) (.tmp 68) 24 3 (.int .i64 0) 8 rfl Tryd.underlying24 info3 rfl (by decide) (by omega) u5 aI (wrap64 (a1+1)) [.int .i64 (wrap64 (a1+1))] (fun _=>True) (fun _=>False) rfl rfl ?aP (fun _ hk=>hk.elim) ?aF ?aO ?aB ?aS ?aL ?_;(case aP=>exact rfl);(case aB=>exact zb);(case aF=>exact(fun _ _=>trivial));(case aO=>exact(zR aE));(case aS=>exact(below_size zb));(case aL=>have:=bY.out;omega);intro v319 hH ho hb hg hat;rw[←Ny318.out] at ho;replace aA:=zgr aA hg (Kd.R_ne aE.out aA.out (by decide));replace HB:=zA hb;have aN:=zA ho;clear aE;clear ho hb hg hat;obtain⟨fI,fH,fG,eT,eS,eR⟩:=ze3 aA;have dQ:=zT (0≤((aH):Int));have dO:=zT ((aH)<(aC.length:Int));obtain⟨dM,bZ,aM⟩:=Kd.at_int aT.out (aH) zd zd;cases bZ;replace aM:=zC HB aM)))
              go_ret;exact⟨_,by first|rfl|(simp[errW_none,errW_some] <;> rfl)|(simp only[←bQ];first|rfl|(simp[errW_none,errW_some] <;> rfl))|(simp[*,errW_none,errW_some] <;> rfl),zR aN,zb⟩
             ·rw[if_neg c43] at H;have fV:((rd aC (aH))==2)=false:=beq_eq_false_iff_ne.mpr c43;have fU:((rd aC (aH)) != 2)=true:=bne_iff_ne.mpr c43;obtain⟨eE,H⟩:=zifA H;obtain⟨gC,dC⟩:∃ y_:List Int,y_=(aU++[aH]):=⟨_,rfl⟩
              replace H:(some gC)=some r:=zY dC H
              have Ny322:=zA dC;clear dC;obtain rfl:=zI H
              go_wp2_with (first|((with_reducible refine gate_builtin (b:=.append) (xs:=#[.tmp 65,.tmp 68]) rfl ?_);at_builtin;refine Kd.R_append (Kd.int .i64) (w0:=w) w.heap.size rfl (.tmp 65) (.tmp 68) 24 3 (.int .i64 0) 8 rfl Tryd.underlying24 info3 rfl (by decide) (by omega) u5 aI (wrap64 (a1+1)) [.int .i64 (wrap64 (a1+1))] (fun _=>True) (fun _=>False) rfl rfl ?aP (fun _ hk=>hk.elim) ?aF ?aO ?aB ?aS ?aL ?_;(case aP=>exact rfl);(case aB=>exact zb);(case aF=>exact(fun _ _=>trivial));(case aO=>exact(zR aE));(case aS=>exact(below_size zb));(case aL=>have:=bY.out;omega);intro v319 hG ho hb hg hat;rw[←Ny318.out] at ho;replace aA:=zgr aA hg (Kd.R_ne aE.out aA.out (by decide));replace HB:=zA hb;have aN:=zA ho;clear aE;clear ho hb hg hat;obtain⟨fF,fE,fD,eQ,eP,eO⟩:=ze3 aA;have dQ:=zT (0≤((aH):Int));have dO:=zT ((aH)<(aC.length:Int));obtain⟨dM,bZ,aM⟩:=Kd.at_int aT.out (aH) zd zd;cases bZ;replace aM:=zC HB aM)|((with_reducible refine gate_builtin (b:=.append) (xs:=#[.tmp 89,.tmp 94]) rfl ?_);at_builtin;refine Kd.R_append (Kd.int .i64) (w0:=w) w.heap.size rfl (.tmp 89) (.tmp 94) 24 3 (.int .i64 0) 8 rfl Tryd.underlying24 info3 rfl (by decide) (by omega) v319 aU aH [.int .i64 aH] (fun _=>True) (fun _=>False) rfl rfl ?aP (fun _ hk=>hk.elim) ?aF ?aO ?aB ?aS ?aL ?_;(case aP=>exact rfl);(case aB=>exact zb);(case aF=>exact(fun _ _=>trivial));(case aO=>exact(zR aN));(case aS=>exact(below_size zb));(case aL=>have:=eE.out;omega);intro v323 hF ho hb hg hat;rw[←Ny322.out] at ho;replace aA:=zgr aA hg (Kd.R_ne aN.out aA.out (by decide));replace HB:=zA hb;have eI:=zA ho;clear aN;clear ho hb hg hat))
              repeat (go_quiet (fail);try go_wp2_with (first|((with_reducible refine gate_builtin (b:=.append) (xs:=#[.tmp 65,.tmp 68]) rfl ?_);at_builtin;refine Kd.R_append (Kd.int .i64) (w0:=w) w.heap.size rfl (.tmp 65) (.tmp 68) 24 3 (.int .i64 0) 8 rfl Tryd.underlying24 info3 rfl (by decide) (by omega) u5 aI (wrap64 (a1+1)) [.int .i64 (wrap64 (a1+1))] (fun _=>True) (fun _=>False) rfl rfl ?aP (fun _ hk=>hk.elim) ?aF ?aO ?aB ?aS ?aL ?_;(case aP=>exact rfl);(case aB=>exact zb);(case aF=>exact(fun _ _=>trivial));(case aO=>exact(zR aE));(case aS=>exact(below_size zb));(case aL=>have:=bY.out;omega);intro v319 hG ho hb hg hat;rw[←Ny318.out] at ho;replace aA:=zgr aA hg (Kd.R_ne aE.out aA.out (by decide));replace HB:=zA hb;have aN:=zA ho;clear aE;clear ho hb hg hat;obtain⟨fF,fE,fD,eQ,eP,eO⟩:=ze3 aA;have dQ:=zT (0≤((aH):Int));have dO:=zT ((aH)<(aC.length:Int));obtain⟨dM,bZ,aM⟩:=Kd.at_int aT.out (aH) zd zd;cases bZ;replace aM:=zC HB aM)|((with_reducible refine gate_builtin (b:=.append) (xs:=#[.tmp 89,.tmp 94]) rfl ?_);at_builtin;refine Kd.R_append (Kd.int .i64) (w0:=w) w.heap.size rfl (.tmp 89) (.tmp 94) 24 3 (.int .i64 0) 8 rfl Tryd.underlying24 info3 rfl (by decide) (by omega) v319 aU aH [.int .i64 aH] (fun _=>True) (fun _=>False) rfl rfl ?aP (fun _ hk=>hk.elim) ?aF ?aO ?aB ?aS ?aL ?_;(case aP=>exact rfl);(case aB=>exact zb);(case aF=>exact(fun _ _=>trivial));(case aO=>exact(zR aN));(case aS=>exact(below_size zb));(case aL=>have:=eE.out;omega);intro v323 hF ho hb hg hat;rw[←Ny322.out] at ho;replace aA:=zgr aA hg (Kd.R_ne aN.out aA.out (by decide));replace HB:=zA hb;have eI:=zA ho;clear aN;clear ho hb hg hat)))
              go_ret;exact⟨_,by first|rfl|(simp[errW_none,errW_some] <;> rfl)|(simp only[←bQ];first|rfl|(simp[errW_none,errW_some] <;> rfl))|(simp[*,errW_none,errW_some] <;> rfl),zR eI,zb⟩
            ·rw[if_neg c40] at H;have eA:=decide_eq_false c40;clear c40;obtain rfl:=zI H
             go_wp2_with (first|((with_reducible refine gate_builtin (b:=.append) (xs:=#[.tmp 65,.tmp 68]) rfl ?_);at_builtin;refine Kd.R_append (Kd.int .i64) (w0:=w) w.heap.size rfl (.tmp 65) (.tmp 68) 24 3 (.int .i64 0) 8 rfl Tryd.underlying24 info3 rfl (by decide) (by omega) u5 aI (wrap64 (a1+1)) [.int .i64 (wrap64 (a1+1))] (fun _=>True) (fun _=>False) rfl rfl ?aP (fun _ hk=>hk.elim) ?aF ?aO ?aB ?aS ?aL ?_;(case aP=>exact rfl);(case aB=>exact zb);(case aF=>exact(fun _ _=>trivial));(case aO=>exact(zR aE));(case aS=>exact(below_size zb));(case aL=>have:=bY.out;omega);intro v319 hE ho hb hg hat;rw[←Ny318.out] at ho;replace aA:=zgr aA hg (Kd.R_ne aE.out aA.out (by decide));replace HB:=zA hb;have aN:=zA ho;clear aE;clear ho hb hg hat;obtain⟨fC,fB,fA,eN,eM,eL⟩:=ze3 aA))
             repeat (go_quiet (fail);try go_wp2_with (first|((with_reducible refine gate_builtin (b:=.append) (xs:=#[.tmp 65,.tmp 68]) rfl ?_);at_builtin;refine Kd.R_append (Kd.int .i64) (w0:=w) w.heap.size rfl (.tmp 65) (.tmp 68) 24 3 (.int .i64 0) 8 rfl Tryd.underlying24 info3 rfl (by decide) (by omega) u5 aI (wrap64 (a1+1)) [.int .i64 (wrap64 (a1+1))] (fun _=>True) (fun _=>False) rfl rfl ?aP (fun _ hk=>hk.elim) ?aF ?aO ?aB ?aS ?aL ?_;(case aP=>exact rfl);(case aB=>exact zb);(case aF=>exact(fun _ _=>trivial));(case aO=>exact(zR aE));(case aS=>exact(below_size zb));(case aL=>have:=bY.out;omega);intro v319 hE ho hb hg hat;rw[←Ny318.out] at ho;replace aA:=zgr aA hg (Kd.R_ne aE.out aA.out (by decide));replace HB:=zA hb;have aN:=zA ho;clear aE;clear ho hb hg hat;obtain⟨fC,fB,fA,eN,eM,eL⟩:=ze3 aA)))
             go_ret;exact⟨_,zE,zR aN,zb⟩
           ·replace eB:=Bool.eq_false_iff.mpr eB;subst eB;rw[if_neg zNo] at H
            by_cases c52:(wrap64 (a1+aD))<(aC.length:Int)
            ·rw[if_pos c52] at H;have dZ:=decide_eq_true c52;clear c52;obtain⟨aK,bP⟩:∃ j_:Int,(wrap64 (a1+aD))=j_:=⟨_,rfl⟩
             replace H:(if 0≤(aK) then(if (rd aC (aK))=2 then(some aI) else(if aI.length<17592186044416 then(some (aI++[aK])) else(none))) else(none))=some r:=by first|(rw[bP] at H;exact H)|(simp only[bP] at H ⊢;exact H)
             (try rw[bP] at dZ);have hM:(IntKind.i64.wrap (a1+aD))=aK:=(i64_w _).trans bP;obtain⟨hS,H⟩:=zifD H
             by_cases c55:(rd aC (aK))=2
             ·rw[if_pos c55] at H;have fT:((rd aC (aK))==2)=true:=beq_iff_eq.mpr c55;have fS:((rd aC (aK)) != 2)=false:=bne_eq_false_iff_eq.mpr c55;clear c55;obtain rfl:=zI H;obtain⟨hC,hA,gZ,gS,gR,gQ⟩:=ze3 aA;have gF:=zT (0≤((aK):Int));have gD:=zT ((aK)<(aC.length:Int));obtain⟨fZ,dS,aW⟩:=Kd.at_int aT.out (aK) zd zd;cases dS;replace aW:=zC HB aW;go_wp2
              repeat (go_quiet (fail);try go_wp2)
              go_ret;exact⟨_,by first|rfl|(simp[errW_none,errW_some] <;> rfl)|(simp only[←bP];first|rfl|(simp[errW_none,errW_some] <;> rfl))|(simp[*,errW_none,errW_some] <;> rfl),zR aE,zb⟩
             ·rw[if_neg c55] at H;have fT:((rd aC (aK))==2)=false:=beq_eq_false_iff_ne.mpr c55;have fS:((rd aC (aK)) != 2)=true:=bne_iff_ne.mpr c55;obtain⟨eD,H⟩:=zifA H;obtain⟨gB,dB⟩:∃ y_:List Int,y_=(aI++[aK]):=⟨_,rfl⟩
              replace H:(some gB)=some r:=zY dB H
              have Ny326:=zA dB;clear dB;obtain rfl:=zI H;obtain⟨gY,gX,gW,gP,gO,gN⟩:=ze3 aA;have gF:=zT (0≤((aK):Int));have gD:=zT ((aK)<(aC.length:Int));obtain⟨fZ,dS,aW⟩:=Kd.at_int aT.out (aK) zd zd;cases dS;replace aW:=zC HB aW
              go_wp2_with (first|((with_reducible refine gate_builtin (b:=.append) (xs:=#[.tmp 89,.tmp 94]) rfl ?_);at_builtin;refine Kd.R_append (Kd.int .i64) (w0:=w) w.heap.size rfl (.tmp 89) (.tmp 94) 24 3 (.int .i64 0) 8 rfl Tryd.underlying24 info3 rfl (by decide) (by omega) u5 aI aK [.int .i64 aK] (fun _=>True) (fun _=>False) rfl rfl ?aP (fun _ hk=>hk.elim) ?aF ?aO ?aB ?aS ?aL ?_;(case aP=>exact rfl);(case aB=>exact zb);(case aF=>exact(fun _ _=>trivial));(case aO=>exact(zR aE));(case aS=>exact(below_size zb));(case aL=>have:=eD.out;omega);intro v327 hD ho hb hg hat;rw[←Ny326.out] at ho;replace aA:=zgr aA hg (Kd.R_ne aE.out aA.out (by decide));replace HB:=zA hb;have eH:=zA ho;clear aE;clear ho hb hg hat))
              repeat (go_quiet (fail);try go_wp2_with (first|((with_reducible refine gate_builtin (b:=.append) (xs:=#[.tmp 89,.tmp 94]) rfl ?_);at_builtin;refine Kd.R_append (Kd.int .i64) (w0:=w) w.heap.size rfl (.tmp 89) (.tmp 94) 24 3 (.int .i64 0) 8 rfl Tryd.underlying24 info3 rfl (by decide) (by omega) u5 aI aK [.int .i64 aK] (fun _=>True) (fun _=>False) rfl rfl ?aP (fun _ hk=>hk.elim) ?aF ?aO ?aB ?aS ?aL ?_;(case aP=>exact rfl);(case aB=>exact zb);(case aF=>exact(fun _ _=>trivial));(case aO=>exact(zR aE));(case aS=>exact(below_size zb));(case aL=>have:=eD.out;omega);intro v327 hD ho hb hg hat;rw[←Ny326.out] at ho;replace aA:=zgr aA hg (Kd.R_ne aE.out aA.out (by decide));replace HB:=zA hb;have eH:=zA ho;clear aE;clear ho hb hg hat)))
              go_ret;exact⟨_,by first|rfl|(simp[errW_none,errW_some] <;> rfl)|(simp only[←bP];first|rfl|(simp[errW_none,errW_some] <;> rfl))|(simp[*,errW_none,errW_some] <;> rfl),zR eH,zb⟩
            ·rw[if_neg c52] at H;have dZ:=decide_eq_false c52;clear c52;obtain rfl:=zI H;obtain⟨gV,gU,gT,gM,gL,gK⟩:=ze3 aA;go_wp2
             repeat (go_quiet (fail);try go_wp2)
             go_ret;exact⟨_,zE,zR aE,zb⟩

mutual
def spec_l5From.l0:Nat→Int→List Int→Int→Int→Int→List Int→Option (List Int)
  |0,_,_,_,_,_,_=>none
  |k+1,x1,x5,x6,x140000,x140001,x140002=>if x6<(x140002.length:Int) then(if x5.length<17592186044416 then(spec_l5From.l0 k x1 (x5++[(-1)]) (wrap64 (x6+1)) x140000 x140001 x140002) else(none)) else(if 0≤x1 then(if x1<(x5.length:Int) then(spec_l5From.l1 k (x5.set (x1:Int).toNat 0) (([x1]:List Int)) 0 x140000 x140001 x140002) else(none)) else(none))
def spec_l5From.l1:Nat→List Int→List Int→Int→Int→Int→List Int→Option (List Int)
  |0,_,_,_,_,_,_=>none
  |k+1,x5,x7,x8,x140000,x140001,x140002=>if x8<(x7.length:Int) then(if 0≤x8 then((spec_l4Near.f k x140000 x140001 x140002 (rd x7 x8)).bind fun t151=>(spec_l5From.l2 k x5 x7 x8 t151 0 x140000 x140001 x140002)) else(none)) else(some x5)
def spec_l5From.l2:Nat→List Int→List Int→Int→List Int→Int→Int→Int→List Int→Option (List Int)
  |0,_,_,_,_,_,_,_,_=>none
  |k+1,x5,x7,x8,x9,x10,x140000,x140001,x140002=>if x10<(x9.length:Int) then(if 0≤x10 then(if 0≤(rd x9 x10) then(if (rd x9 x10)<(x5.length:Int) then(if (rd x5 (rd x9 x10))<0 then(if 0≤x8 then(if x8<(x7.length:Int) then(if 0≤(rd x7 x8) then(if (rd x7 x8)<(x5.length:Int) then(if x7.length<17592186044416 then(spec_l5From.l2 k (x5.set ((rd x9 x10):Int).toNat (wrap64 ((rd x5 (rd x7 x8))+1))) (x7++[rd x9 x10]) x8 x9 (wrap64 (x10+1)) x140000 x140001 x140002) else(none)) else(none)) else(none)) else(none)) else(none)) else(spec_l5From.l2 k x5 x7 x8 x9 (wrap64 (x10+1)) x140000 x140001 x140002)) else(none)) else(none)) else(none)) else(spec_l5From.l1 k x5 x7 (wrap64 (x8+1)) x140000 x140001 x140002)
end
def spec_l5From.f (k:Nat) (a0_0:Int) (a0_1:Int) (l0_2:List Int) (a1:Int):Option (List Int):=spec_l5From.l0 k a1 (([]:List Int)) 0 a0_0 a0_1 l0_2
def spec_l5From.T16:Bool × List (List Nat × List Nat):=(true,[([],[]),([],[]),([],[]),([1,2],[1,2]),([3],[3]),([],[]),([],[]),([],[]),([6,7],[6,7]),([8],[8]),([5,9],[5,9]),([10],[10]),([11],[11]),([0,4,0,1,2,3,4,5,6,7,8,9,10,11,12],[0,4]),([13,12,0,1,2,3,4,5,6,7,8,9,10,11,12],[12,13])])
def spec_l5From.B16:List Nat:=[0,0,0,6,14,0,0,0,192,448,992,2016,4064,8191,16383]
theorem spec_l5From.tab16:rtab .any (opsOf Tryd.f58 16)=spec_l5From.T16:=by kernel_rfl
theorem spec_l5From.bits16:waitsOk spec_l5From.T16.2 spec_l5From.B16=true:=by kernel_rfl
theorem spec_l5From.calls (k:Nat) (aK:Int) (aJ:Int) (aY:Option Addr) (aX:Nat) (aH:List Int) (a1:Int) (r:List Int) (w:World) (bN:Kd.C (Kd.int .i64) w aY aH.length aH) (bO:aH.length≤aX) (h:spec_l5From.f k aK aJ aH a1=some r) :
  Calls Tryd.prog 58 #[.agg #[.int .i64 aK,.int .i64 aJ,.slice aY aH.length aX],.int .i64 a1] w fun e w'=>∃ v0_:Value,e=.returned (v0_)∧Kd.R (Kd.int .i64) 3 w' w.heap.size (fun _=>True) v0_ r∧Below w.heap.size w w':=by
 have hu36:=Tryd.underlying26
 have HR0_2:=zA bN
 have HC0_2:=zA bO
 clear bN bO
 have HB:=zA (Below.refl w.heap.size w)
 have H:(spec_l5From.l0 k a1 (([]:List Int)) 0 aK aJ aH)=some r:=h
 clear h
 obtain⟨y140,hy140⟩:∃ y_:List Int,y_=(([]:List Int)):=⟨_,rfl⟩
 replace H:(spec_l5From.l0 k a1 y140 0 aK aJ aH)=some r:=zY hy140 H
 have Ny140:=zA hy140
 clear hy140
 have H':=zA H
 clear H
 go_enter Tryd.func58,Tryd.ntmps58
 go_wp2_with (first|((with_reducible refine zgd 2 rfl ?_);refine box_event ?hg (N:=2) ?hd (cs:=#[.int .i64 aK,.int .i64 aJ,.slice aY aH.length aX]) (t:=26) ?hr ?_;(case hd=>rfl);(case hg=>rfl);(case hr=>first|(go_simp;done)|(go_simp;rfl));intro aQ hg w3 hbox hb;have aV:=zA (below_step (by repeat (first|(with_reducible first|exact HB.out|apply below_alloc|apply pw_below_drewN|apply below_drew1)|exact HB.out)) hb);have aU:=zA hbox;have aT:=zA ((by rw[hg];exact(below_size (by repeat (first|(with_reducible first|exact HB.out|apply below_alloc|apply pw_below_drewN|apply below_drew1)|exact HB.out))):w.heap.size≤aQ));have bA:=zA ((by rw[hg];exact(below_size (by repeat (first|(with_reducible first|exact HB.out|apply below_alloc|apply pw_below_drewN|apply below_drew1)|exact HB.out))):w.heap.size≤aQ));clear HB;have HB:=aV;have aA:=aU;have bY:=aT;have aR:=bA;clear aV aU aT bA;clear hb hbox hg)|((with_reducible refine zgd 11 rfl ?_);refine Kd.R_lit (Kd.int .i64) _ 3 ?hg (N:=11) ?hd (xs:=([]:List Int)) (inner:=[]) (ok:=fun _=>True) (okp:=fun _=>True) ?hr ?hp (fun _ hk=>hk) trivial (Below.refl _ _) (Nat.le_refl _) (by simp) ?_;(case hd=>rfl);(case hg=>rfl);(case hr=>first|(go_simp;done)|(go_simp;rfl));(case hp=>exact(Reps.none _ _));intro v141 w4 ho5 hb hg_ hnew_;clear hg_ hnew_;(first|rw[←Ny140.out] at ho5|(simp only[Int.reduceToNat] at ho5;rw[←Ny140.out] at ho5));have aV:=zA (Kd.R_lower ho5 (below_size (by repeat (first|(with_reducible first|exact HB.out|apply below_alloc|apply pw_below_drewN|apply below_drew1|refine below_set ?_ aR.out)|exact HB.out))));have aU:=zA (blk_below (g:=aQ) (o:=.cells #[.int .i64 aK,.int .i64 aJ,.slice aY aH.length aX] 26 (0,0)) (by(with_reducible repeat (first|refine blk_drewN ?_ _|refine blk_drew ?_|refine blk_alloc ?_ _));exact aA.out) hb);have aT:=zA (below_step (by repeat (first|(with_reducible first|exact HB.out|apply below_alloc|apply pw_below_drewN|apply below_drew1|refine below_set ?_ aR.out)|exact HB.out)) hb);clear aA;clear HB;have bX:=aV;have aA:=aU;have HB:=aT;clear aV aU aT;clear hb ho5))
 go_loopg [5,6] k (fun kq v5 v6 w'=>∃ (aZ:List Int) (bE:Int),v6=.int .i64 bE∧Aside0 (spec_l5From.l0 kq a1 aZ bE aK aJ aH=some r)∧Aside0 (kq≤k)∧Aside0 (Kd.R (Kd.int .i64) 3 w' w.heap.size (fun _=>True) v5 aZ)∧Aside0 (w'.heap[aQ]?=some (.cells #[.int .i64 aK,.int .i64 aJ,(.slice aY aH.length aX)] 26 (0,0)))∧Aside0 (Below w.heap.size w w'))
 case atStart=>exact⟨(y140),(0),(by first|rfl|(simp;done)|(simp[*];done)),H',⟨Nat.le_refl _⟩,⟨by(with_reducible repeat (first|apply Kd.R_alloc|apply Kd.R_drewN|apply Kd.R_drew));exact bX.out⟩,⟨zkf aA⟩,⟨by repeat (first|(with_reducible first|exact HB.out|apply below_alloc|apply pw_below_drewN|apply below_drew1|refine below_set ?_ aR.out)|exact HB.out)⟩⟩
 case round =>
  clear H'
  try clear p2
  obtain⟨aZ,bE,rfl,HA,HK1,aD,aA,HB⟩:=hrel
  cases gk with
  |zero=>exact absurd HA.out (by simp[spec_l5From.l0])
  |succ k1 =>
   have H:=HA.out
   clear HA
   simp only[spec_l5From.l0] at H
   by_cases c6:bE<(aH.length:Int)
   ·rw[if_pos c6] at H
    have bM:decide (bE<(aH.length:Int))=true:=decide_eq_true c6
    clear c6
    by_cases c7:aZ.length<17592186044416
    ·rw[if_pos c7] at H
     have LMc7:=zA c7
     clear c7
     obtain⟨y143,hy143⟩:∃ y_:List Int,y_=(aZ++[(-1)]):=⟨_,rfl⟩
     replace H:(spec_l5From.l0 k1 a1 y143 (wrap64 (bE+1)) aK aJ aH)=some r:=zY hy143 H
     have Ny143:=zA hy143
     clear hy143
     have H':=zA H
     clear H
     have hcz8_0:wr.cell? ⟨aQ,0,none⟩=some (.int .i64 aK):=(blk_cell aA.out 0).trans rfl
     have hcz8_1:wr.cell? ⟨aQ,1,none⟩=some (.int .i64 aJ):=(blk_cell aA.out 1).trans rfl
     have hcz8_2:wr.cell? ⟨aQ,2,none⟩=some (.slice aY aH.length aX):=(blk_cell aA.out 2).trans rfl
     have hfz8_0:=blk_frozen aA.out 0
     have hfz8_1:=blk_frozen aA.out 1
     have hfz8_2:=blk_frozen aA.out 2
     go_wp2_with (first|((with_reducible refine gate_builtin (b:=.append) (xs:=#[.tmp 19,.tmp 20]) rfl ?_);at_builtin;refine Kd.R_append (Kd.int .i64) (w0:=w) w.heap.size rfl (.tmp 19) (.tmp 20) 24 3 (.int .i64 0) 8 rfl Tryd.underlying24 info3 rfl (by decide) (by omega) u5 aZ (-1) [.int .i64 (-1)] (fun _=>True) (fun _=>False) rfl rfl ?aP (fun _ hk=>hk.elim) ?aF ?aO ?aB ?aS ?aL ?_;(case aP=>exact rfl);(case aB=>exact(by repeat (first|(with_reducible first|exact HB.out|apply below_alloc|apply pw_below_drewN|apply below_drew1|refine below_set ?_ aR.out)|exact HB.out)));(case aF=>exact(fun _ _=>trivial));(case aO=>exact(by(with_reducible repeat (first|apply Kd.R_alloc|apply Kd.R_drewN|apply Kd.R_drew));exact aD.out));(case aS=>exact(below_size (by repeat (first|(with_reducible first|exact HB.out|apply below_alloc|apply pw_below_drewN|apply below_drew1|refine below_set ?_ aR.out)|exact HB.out))));(case aL=>have:=LMc7.out;omega);intro v144 w9 ho hb hg hat;rw[←Ny143.out] at ho;have aV:=zA (blk_grown (g:=aQ) (o:=.cells #[.int .i64 aK,.int .i64 aJ,.slice aY aH.length aX] 26 (0,0)) (by(with_reducible repeat (first|refine blk_drewN ?_ _|refine blk_drew ?_|refine blk_alloc ?_ _));exact aA.out) hg (Kd.R_ne aD.out aA.out (by decide)));have aU:=zA hb;have aT:=zA ho;clear aA;clear HB;clear aD;have aA:=aV;have HB:=aU;have bW:=aT;clear aV aU aT;clear ho hb hg hat))
     go_roundg k1
     case measure=>have:=HK1.out;omega
     case rel=>exact⟨(y143),(wrap64 (bE+1)),(by first|rfl|(simp;done)|(simp[*];done)),H',⟨by have:=HK1.out;omega⟩,⟨by(with_reducible repeat (first|apply Kd.R_alloc|apply Kd.R_drewN|apply Kd.R_drew));exact bW.out⟩,⟨zkf aA⟩,⟨by repeat (first|(with_reducible first|exact HB.out|apply below_alloc|apply pw_below_drewN|apply below_drew1|refine below_set ?_ aR.out)|exact HB.out)⟩⟩
    ·rw[if_neg c7] at H
     exact absurd H (by simp)
   ·rw[if_neg c6] at H
    have bM:decide (bE<(aH.length:Int))=false:=decide_eq_false c6
    clear c6
    by_cases c10:0≤a1
    ·rw[if_pos c10] at H
     have c10b0:decide (0≤a1)=true:=decide_eq_true c10
     clear c10
     by_cases c11:a1<(aZ.length:Int)
     ·rw[if_pos c11] at H
      have c11b0:decide (a1<(aZ.length:Int))=true:=decide_eq_true c11
      clear c11
      obtain⟨bK,hy146⟩:∃ y_:List Int,y_=(aZ.set (a1:Int).toNat 0):=⟨_,rfl⟩
      replace H:(spec_l5From.l1 k1 bK (([a1]:List Int)) 0 aK aJ aH)=some r:=zY hy146 H
      have Ny146:=zA hy146
      clear hy146
      obtain⟨y147,hy147⟩:∃ y_:List Int,y_=(([a1]:List Int)):=⟨_,rfl⟩
      replace H:(spec_l5From.l1 k1 bK y147 0 aK aJ aH)=some r:=zY hy147 H
      have Ny147:=zA hy147
      clear hy147
      have H':=zA H
      clear H
      have hcz13_0:wr.cell? ⟨aQ,0,none⟩=some (.int .i64 aK):=(blk_cell aA.out 0).trans rfl
      have hcz13_1:wr.cell? ⟨aQ,1,none⟩=some (.int .i64 aJ):=(blk_cell aA.out 1).trans rfl
      have hcz13_2:wr.cell? ⟨aQ,2,none⟩=some (.slice aY aH.length aX):=(blk_cell aA.out 2).trans rfl
      have hfz13_0:=blk_frozen aA.out 0
      have hfz13_1:=blk_frozen aA.out 1
      have hfz13_2:=blk_frozen aA.out 2
      have p12:0≤(a1:Int):=of_decide_eq_true (by first|(with_reducible assumption)|assumption)
      have q12:(a1:Int)<((aZ.length:Int):Int):=of_decide_eq_true (by first|(with_reducible assumption)|assumption)
      obtain⟨go12,bG,eo12,gb12,gl12,cl12,HG12⟩:=Kd.R_form aD.out (by omega)
      (first|cases eo12|(injection eo12 with ea_ en_ ec_;(first|subst ea_|(injection ea_ with ea_;subst ea_));subst ec_;clear en_))
      have GB12:=zA gb12
      have GG12:=zA HG12
      clear gb12 gl12 HG12
      obtain⟨hx12_0,hf12_0⟩:=Kd.R_celln 0 aD.out (a1:Int) p12 q12
      replace p12:=eq_true p12
      replace q12:=eq_true q12
      have HP14:=Kd.R_putg aD.out (a1:Int) 0
      go_wp2_with (first|((with_reducible refine gate_store (t:=3) (p:=24) rfl ?_);refine store_event (t:=3) (p:=24) (v:=?vo_w15) (w1:=(wr.setCell ⟨go12,(a1:Int).toNat,none⟩ (.int .i64 0))) ?hg ?ho ?hn ?hr ?_;(case ho=>rfl);(case hg=>rfl);(case hn=>rfl);(case hr=>first|(go_simp;done)|(go_simp;rfl));intro bQ hw;have hg:wr.grownBy bQ (some go12):=(by rw[hw];exact HP14.2);have hp_:Kd.R (Kd.int .i64) 3 bQ w.heap.size (fun _=>True) (.slice (some ⟨go12,0,none⟩) aZ.length bG) bK:=(by rw[hw,Ny146.out];exact HP14.1);clear HP14;have aV:=zA hp_;have aU:=zA (blk_grown (g:=aQ) (o:=.cells #[.int .i64 aK,.int .i64 aJ,.slice aY aH.length aX] 26 (0,0)) (by(with_reducible repeat (first|refine blk_drewN ?_ _|refine blk_drew ?_|refine blk_alloc ?_ _));exact aA.out) hg (Kd.R_ne aD.out aA.out (by decide)));have aT:=zA ((by rw[hw];exact below_set (HB.out) GB12.out:Below w.heap.size w bQ));clear aD;clear aA;clear HB;have aD:=aV;have aA:=aU;have HB:=aT;clear aV aU aT;clear hg hw hp_)|((with_reducible refine zgd 26 rfl ?_);refine Kd.R_lit (Kd.int .i64) _ 3 ?hg (N:=26) ?hd (xs:=([a1]:List Int)) (inner:=[.int .i64 a1]) (ok:=fun _=>True) (okp:=fun _=>True) ?hr ?hp (fun _ hk=>hk) trivial (Below.refl _ _) (Nat.le_refl _) (by simp) ?_;(case hd=>rfl);(case hg=>rfl);(case hr=>first|(go_simp;done)|(go_simp;rfl));(case hp=>exact(Reps.one (show Kd.M (Kd.int .i64) _ _ _ a1 [.int .i64 a1] from rfl) (Reps.none _ _)));intro v148 cD ho17 hb hg_ hnew_;clear hg_ hnew_;(first|rw[←Ny147.out] at ho17|(simp only[Int.reduceToNat] at ho17;rw[←Ny147.out] at ho17));have aV:=zA (Kd.R_elder' (by(with_reducible repeat (first|apply Kd.R_alloc|apply Kd.R_drewN|apply Kd.R_drew));exact aD.out) (Kd.R_base ho17) hb);have aU:=zA (Kd.R_lower (Kd.R_new' ho17 (Kd.R_lt (by(with_reducible repeat (first|apply Kd.R_alloc|apply Kd.R_drewN|apply Kd.R_drew));exact aD.out))) (below_size (by repeat (first|(with_reducible first|exact HB.out|apply below_alloc|apply pw_below_drewN|apply below_drew1|refine below_set ?_ aR.out)|exact HB.out))));have aT:=zA (blk_below (g:=aQ) (o:=.cells #[.int .i64 aK,.int .i64 aJ,.slice aY aH.length aX] 26 (0,0)) (by(with_reducible repeat (first|refine blk_drewN ?_ _|refine blk_drew ?_|refine blk_alloc ?_ _));exact aA.out) hb);have bA:=zA (below_step (by repeat (first|(with_reducible first|exact HB.out|apply below_alloc|apply pw_below_drewN|apply below_drew1|refine below_set ?_ aR.out)|exact HB.out)) hb);clear aD;clear aA;clear HB;have aD:=aV;have bV:=aU;have aA:=aT;have HB:=bA;clear aV aU aT bA;clear hb ho17))
      go_loopg [7,8] k1 (fun kq v7 v8 w'=>∃ (bF:List Int) (bB:List Int) (aE:Int),v8=.int .i64 aE∧Aside0 (spec_l5From.l1 kq bF bB aE aK aJ aH=some r)∧Aside0 (kq≤k1)∧Aside0 (Kd.R (Kd.int .i64) 3 w' w.heap.size (fun k_=>some k_≠(v7:Value).ownBlock) (.slice (some ⟨go12,0,none⟩) aZ.length bG) bF)∧Aside0 (Kd.R (Kd.int .i64) 3 w' w.heap.size (fun k_=>some k_≠((.slice (some ⟨go12,0,none⟩) aZ.length bG):Value).ownBlock) v7 bB)∧Aside0 (w'.heap[aQ]?=some (.cells #[.int .i64 aK,.int .i64 aJ,(.slice aY aH.length aX)] 26 (0,0)))∧Aside0 (Below w.heap.size w w'))
      case atStart=>exact⟨(bK),(y147),(0),(by first|rfl|(simp;done)|(simp[*];done)),H',⟨Nat.le_refl _⟩,⟨by(with_reducible repeat (first|apply Kd.R_alloc|apply Kd.R_drewN|apply Kd.R_drew));exact Kd.R_mono aD.out (fun _ hk=>hk.2)⟩,⟨by(with_reducible repeat (first|apply Kd.R_alloc|apply Kd.R_drewN|apply Kd.R_drew));exact Kd.R_mono bV.out (fun _ hk=>hk.2)⟩,⟨zkf aA⟩,⟨by repeat (first|(with_reducible first|exact HB.out|apply below_alloc|apply pw_below_drewN|apply below_drew1|refine below_set ?_ aR.out)|exact HB.out)⟩⟩
      case round =>
       clear H'
       try clear c1
       try clear p1
       try clear q1
       try clear hx1
       try clear p2
       try clear c6
       try clear bM
       try clear p6
       try clear c7
       try clear c10
       try clear c10b0
       try clear c11
       try clear c11b0
       try clear p12
       try clear q12
       try clear hx12
       try clear hf12
       try clear hcz13_0
       try clear hcz13_1
       try clear hcz13_2
       try clear hcz8_0
       try clear hcz8_1
       try clear hcz8_2
       try clear hfz13_0
       try clear hfz13_1
       try clear hfz13_2
       try clear hfz8_0
       try clear hfz8_1
       try clear hfz8_2
       try clear hx12_0
       try clear p12
       try clear p2
       try clear q12
       obtain⟨bF,bB,aE,rfl,HA,HK2,aD,aN,aA,HB⟩:=hrel
       have hl5_2:=(Kd.R_reads' aD.out).1
       rw[hl5_2] at aD
       (try simp only[hl5_2])
       (try simp only[hl5_2] at aA)
       (try simp only[hl5_2] at aN)
       cases gk with
       |zero=>exact absurd HA.out (by simp[spec_l5From.l1])
       |succ k2 =>
        have H:=HA.out
        clear HA
        simp only[spec_l5From.l1] at H
        by_cases c18:aE<(bB.length:Int)
        ·rw[if_pos c18] at H
         have bP:decide (aE<(bB.length:Int))=true:=decide_eq_true c18
         clear c18
         by_cases c19:0≤aE
         ·rw[if_pos c19] at H
          have c19b0:decide (0≤aE)=true:=decide_eq_true c19
          clear c19
          replace H:=Option.bind_eq_some_iff.mp H
          obtain⟨aG,A200,H⟩:=H
          replace H:(spec_l5From.l2 k2 bF bB aE aG 0 aK aJ aH)=some r:=H
          have A20:=zA A200
          clear A200
          have H':=zA H
          clear H
          obtain⟨Ao21,co21,eo21⟩:=Kd.R_slice aN.out
          subst eo21
          try go_wp2
          have aV:=zA (Kd.R_drew aD.out)
          have aU:=zA (Kd.R_drew aN.out)
          have aT:=zA (blk_drew aA.out)
          have bA:=zA (below_drew1 HB.out)
          clear aD
          clear aN
          clear aA
          clear HB
          have aD:=aV
          have aN:=aU
          have aA:=aT
          have HB:=bA
          clear aV aU aT bA
          have p150:0≤(aE:Int):=of_decide_eq_true (by first|(with_reducible assumption)|assumption)
          have q150:aE<(bB.length:Int):=of_decide_eq_true (by first|(with_reducible assumption)|assumption)
          obtain⟨ad150,e150,hx150_0⟩:=Kd.at_int (Kd.R_reads' aN.out).2.2 aE p150 q150
          cases e150
          replace p150:=eq_true p150
          replace q150:=eq_true q150
          refine start_ (n:=7) (S:=fun w'=>w'.cell? ⟨aQ,0,none⟩=some (.int .i64 aK)∧w'.cell? ⟨aQ,1,none⟩=some (.int .i64 aJ)∧w'.cell? ⟨aQ,2,none⟩=some (.slice aY aH.length aX)∧w'.cell? (ad150.add (aE).toNat)=some (.int .i64 (rd bB aE))) (ds:=[]) #[false,false,false,false,false,false,false] (by kernel_rfl) rfl rfl ⟨(blk_cell aA.out 0).trans rfl,(blk_cell aA.out 1).trans rfl,(blk_cell aA.out 2).trans rfl,hx150_0⟩ (fun hHeld=>?_)
          generalize wr.drew=cC at aD aN aA HB hx150_0 hHeld ⊢
          refine pure_ (i:=1) (N:=some 34) (v:=?_) (a':=?_) #[false,true,false,false,false,false,false] rfl rfl (by kernel_rfl) (fun _ _ _ h=>h) (Or.inl ⟨by rfl,?_⟩) ?_ ?_
          rotate_left
          ·intro w'
           go_simp
           with_reducible rfl
          rotate_left
          ·simp only[Act.put,List.setIfInBounds_toArray,List.set_cons_zero,List.set_cons_succ,i64_w,i32_w]
           rfl
          refine pure_ (i:=2) (N:=some 35) (v:=?_) (a':=?_) #[false,true,true,false,false,false,false] rfl rfl (by kernel_rfl) (fun _ _ _ h=>h) (Or.inl ⟨by rfl,?_⟩) ?_ ?_
          rotate_left
          ·intro w'
           go_simp
           with_reducible rfl
          rotate_left
          ·simp only[Act.put,List.setIfInBounds_toArray,List.set_cons_zero,List.set_cons_succ,i64_w,i32_w]
           rfl
          refine pure_ (i:=3) (N:=some 36) (v:=?_) (a':=?_) #[false,true,true,true,false,false,false] rfl rfl (by kernel_rfl) (fun _ _ _ h=>h) (Or.inl ⟨by rfl,?_⟩) ?_ ?_
          rotate_left
          ·intro w'
           go_simp
           with_reducible rfl
          rotate_left
          ·simp only[Act.put,List.setIfInBounds_toArray,List.set_cons_zero,List.set_cons_succ,i64_w,i32_w]
           rfl
          refine take_ (i:=0) (N:=some 33) (v:=?_) (a':=?_) #[true,true,true,true,false,false,false] rfl rfl (by kernel_rfl) (fun _ _ _ h=>h) (Or.inl ⟨by rfl,?_⟩) hHeld ?_ ?_
          rotate_left
          ·rintro w' ⟨s0,s1,s2,s3⟩
           go_simp
           with_reducible rfl
          rotate_left
          ·simp only[Act.put,List.setIfInBounds_toArray,List.set_cons_zero,List.set_cons_succ,i64_w,i32_w]
           rfl
          refine take_ (i:=4) (N:=some 37) (v:=?_) (a':=?_) #[true,true,true,true,true,false,false] rfl rfl (by kernel_rfl) (fun _ _ _ h=>h) (Or.inl ⟨by rfl,?_⟩) hHeld ?_ ?_
          rotate_left
          ·rintro w' ⟨s0,s1,s2,s3⟩
           go_simp
           with_reducible rfl
          rotate_left
          ·simp only[Act.put,List.setIfInBounds_toArray,List.set_cons_zero,List.set_cons_succ,i64_w,i32_w]
           rfl
          refine one_ (i:=5) (N:=some 38) #[true,true,true,true,true,true,false] rfl rfl (by kernel_rfl) (by decide) (fun K hK=>?_)
          refine goes_ Tryd.func59 (by kernel_rfl) rfl #[.agg #[.int .i64 aK,.int .i64 aJ,.slice aY aH.length aX],.int .i64 (rd bB aE)] (by rfl) rfl rfl (by(try simp only[List.map_toArray,List.map_cons,List.map_nil]);first|done|rfl|(simp only[List.length_drop,List.length_take];rfl)) ?_
          with_reducible refine(spec_l4Near.calls k2 aK aJ _ _ aH (rd bB aE) aG _ ?s1 ?s2 A20.out).mono ?_
          (case s1=>repeat (first|exact(Kd.C_below HR0_2.out HB.out)|(with_reducible refine Kd.C_alloc ?_ _)|(with_reducible refine Kd.C_drewN ?_ _)|(with_reducible refine Kd.C_drew ?_)))
          (case s2=>exact HC0_2.out)
          rintro e cB ⟨v152,rfl,ho0,hb⟩
          have HS3_:=(hb.cell (World.block_lt_of_cell? _ _ (hHeld.2.2.2))).trans (hHeld.2.2.2)
          refine⟨_,rfl,?_⟩
          have aV:=zA (Kd.R_elder' (by(with_reducible repeat (first|apply Kd.R_alloc|apply Kd.R_drewN|apply Kd.R_drew));exact aD.out) (Kd.R_base ho0) hb)
          have aU:=zA (Kd.R_elder' (by(with_reducible repeat (first|apply Kd.R_alloc|apply Kd.R_drewN|apply Kd.R_drew));exact aN.out) (Kd.R_base ho0) hb)
          have aT:=zA (Kd.R_lower (Kd.R_new' (Kd.R_new' ho0 (Kd.R_lt (by(with_reducible repeat (first|apply Kd.R_alloc|apply Kd.R_drewN|apply Kd.R_drew));exact aD.out))) (Kd.R_lt (by(with_reducible repeat (first|apply Kd.R_alloc|apply Kd.R_drewN|apply Kd.R_drew));exact aN.out))) (below_size (by repeat (first|(with_reducible first|exact HB.out|apply below_alloc|apply pw_below_drewN|apply below_drew1|refine below_set ?_ aR.out)|exact HB.out))))
          have bA:=zA (blk_below (g:=aQ) (o:=.cells #[.int .i64 aK,.int .i64 aJ,.slice aY aH.length aX] 26 (0,0)) (by(with_reducible repeat (first|refine blk_drewN ?_ _|refine blk_drew ?_|refine blk_alloc ?_ _));exact aA.out) hb)
          have bH:=zA (below_step (by repeat (first|(with_reducible first|exact HB.out|apply below_alloc|apply pw_below_drewN|apply below_drew1|refine below_set ?_ aR.out)|exact HB.out)) hb)
          clear aD
          clear aN
          clear aA
          clear HB
          have aD:=aV
          have aN:=aU
          have HO153:=aT
          have aA:=bA
          have HB:=bH
          clear aV aU aT bA bH
          (try clear hb)
          (try clear hb2)
          (try clear hk)
          (try clear hi)
          (try clear ho0)
          refine hK.out _ _ ⟨(blk_cell aA.out 0).trans rfl,(blk_cell aA.out 1).trans rfl,(blk_cell aA.out 2).trans rfl,HS3_⟩ (fun hHeld=>?_)
          clear hK K
          refine norm_ (a':=?_) ?_ ?_
          rotate_left
          ·show Act.put _ (some 38) _=_
           simp only[Act.put,List.setIfInBounds_toArray,List.set_cons_zero,List.set_cons_succ,i64_w,i32_w]
           rfl
          refine pure_ (i:=6) (N:=some 9) (v:=?_) (a':=?_) #[true,true,true,true,true,true,true] rfl rfl (by kernel_rfl) (fun _ _ _ h=>h) (Or.inl ⟨by rfl,?_⟩) ?_ ?_
          rotate_left
          ·intro w'
           go_simp
           with_reducible rfl
          rotate_left
          ·simp only[Act.put,List.setIfInBounds_toArray,List.set_cons_zero,List.set_cons_succ,i64_w,i32_w]
           rfl
          refine done_ (by kernel_rfl) ?_
          try go_wp2
          go_loopg [7,10] k2 (fun kq v7 v10 w'=>∃ (aM:List Int) (aI:List Int) (aC:Int),v10=.int .i64 aC∧Aside0 (spec_l5From.l2 kq aM aI aE aG aC aK aJ aH=some r)∧Aside0 (kq≤k2)∧Aside0 (Kd.R (Kd.int .i64) 3 w' w.heap.size (fun k_=>some k_≠(v7:Value).ownBlock∧some k_≠(v152:Value).ownBlock) (.slice (some ⟨go12,0,none⟩) bF.length bG) aM)∧Aside0 (Kd.R (Kd.int .i64) 3 w' w.heap.size (fun k_=>some k_≠((.slice (some ⟨go12,0,none⟩) bF.length bG):Value).ownBlock∧some k_≠(v152:Value).ownBlock) v7 aI)∧Aside0 (Kd.R (Kd.int .i64) 3 w' w.heap.size (fun k_=>some k_≠((.slice (some ⟨go12,0,none⟩) bF.length bG):Value).ownBlock∧some k_≠(v7:Value).ownBlock) v152 aG)∧Aside0 (w'.heap[aQ]?=some (.cells #[.int .i64 aK,.int .i64 aJ,(.slice aY aH.length aX)] 26 (0,0)))∧Aside0 (Below w.heap.size w w'))
          case atStart=>exact⟨(bF),(bB),(0),(by first|rfl|(simp;done)|(simp[*];done)),H',⟨Nat.le_refl _⟩,⟨by(try simp only[hl5_2]);(with_reducible repeat (first|apply Kd.R_alloc|apply Kd.R_drewN|apply Kd.R_drew));exact aD.out⟩,⟨by(try simp only[hl5_2]);(with_reducible repeat (first|apply Kd.R_alloc|apply Kd.R_drewN|apply Kd.R_drew));exact aN.out⟩,⟨by(try simp only[hl5_2]);(with_reducible repeat (first|apply Kd.R_alloc|apply Kd.R_drewN|apply Kd.R_drew));exact Kd.R_mono HO153.out (fun _ hk=>⟨hk.1.2,hk.2⟩)⟩,⟨by(try simp only[hl5_2]);(with_reducible repeat (first|refine blk_drewN ?_ _|refine blk_drew ?_|refine blk_alloc ?_ _));exact aA.out⟩,⟨by repeat (first|(with_reducible first|exact HB.out|apply below_alloc|apply pw_below_drewN|apply below_drew1|refine below_set ?_ aR.out)|exact HB.out)⟩⟩
          case round =>
           clear H'
           try clear c1
           try clear p1
           try clear q1
           try clear hx1
           try clear p2
           try clear c6
           try clear bM
           try clear p6
           try clear c7
           try clear c10
           try clear c10b0
           try clear c11
           try clear c11b0
           try clear p12
           try clear q12
           try clear hx12
           try clear hf12
           try clear p15
           try clear q15
           try clear hx15
           try clear c18
           try clear bP
           try clear c19
           try clear c19b0
           try clear hcz13_0
           try clear hcz13_1
           try clear hcz13_2
           try clear hcz8_0
           try clear hcz8_1
           try clear hcz8_2
           try clear hfz13_0
           try clear hfz13_1
           try clear hfz13_2
           try clear hfz8_0
           try clear hfz8_1
           try clear hfz8_2
           try clear hx12_0
           try clear hx150_0
           try clear p1
           try clear p12
           try clear p150
           try clear p2
           try clear p6
           try clear q1
           try clear q12
           try clear q150
           obtain⟨aM,aI,aC,rfl,HA,HK3,aD,aN,aW,aA,HB⟩:=hrel
           have hl5_3:=(Kd.R_reads' aD.out).1
           rw[hl5_3] at aD
           (try simp only[hl5_3])
           (try simp only[hl5_3] at aA)
           (try simp only[hl5_3] at aN)
           (try simp only[hl5_3] at aW)
           cases gk with
           |zero=>exact absurd HA.out (by simp[spec_l5From.l2])
           |succ k3 =>
            have H:=HA.out
            clear HA
            simp only[spec_l5From.l2] at H
            by_cases c24:aC<(aG.length:Int)
            ·rw[if_pos c24] at H
             have bT:decide (aC<(aG.length:Int))=true:=decide_eq_true c24
             clear c24
             by_cases c25:0≤aC
             ·rw[if_pos c25] at H
              have c25b0:decide (0≤aC)=true:=decide_eq_true c25
              clear c25
              by_cases c26:0≤(rd aG aC)
              ·rw[if_pos c26] at H
               have c26b0:decide (0≤(rd aG aC))=true:=decide_eq_true c26
               clear c26
               by_cases c27:(rd aG aC)<(aM.length:Int)
               ·rw[if_pos c27] at H
                have c27b0:decide ((rd aG aC)<(aM.length:Int))=true:=decide_eq_true c27
                clear c27
                by_cases c28:(rd aM (rd aG aC))<0
                ·rw[if_pos c28] at H
                 have bS:decide ((rd aM (rd aG aC))<0)=true:=decide_eq_true c28
                 clear c28
                 by_cases c29:0≤aE
                 ·rw[if_pos c29] at H
                  have c29b0:decide (0≤aE)=true:=decide_eq_true c29
                  clear c29
                  by_cases c30:aE<(aI.length:Int)
                  ·rw[if_pos c30] at H
                   have c30b0:decide (aE<(aI.length:Int))=true:=decide_eq_true c30
                   clear c30
                   by_cases c31:0≤(rd aI aE)
                   ·rw[if_pos c31] at H
                    have c31b0:decide (0≤(rd aI aE))=true:=decide_eq_true c31
                    clear c31
                    by_cases c32:(rd aI aE)<(aM.length:Int)
                    ·rw[if_pos c32] at H
                     have c32b0:decide ((rd aI aE)<(aM.length:Int))=true:=decide_eq_true c32
                     clear c32
                     obtain⟨y159,hy159⟩:∃ y_:List Int,y_=(aM.set ((rd aG aC):Int).toNat (wrap64 ((rd aM (rd aI aE))+1))):=⟨_,rfl⟩
                     replace H:(if aI.length<17592186044416 then(spec_l5From.l2 k3 y159 (aI++[rd aG aC]) aE aG (wrap64 (aC+1)) aK aJ aH) else(none))=some r:=zY hy159 H
                     have Ny159:=zA hy159
                     clear hy159
                     by_cases c34:aI.length<17592186044416
                     ·rw[if_pos c34] at H
                      have LMc34:=zA c34
                      clear c34
                      obtain⟨y160,hy160⟩:∃ y_:List Int,y_=(aI++[rd aG aC]):=⟨_,rfl⟩
                      replace H:(spec_l5From.l2 k3 y159 y160 aE aG (wrap64 (aC+1)) aK aJ aH)=some r:=zY hy160 H
                      have Ny160:=zA hy160
                      clear hy160
                      have H':=zA H
                      clear H
                      obtain⟨Ao35,co35,eo35⟩:=Kd.R_slice aW.out
                      subst eo35
                      have p154:0≤(aC:Int):=of_decide_eq_true (by first|(with_reducible assumption)|assumption)
                      have q154:aC<(aG.length:Int):=of_decide_eq_true (by first|(with_reducible assumption)|assumption)
                      obtain⟨ad154,e154,hx154_0⟩:=Kd.at_int (Kd.R_reads' aW.out).2.2 aC p154 q154
                      cases e154
                      replace p154:=eq_true p154
                      replace q154:=eq_true q154
                      have p155:0≤((rd aG aC):Int):=of_decide_eq_true (by first|(with_reducible assumption)|assumption)
                      have q155:(rd aG aC)<(aM.length:Int):=of_decide_eq_true (by first|(with_reducible assumption)|assumption)
                      obtain⟨ad155,e155,hx155_0⟩:=Kd.at_int (Kd.R_reads' aD.out).2.2 (rd aG aC) p155 q155
                      obtain rfl:(⟨go12,0,none⟩:Addr)=ad155:=(by injection e155)
                      (first|simp only[add_plain] at hx155_0|simp only[add_at] at hx155_0|simp only[Addr.add,Nat.zero_add] at hx155_0|skip)
                      replace p155:=eq_true p155
                      replace q155:=eq_true q155
                      try go_wp2
                      have aV:=zA (Kd.R_drew aD.out)
                      have aU:=zA (Kd.R_drew aN.out)
                      have aT:=zA (Kd.R_drew aW.out)
                      have bA:=zA (blk_drew aA.out)
                      have bH:=zA (below_drew1 HB.out)
                      clear aD
                      clear aN
                      clear aW
                      clear aA
                      clear HB
                      have aD:=aV
                      have aN:=aU
                      have aW:=aT
                      have aA:=bA
                      have HB:=bH
                      clear aV aU aT bA bH
                      have p156:0≤(aC:Int):=of_decide_eq_true (by first|(with_reducible assumption)|assumption)
                      have q156:aC<(aG.length:Int):=of_decide_eq_true (by first|(with_reducible assumption)|assumption)
                      obtain⟨ad156,e156,bJ⟩:=Kd.at_int (Kd.R_reads' aW.out).2.2 aC p156 q156
                      obtain rfl:ad154=ad156:=(by injection e156)
                      replace p156:=eq_true p156
                      replace q156:=eq_true q156
                      obtain⟨Ao37,co37,eo37⟩:=Kd.R_slice aN.out
                      (first|subst eo37|(injection eo37 with f1_ f2_ f3_;have f4_:=f1_.symm;have f5_:=f3_.symm;clear f1_ f2_ f3_;subst f4_;subst f5_))
                      have bL:0≤(aE:Int):=of_decide_eq_true (by first|(with_reducible assumption)|assumption)
                      have q157:aE<(aI.length:Int):=of_decide_eq_true (by first|(with_reducible assumption)|assumption)
                      obtain⟨ad157,e157,bI⟩:=Kd.at_int (Kd.R_reads' aN.out).2.2 aE bL q157
                      cases e157
                      replace bL:=eq_true bL
                      replace q157:=eq_true q157
                      have p158:0≤((rd aI aE):Int):=of_decide_eq_true (by first|(with_reducible assumption)|assumption)
                      have q158:(rd aI aE)<(aM.length:Int):=of_decide_eq_true (by first|(with_reducible assumption)|assumption)
                      obtain⟨ad158,e158,bD⟩:=Kd.at_int (Kd.R_reads' aD.out).2.2 (rd aI aE) p158 q158
                      obtain rfl:(⟨go12,0,none⟩:Addr)=ad158:=(by injection e158)
                      (first|simp only[add_plain] at bD|simp only[add_at] at bD|simp only[Addr.add,Nat.zero_add] at bD|skip)
                      replace p158:=eq_true p158
                      replace q158:=eq_true q158
                      have p33:0≤((rd aG aC):Int):=of_decide_eq_true (by first|(with_reducible assumption)|assumption)
                      have q33:((rd aG aC):Int)<((aM.length:Int):Int):=of_decide_eq_true (by first|(with_reducible assumption)|assumption)
                      obtain⟨bR,hf33_0⟩:=Kd.R_celln 0 aD.out ((rd aG aC):Int) p33 q33
                      replace p33:=eq_true p33
                      replace q33:=eq_true q33
                      have HP38:=Kd.R_putn aD.out ((rd aG aC):Int) (wrap64 ((rd aM (rd aI aE))+1))
                      rw[←Ny159.out] at HP38
                      have HQ38:=zA HP38
                      clear HP38
                      refine start_ (n:=15) (S:=fun w'=>w'.cell? (ad154.add (aC).toNat)=some (.int .i64 (rd aG aC))∧w'.cell? (ad157.add (aE).toNat)=some (.int .i64 (rd aI aE))∧w'.cell? ⟨go12,((rd aI aE)).toNat,none⟩=some (.int .i64 (rd aM (rd aI aE)))) (ds:=[14]) #[false,false,false,false,false,false,false,false,false,false,false,false,false,false,false] (by kernel_rfl) rfl rfl ⟨bJ,bI,bD⟩ (fun hHeld=>?_);refine with_tabW spec_l5From.tab16 spec_l5From.bits16 (fun HT_ HW_=>?_)
                      generalize wr.drew=cA at aD aN aW aA HB HQ38 hf33_0 bJ bI bD bR hHeld ⊢
                      refine pure_ (i:=0) (N:=some 53) (v:=?_) (a':=?_) #[true,false,false,false,false,false,false,false,false,false,false,false,false,false,false] rfl rfl (any_of HT_.out (by kernel_rfl)) (fun _ _ _ h=>h) (Or.inl ⟨by rfl,?_⟩) ?_ ?_
                      rotate_left
                      ·intro w'
                       go_simp
                       with_reducible rfl
                      rotate_left
                      ·simp only[Act.put,List.setIfInBounds_toArray,List.set_cons_zero,List.set_cons_succ,i64_w,i32_w]
                       rfl
                      refine pure_ (i:=1) (N:=some 54) (v:=?_) (a':=?_) #[true,true,false,false,false,false,false,false,false,false,false,false,false,false,false] rfl rfl (any_of HT_.out (by kernel_rfl)) (fun _ _ _ h=>h) (Or.inl ⟨by rfl,?_⟩) ?_ ?_
                      rotate_left
                      ·intro w'
                       go_simp
                       with_reducible rfl
                      rotate_left
                      ·simp only[Act.put,List.setIfInBounds_toArray,List.set_cons_zero,List.set_cons_succ,i64_w,i32_w]
                       rfl
                      refine pure_ (i:=2) (N:=some 55) (v:=?_) (a':=?_) #[true,true,true,false,false,false,false,false,false,false,false,false,false,false,false] rfl rfl (any_of HT_.out (by kernel_rfl)) (fun _ _ _ h=>h) (Or.inl ⟨by rfl,?_⟩) ?_ ?_
                      rotate_left
                      ·intro w'
                       go_simp
                       with_reducible rfl
                      rotate_left
                      ·simp only[Act.put,List.setIfInBounds_toArray,List.set_cons_zero,List.set_cons_succ,i64_w,i32_w]
                       rfl
                      refine pure_ (i:=3) (N:=some 56) (v:=?_) (a':=?_) #[true,true,true,true,false,false,false,false,false,false,false,false,false,false,false] rfl rfl (any_of HT_.out (by kernel_rfl)) (fun _ _ _ h=>h) (Or.inl ⟨by rfl,?_⟩) ?_ ?_
                      rotate_left
                      ·intro w'
                       go_simp
                       with_reducible rfl
                      rotate_left
                      ·simp only[Act.put,List.setIfInBounds_toArray,List.set_cons_zero,List.set_cons_succ,i64_w,i32_w]
                       rfl
                      refine pure_ (i:=5) (N:=some 58) (v:=?_) (a':=?_) #[true,true,true,true,false,true,false,false,false,false,false,false,false,false,false] rfl rfl (any_of HT_.out (by kernel_rfl)) (fun _ _ _ h=>h) (Or.inl ⟨by rfl,?_⟩) ?_ ?_
                      rotate_left
                      ·intro w'
                       go_simp
                       with_reducible rfl
                      rotate_left
                      ·simp only[Act.put,List.setIfInBounds_toArray,List.set_cons_zero,List.set_cons_succ,i64_w,i32_w]
                       rfl
                      refine pure_ (i:=6) (N:=some 59) (v:=?_) (a':=?_) #[true,true,true,true,false,true,true,false,false,false,false,false,false,false,false] rfl rfl (any_of HT_.out (by kernel_rfl)) (fun _ _ _ h=>h) (Or.inl ⟨by rfl,?_⟩) ?_ ?_
                      rotate_left
                      ·intro w'
                       go_simp
                       with_reducible rfl
                      rotate_left
                      ·simp only[Act.put,List.setIfInBounds_toArray,List.set_cons_zero,List.set_cons_succ,i64_w,i32_w]
                       rfl
                      refine pure_ (i:=7) (N:=some 60) (v:=?_) (a':=?_) #[true,true,true,true,false,true,true,true,false,false,false,false,false,false,false] rfl rfl (any_of HT_.out (by kernel_rfl)) (fun _ _ _ h=>h) (Or.inl ⟨by rfl,?_⟩) ?_ ?_
                      rotate_left
                      ·intro w'
                       go_simp
                       with_reducible rfl
                      rotate_left
                      ·simp only[Act.put,List.setIfInBounds_toArray,List.set_cons_zero,List.set_cons_succ,i64_w,i32_w]
                       rfl
                      refine pure_ (i:=8) (N:=some 61) (v:=?_) (a':=?_) #[true,true,true,true,false,true,true,true,true,false,false,false,false,false,false] rfl rfl (any_of HT_.out (by kernel_rfl)) (fun _ _ _ h=>h) (Or.inl ⟨by rfl,?_⟩) ?_ ?_
                      rotate_left
                      ·intro w'
                       go_simp
                       with_reducible rfl
                      rotate_left
                      ·simp only[Act.put,List.setIfInBounds_toArray,List.set_cons_zero,List.set_cons_succ,i64_w,i32_w]
                       rfl
                      refine take_ (i:=4) (N:=some 57) (v:=?_) (a':=?_) #[true,true,true,true,true,true,true,true,true,false,false,false,false,false,false] rfl rfl (take_ofW HT_.out HW_.out (by kernel_rfl)) (fun _ _ _ h=>h) (Or.inl ⟨by rfl,?_⟩) hHeld ?_ ?_
                      rotate_left
                      ·rintro w' ⟨s0,s1,s2⟩
                       go_simp
                       with_reducible rfl
                      rotate_left
                      ·simp only[Act.put,List.setIfInBounds_toArray,List.set_cons_zero,List.set_cons_succ,i64_w,i32_w]
                       rfl
                      refine take_ (i:=9) (N:=some 62) (v:=?_) (a':=?_) #[true,true,true,true,true,true,true,true,true,true,false,false,false,false,false] rfl rfl (take_ofW HT_.out HW_.out (by kernel_rfl)) (fun _ _ _ h=>h) (Or.inl ⟨by rfl,?_⟩) hHeld ?_ ?_
                      rotate_left
                      ·rintro w' ⟨s0,s1,s2⟩
                       go_simp
                       with_reducible rfl
                      rotate_left
                      ·simp only[Act.put,List.setIfInBounds_toArray,List.set_cons_zero,List.set_cons_succ,i64_w,i32_w]
                       rfl
                      refine pure_ (i:=10) (N:=some 63) (v:=?_) (a':=?_) #[true,true,true,true,true,true,true,true,true,true,true,false,false,false,false] rfl rfl (any_of HT_.out (by kernel_rfl)) (fun _ _ _ h=>h) (Or.inl ⟨by rfl,?_⟩) ?_ ?_
                      rotate_left
                      ·intro w'
                       go_simp
                       with_reducible rfl
                      rotate_left
                      ·simp only[Act.put,List.setIfInBounds_toArray,List.set_cons_zero,List.set_cons_succ,i64_w,i32_w]
                       rfl
                      refine take_ (i:=11) (N:=some 64) (v:=?_) (a':=?_) #[true,true,true,true,true,true,true,true,true,true,true,true,false,false,false] rfl rfl (take_ofW HT_.out HW_.out (by kernel_rfl)) (fun _ _ _ h=>h) (Or.inl ⟨by rfl,?_⟩) hHeld ?_ ?_
                      rotate_left
                      ·rintro w' ⟨s0,s1,s2⟩
                       go_simp
                       with_reducible rfl
                      rotate_left
                      ·simp only[Act.put,List.setIfInBounds_toArray,List.set_cons_zero,List.set_cons_succ,i64_w,i32_w]
                       rfl
                      refine pure_ (i:=12) (N:=some 65) (v:=?_) (a':=?_) #[true,true,true,true,true,true,true,true,true,true,true,true,true,false,false] rfl rfl (any_of HT_.out (by kernel_rfl)) (fun _ _ _ h=>h) (Or.inl ⟨by rfl,?_⟩) ?_ ?_
                      rotate_left
                      ·intro w'
                       go_simp
                       with_reducible rfl
                      rotate_left
                      ·simp only[Act.put,List.setIfInBounds_toArray,List.set_cons_zero,List.set_cons_succ,i64_w,i32_w]
                       rfl
                      refine pure_ (i:=13) (N:=some 66) (v:=?_) (a':=?_) #[true,true,true,true,true,true,true,true,true,true,true,true,true,true,false] rfl rfl (any_of HT_.out (by kernel_rfl)) (fun _ _ _ h=>h) (Or.inl ⟨by rfl,?_⟩) ?_ ?_
                      rotate_left
                      ·intro w'
                       go_simp
                       with_reducible rfl
                      rotate_left
                      ·simp only[Act.put,List.setIfInBounds_toArray,List.set_cons_zero,List.set_cons_succ,i64_w,i32_w]
                       rfl
                      refine last_ (i:=14) (N:=none) #[true,true,true,true,true,true,true,true,true,true,true,true,true,true,true] rfl rfl (one_of HT_.out (by kernel_rfl)) (by decide) (fun K hK=>?_)
                      refine skip_ (w1:=?_) (by rfl) rfl ?_ ?_
                      rotate_left
                      ·go_simp
                       rfl
                      refine hK.out _ _ ?_
                      clear hK K
                      refine done_ (done_of HT_.out (by kernel_rfl)) ?_
                      obtain⟨adN_,eN_,hxN_⟩:=Kd.at_int (Kd.R_reads' (Kd.R_mono (Kd.R_far (p:=⟨go12,((rd aG aC):Int).toNat,none⟩) (Kd.R_mono aW.out (fun k_ hk=>(⟨hk,fun e_=>hk.1 (by rw[e_];rfl)⟩:_∧k_≠go12))) (fun _ hk=>hk.2) (.int .i64 (wrap64 ((rd aM (rd aI aE))+1)))) (fun _ h_=>h_.1))).2.2 aC (of_decide_eq_true (by first|(with_reducible assumption)|assumption)) (of_decide_eq_true (by first|(with_reducible assumption)|assumption));cases eN_
                      try go_wp2_with (first|((with_reducible refine gate_builtin (b:=.append) (xs:=#[.tmp 67,.tmp 72]) rfl ?_);at_builtin;refine Kd.R_append (Kd.int .i64) (w0:=w) w.heap.size rfl (.tmp 67) (.tmp 72) 24 3 (.int .i64 0) 8 rfl Tryd.underlying24 info3 rfl (by decide) (by omega) (.slice (some ad157) aI.length co37) aI (rd aG aC) [.int .i64 (rd aG aC)] (fun k_=>some k_≠(.slice (some ⟨go12,0,none⟩) aM.length bG:Value).ownBlock∧some k_≠(.slice (some ad154) aG.length co35:Value).ownBlock) (fun _=>False) rfl (by first|(go_simp;done)|(go_simp;rfl)) ?aP (fun _ hk=>hk.elim) ?aF ?aO ?aB ?aS ?aL ?_;(case aP=>exact rfl);(case aB=>exact(by repeat (first|(with_reducible first|exact HB.out|apply below_alloc|apply pw_below_drewN|apply below_drew1|refine below_set ?_ GB12.out|refine below_set ?_ aR.out)|exact HB.out)));(case aF=>exact(fun k_ hk=>⟨Kd.fresh' (Kd.R_lt (by(with_reducible repeat (first|apply Kd.R_alloc|apply Kd.R_drewN|apply Kd.R_drew));exact HQ38.out)) k_ hk,Kd.fresh' (Kd.R_lt (by(with_reducible repeat (first|apply Kd.R_alloc|apply Kd.R_drewN|apply Kd.R_drew));exact(Kd.R_mono (Kd.R_far (p:=⟨go12,((rd aG aC):Int).toNat,none⟩) (Kd.R_mono aW.out (fun k_ hk=>(⟨hk,fun e_=>hk.1 (by rw[e_];rfl)⟩:_∧k_≠go12))) (fun _ hk=>hk.2) (.int .i64 (wrap64 ((rd aM (rd aI aE))+1)))) (fun _ h_=>h_.1)))) k_ hk⟩));(case aO=>exact(by(with_reducible repeat (first|apply Kd.R_alloc|apply Kd.R_drewN|apply Kd.R_drew));exact Kd.R_mono (Kd.R_far (p:=⟨go12,((rd aG aC):Int).toNat,none⟩) (Kd.R_mono aN.out (fun k_ hk=>(⟨hk,fun e_=>hk.1 (by rw[e_];rfl)⟩:_∧k_≠go12))) (fun _ hk=>hk.2) (.int .i64 (wrap64 ((rd aM (rd aI aE))+1)))) (fun _ hk=>⟨hk.1.1,hk.1.2⟩)));(case aS=>exact(below_size (by repeat (first|(with_reducible first|exact HB.out|apply below_alloc|apply pw_below_drewN|apply below_drew1|refine below_set ?_ GB12.out|refine below_set ?_ aR.out)|exact HB.out))));(case aL=>have:=LMc34.out;omega);intro v161 bZ ho hb hg hat;rw[←Ny160.out] at ho;have aV:=zA (Kd.R_after (ok:=(fun k_=>some k_≠(.slice (some ad154) aG.length co35:Value).ownBlock)) (by(with_reducible repeat (first|apply Kd.R_alloc|apply Kd.R_drewN|apply Kd.R_drew));exact Kd.R_mono HQ38.out (fun _ hk=>⟨hk.2,hk.1⟩)) hg hat);have aU:=zA (Kd.R_after (ok:=(fun k_=>some k_≠(.slice (some ⟨go12,0,none⟩) aM.length bG:Value).ownBlock)) (by(with_reducible repeat (first|apply Kd.R_alloc|apply Kd.R_drewN|apply Kd.R_drew));exact Kd.R_mono (Kd.R_far (p:=⟨go12,((rd aG aC):Int).toNat,none⟩) (Kd.R_mono aW.out (fun k_ hk=>(⟨hk,fun e_=>hk.1 (by rw[e_];rfl)⟩:_∧k_≠go12))) (fun _ hk=>hk.2) (.int .i64 (wrap64 ((rd aM (rd aI aE))+1)))) (fun _ hk=>⟨hk.1.1,hk.1.2⟩)) hg hat);have aT:=zA (blk_grown (g:=aQ) (o:=.cells #[.int .i64 aK,.int .i64 aJ,.slice aY aH.length aX] 26 (0,0)) (by(with_reducible repeat (first|refine blk_drewN ?_ _|refine blk_drew ?_|refine blk_alloc ?_ _));refine blk_far ?_ (by have h_:=Kd.R_ne aD.out aA.out (by decide);intro e_;exact h_ (by rw[e_];rfl)) _;(with_reducible repeat (first|refine blk_drewN ?_ _|refine blk_drew ?_|refine blk_alloc ?_ _));exact aA.out) hg (Kd.R_ne aN.out aA.out (by decide)));have bA:=zA hb;have bH:=zA ho;clear aD;clear aW;clear aA;clear HB;clear aN;have aD:=aV;have aW:=aU;have aA:=aT;have HB:=bA;have bU:=bH;clear aV aU aT bA bH;clear ho hb hg hat))
                      (try simp only[←hl5_3])
                      go_roundg k3
                      case measure=>have:=HK1.out;have:=HK2.out;have:=HK3.out;omega
                      case rel=>exact⟨(y159),(y160),(wrap64 (aC+1)),(by first|rfl|(simp;done)|(simp[*];done)),H',⟨by have:=HK1.out;have:=HK2.out;have:=HK3.out;omega⟩,⟨by(try simp only[hl5_2]);(try simp only[hl5_3]);(with_reducible repeat (first|apply Kd.R_alloc|apply Kd.R_drewN|apply Kd.R_drew));exact Kd.R_mono aD.out (fun _ hk=>⟨hk.2,hk.1⟩)⟩,⟨by(try simp only[hl5_2]);(try simp only[hl5_3]);(with_reducible repeat (first|apply Kd.R_alloc|apply Kd.R_drewN|apply Kd.R_drew));exact bU.out⟩,⟨by(try simp only[hl5_2]);(try simp only[hl5_3]);(with_reducible repeat (first|apply Kd.R_alloc|apply Kd.R_drewN|apply Kd.R_drew));exact aW.out⟩,⟨by(try simp only[hl5_2]);(try simp only[hl5_3]);(with_reducible repeat (first|refine blk_drewN ?_ _|refine blk_drew ?_|refine blk_alloc ?_ _));exact aA.out⟩,⟨by repeat (first|(with_reducible first|exact HB.out|apply below_alloc|apply pw_below_drewN|apply below_drew1|refine below_set ?_ aR.out)|exact HB.out)⟩⟩
                     ·rw[if_neg c34] at H
                      exact absurd H (by simp)
                    ·rw[if_neg c32] at H
                     exact absurd H (by simp)
                   ·rw[if_neg c31] at H
                    exact absurd H (by simp)
                  ·rw[if_neg c30] at H
                   exact absurd H (by simp)
                 ·rw[if_neg c29] at H
                  exact absurd H (by simp)
                ·rw[if_neg c28] at H
                 have bS:decide ((rd aM (rd aG aC))<0)=false:=decide_eq_false c28
                 clear c28
                 have H':=zA H
                 clear H
                 obtain⟨Ao40,co40,eo40⟩:=Kd.R_slice aW.out
                 subst eo40
                 have p154:0≤(aC:Int):=of_decide_eq_true (by first|(with_reducible assumption)|assumption)
                 have q154:aC<(aG.length:Int):=of_decide_eq_true (by first|(with_reducible assumption)|assumption)
                 obtain⟨ad154,e154,hx154_0⟩:=Kd.at_int (Kd.R_reads' aW.out).2.2 aC p154 q154
                 cases e154
                 replace p154:=eq_true p154
                 replace q154:=eq_true q154
                 have p155:0≤((rd aG aC):Int):=of_decide_eq_true (by first|(with_reducible assumption)|assumption)
                 have q155:(rd aG aC)<(aM.length:Int):=of_decide_eq_true (by first|(with_reducible assumption)|assumption)
                 obtain⟨ad155,e155,hx155_0⟩:=Kd.at_int (Kd.R_reads' aD.out).2.2 (rd aG aC) p155 q155
                 obtain rfl:(⟨go12,0,none⟩:Addr)=ad155:=(by injection e155)
                 (first|simp only[add_plain] at hx155_0|simp only[add_at] at hx155_0|simp only[Addr.add,Nat.zero_add] at hx155_0|skip)
                 replace p155:=eq_true p155
                 replace q155:=eq_true q155
                 go_wp2
                 (try simp only[←hl5_3])
                 go_roundg k3
                 case measure=>have:=HK1.out;have:=HK2.out;have:=HK3.out;omega
                 case rel=>exact⟨(aM),(aI),(wrap64 (aC+1)),(by first|rfl|(simp;done)|(simp[*];done)),H',⟨by have:=HK1.out;have:=HK2.out;have:=HK3.out;omega⟩,⟨by(try simp only[hl5_2]);(try simp only[hl5_3]);(with_reducible repeat (first|apply Kd.R_alloc|apply Kd.R_drewN|apply Kd.R_drew));exact aD.out⟩,⟨by(try simp only[hl5_2]);(try simp only[hl5_3]);(with_reducible repeat (first|apply Kd.R_alloc|apply Kd.R_drewN|apply Kd.R_drew));exact aN.out⟩,⟨by(try simp only[hl5_2]);(try simp only[hl5_3]);(with_reducible repeat (first|apply Kd.R_alloc|apply Kd.R_drewN|apply Kd.R_drew));exact aW.out⟩,⟨by(try simp only[hl5_2]);(try simp only[hl5_3]);(with_reducible repeat (first|refine blk_drewN ?_ _|refine blk_drew ?_|refine blk_alloc ?_ _));exact aA.out⟩,⟨by repeat (first|(with_reducible first|exact HB.out|apply below_alloc|apply pw_below_drewN|apply below_drew1|refine below_set ?_ aR.out)|exact HB.out)⟩⟩
               ·rw[if_neg c27] at H
                exact absurd H (by simp)
              ·rw[if_neg c26] at H
               exact absurd H (by simp)
             ·rw[if_neg c25] at H
              exact absurd H (by simp)
            ·rw[if_neg c24] at H
             have bT:decide (aC<(aG.length:Int))=false:=decide_eq_false c24
             clear c24
             have H':=zA H
             clear H
             obtain⟨Ao41,co41,eo41⟩:=Kd.R_slice aW.out
             subst eo41
             go_wp2
             (try simp only[←hl5_2,←hl5_3])
             go_roundg k3
             case measure=>have:=HK1.out;have:=HK2.out;have:=HK3.out;omega
             case rel=>exact⟨(aM),(aI),(wrap64 (aE+1)),(by first|rfl|(simp;done)|(simp[*];done)),H',⟨by have:=HK1.out;have:=HK2.out;have:=HK3.out;omega⟩,⟨by(try simp only[hl5_2]);(try simp only[hl5_3]);(with_reducible repeat (first|apply Kd.R_alloc|apply Kd.R_drewN|apply Kd.R_drew));exact Kd.R_mono aD.out (fun _ hk=>hk.1)⟩,⟨by(try simp only[hl5_2]);(try simp only[hl5_3]);(with_reducible repeat (first|apply Kd.R_alloc|apply Kd.R_drewN|apply Kd.R_drew));exact Kd.R_mono aN.out (fun _ hk=>hk.1)⟩,⟨by(try simp only[hl5_2]);(try simp only[hl5_3]);(with_reducible repeat (first|refine blk_drewN ?_ _|refine blk_drew ?_|refine blk_alloc ?_ _));exact aA.out⟩,⟨by repeat (first|(with_reducible first|exact HB.out|apply below_alloc|apply pw_below_drewN|apply below_drew1|refine below_set ?_ aR.out)|exact HB.out)⟩⟩
         ·rw[if_neg c19] at H
          exact absurd H (by simp)
        ·rw[if_neg c18] at H
         have bP:decide (aE<(bB.length:Int))=false:=decide_eq_false c18
         clear c18
         obtain rfl:=zI H
         obtain⟨Ao42,co42,eo42⟩:=Kd.R_slice aN.out
         subst eo42
         go_wp2
         go_ret
         exact⟨_,zE,by(with_reducible repeat (first|apply Kd.R_alloc|apply Kd.R_drewN|apply Kd.R_drew));exact Kd.R_mono aD.out (fun _ hk=>trivial),by repeat (first|(with_reducible first|exact HB.out|apply below_alloc|apply pw_below_drewN|apply below_drew1|refine below_set ?_ aR.out)|exact HB.out)⟩
     ·rw[if_neg c11] at H
      exact absurd H (by simp)
    ·rw[if_neg c10] at H
     exact absurd H (by simp)

def spec_IsOpen.f (k:Nat) (a0_0:Int) (a0_1:Int) (l0_2:List Int) (a1:Int):Option (Bool):=(spec_IsCell.f k a0_0 a0_1 l0_2 a1).bind fun t354=>(if t354=true then(if 0≤a1 then(if a1<(l0_2.length:Int) then(some ((rd l0_2 a1) != 2)) else(none)) else(none)) else(some false))
theorem spec_IsOpen.calls (k:Nat) (aE:Int) (aD:Int) (aH:Option Addr) (aG:Nat) (aA:List Int) (a1:Int) (r:Bool) (w:World) (aM:Kd.C (Kd.int .i64) w aH aA.length aA) (aN:aA.length≤aG) (h:spec_IsOpen.f k aE aD aA a1=some r) :
  Calls Tryd.prog 67 #[.agg #[.int .i64 aE,.int .i64 aD,.slice aH aA.length aG],.int .i64 a1] w fun e w'=>e=.returned (.bool r)∧Below w.heap.size w w':=by
 have hu26:=Tryd.underlying26;have aK:=zA aM;have aQ:=zA aN;clear aM aN;have HB:=zA (Below.refl w.heap.size w);have H:=h;clear h;unfold spec_IsOpen.f at H;obtain⟨aV,A3,H⟩:=zB H
 by_cases c4:aV=true
 ·subst c4;rw[if_pos rfl] at H;obtain⟨bU,H⟩:=zifD H;obtain⟨bT,H⟩:=zifD H;obtain rfl:=zI H;go_enter Tryd.func67,Tryd.ntmps67
  go_wp2_with (first|((with_reducible refine zgd 2 rfl ?_);refine zbx 2 #[.int .i64 aE,.int .i64 aD,.slice aH aA.length aG] 26 ?_;intro aR hg w7 hbox hb;have aC:=zA hbox;have aU:=zga (w:=w) hg;replace HB:=zbs hb;clear hb hbox hg;obtain⟨bO,bN,bM,bL,bK,bJ⟩:=ze3 aC)|((with_reducible refine zgf 42 rfl ?_);refine goesL_ (some 7) rfl rfl Tryd.func42 (by kernel_rfl) rfl #[.agg #[.int .i64 aE,.int .i64 aD,.slice aH aA.length aG],.int .i64 a1] rfl zm ?_;(with_reducible refine(spec_IsCell.calls k aE aD _ _ aA a1 true _ ?s1 ?s2 A3.out).mono ?_);(case s1=>exact zCb aK);(case s2=>exact aQ.out);rintro e w9 ⟨rfl,hb⟩;refine⟨_,rfl,?_⟩;replace aC:=zkb aC hb;replace HB:=zbs hb;(try clear hb);obtain⟨bI,bH,bG,bC,bB,bA⟩:=ze3 aC;have bS:=zT (0≤(a1:Int));have bR:=zT (a1<(aA.length:Int));obtain⟨bQ,aW,aI⟩:=Kd.at_int aK.out a1 zd zd;cases aW;replace aI:=zC HB aI))
  go_ret;exact⟨zE,zb⟩
 ·replace c4:=Bool.eq_false_iff.mpr c4;subst c4;rw[if_neg zNo] at H;obtain rfl:=zI H;go_enter Tryd.func67,Tryd.ntmps67
  go_wp2_with (first|((with_reducible refine zgd 2 rfl ?_);refine zbx 2 #[.int .i64 aE,.int .i64 aD,.slice aH aA.length aG] 26 ?_;intro aR hg bW hbox hb;have aC:=zA hbox;have aU:=zga (w:=w) hg;replace HB:=zbs hb;clear hb hbox hg;obtain⟨bF,bE,bD,aZ,aY,aX⟩:=ze3 aC)|((with_reducible refine zgf 42 rfl ?_);refine goesL_ (some 7) rfl rfl Tryd.func42 (by kernel_rfl) rfl #[.agg #[.int .i64 aE,.int .i64 aD,.slice aH aA.length aG],.int .i64 a1] rfl zm ?_;(with_reducible refine(spec_IsCell.calls k aE aD _ _ aA a1 false _ ?s1 ?s2 A3.out).mono ?_);(case s1=>exact zCb aK);(case s2=>exact aQ.out);rintro e bV ⟨rfl,hb⟩;refine⟨_,rfl,?_⟩;replace aC:=zkb aC hb;replace HB:=zbs hb;(try clear hb)))
  go_ret;exact⟨zE,zb⟩

def spec_Days.f (k:Nat) (a0_0:Int) (a0_1:Int) (l0_2:List Int) (a1:Int) (a2:Int):Option (Int):=(spec_IsOpen.f k a0_0 a0_1 l0_2 a1).bind fun t357=>(if t357=true then((spec_IsOpen.f k a0_0 a0_1 l0_2 a2).bind fun t358=>(if t358=true then((spec_l5From.f k a0_0 a0_1 l0_2 a1).bind fun t359=>(if 0≤a2 then(if a2<(t359.length:Int) then(some (rd t359 a2)) else(none)) else(none))) else(some (-1)))) else(some (-1)))
theorem spec_Days.calls (k:Nat) (aE:Int) (aD:Int) (aH:Option Addr) (aG:Nat) (aC:List Int) (a1:Int) (a2:Int) (r:Int) (w:World) (aN:Kd.C (Kd.int .i64) w aH aC.length aC) (aQ:aC.length≤aG) (h:spec_Days.f k aE aD aC a1 a2=some r) :
  Calls Tryd.prog 57 #[.agg #[.int .i64 aE,.int .i64 aD,.slice aH aC.length aG],.int .i64 a1,.int .i64 a2] w fun e w'=>e=.returned (.int .i64 r)∧Below w.heap.size w w':=by
 have hu26:=Tryd.underlying26;have aI:=zA aN;have aJ:=zA aQ;clear aN aQ;have HB:=zA (Below.refl w.heap.size w);have H:=h;clear h;unfold spec_Days.f at H;obtain⟨aZ,A4,H⟩:=zB H
 by_cases c5:aZ=true
 ·subst c5;rw[if_pos rfl] at H;obtain⟨aY,A6,H⟩:=zB H
  by_cases c7:aY=true
  ·subst c7;rw[if_pos rfl] at H;obtain⟨aV,A8,H⟩:=zB H;obtain⟨cU,H⟩:=zifD H;obtain⟨cP,H⟩:=zifD H;obtain rfl:=zI H;go_enter Tryd.func57,Tryd.ntmps57
   go_wp2_with (first|((with_reducible refine zgd 3 rfl ?_);refine zbx 3 #[.int .i64 aE,.int .i64 aD,.slice aH aC.length aG] 26 ?_;intro aR hg dF hbox hb;have aA:=zA hbox;have aU:=zga (w:=w) hg;replace HB:=zbs hb;clear hb hbox hg;obtain⟨cN,cM,cL,bV,bU,bT⟩:=ze3 aA)|((with_reducible refine zgf 67 rfl ?_);refine goesL_ (some 9) rfl rfl Tryd.func67 (by kernel_rfl) rfl #[.agg #[.int .i64 aE,.int .i64 aD,.slice aH aC.length aG],.int .i64 a1] rfl zm ?_;(with_reducible refine(spec_IsOpen.calls k aE aD _ _ aC a1 true _ ?s1 ?s2 A4.out).mono ?_);(case s1=>exact zCb aI);(case s2=>exact aJ.out);rintro e dE ⟨rfl,hb⟩;refine⟨_,rfl,?_⟩;replace aA:=zkb aA hb;replace HB:=zbs hb;(try clear hb);obtain⟨cK,cJ,cI,bS,bR,bQ⟩:=ze3 aA)|(go_at_call 67;(with_reducible refine(spec_IsOpen.calls k aE aD _ _ aC a2 true _ ?s1 ?s2 A6.out).mono ?_);(case s1=>exact zCb aI);(case s2=>exact aJ.out);rintro e dD ⟨rfl,hb⟩;replace aA:=zkb aA hb;replace HB:=zbs hb;(try clear hb);obtain⟨cH,cG,cF,bP,bO,bN⟩:=ze3 aA)|((with_reducible refine zgf 58 rfl ?_);refine goesL_ (some 19) rfl rfl Tryd.func58 (by kernel_rfl) rfl #[.agg #[.int .i64 aE,.int .i64 aD,.slice aH aC.length aG],.int .i64 a1] rfl zm ?_;(with_reducible refine(spec_l5From.calls k aE aD _ _ aC a1 aV _ ?s1 ?s2 A8.out).mono ?_);(case s1=>exact zCb aI);(case s2=>exact aJ.out);rintro e dC ⟨v360,rfl,ho0,hb⟩;refine⟨_,rfl,?_⟩;have aT:=zA (Kd.R_lower ho0 (below_size zb));replace aA:=zkb aA hb;replace HB:=zbs hb;(try clear hb);(try clear ho0);obtain⟨cV,cT,bA⟩:=Kd.R_slice aT.out;subst bA;have cS:=zT (0≤(a2:Int));have cR:=zT (a2<(aV.length:Int));obtain⟨cQ,bB,bD⟩:=Kd.at_int (Kd.R_reads' aT.out).2.2 a2 zd zd;cases bB))
   go_ret;exact⟨zE,zb⟩
  ·replace c7:=Bool.eq_false_iff.mpr c7;subst c7;rw[if_neg zNo] at H;obtain rfl:=zI H;go_enter Tryd.func57,Tryd.ntmps57
   go_wp2_with (first|((with_reducible refine zgd 3 rfl ?_);refine zbx 3 #[.int .i64 aE,.int .i64 aD,.slice aH aC.length aG] 26 ?_;intro aR hg dB hbox hb;have aA:=zA hbox;have aU:=zga (w:=w) hg;replace HB:=zbs hb;clear hb hbox hg;obtain⟨cE,cD,cC,bM,bL,bK⟩:=ze3 aA)|((with_reducible refine zgf 67 rfl ?_);refine goesL_ (some 9) rfl rfl Tryd.func67 (by kernel_rfl) rfl #[.agg #[.int .i64 aE,.int .i64 aD,.slice aH aC.length aG],.int .i64 a1] rfl zm ?_;(with_reducible refine(spec_IsOpen.calls k aE aD _ _ aC a1 true _ ?s1 ?s2 A4.out).mono ?_);(case s1=>exact zCb aI);(case s2=>exact aJ.out);rintro e dA ⟨rfl,hb⟩;refine⟨_,rfl,?_⟩;replace aA:=zkb aA hb;replace HB:=zbs hb;(try clear hb);obtain⟨cB,cA,bZ,bJ,bI,bH⟩:=ze3 aA)|(go_at_call 67;(with_reducible refine(spec_IsOpen.calls k aE aD _ _ aC a2 false _ ?s1 ?s2 A6.out).mono ?_);(case s1=>exact zCb aI);(case s2=>exact aJ.out);rintro e cZ ⟨rfl,hb⟩;replace aA:=zkb aA hb;replace HB:=zbs hb;(try clear hb)))
   go_ret;exact⟨zE,zb⟩
 ·replace c5:=Bool.eq_false_iff.mpr c5;subst c5;rw[if_neg zNo] at H;obtain rfl:=zI H;go_enter Tryd.func57,Tryd.ntmps57
  go_wp2_with (first|((with_reducible refine zgd 3 rfl ?_);refine zbx 3 #[.int .i64 aE,.int .i64 aD,.slice aH aC.length aG] 26 ?_;intro aR hg cY hbox hb;have aA:=zA hbox;have aU:=zga (w:=w) hg;replace HB:=zbs hb;clear hb hbox hg;obtain⟨bY,bX,bW,bG,bF,bE⟩:=ze3 aA)|((with_reducible refine zgf 67 rfl ?_);refine goesL_ (some 9) rfl rfl Tryd.func67 (by kernel_rfl) rfl #[.agg #[.int .i64 aE,.int .i64 aD,.slice aH aC.length aG],.int .i64 a1] rfl zm ?_;(with_reducible refine(spec_IsOpen.calls k aE aD _ _ aC a1 false _ ?s1 ?s2 A4.out).mono ?_);(case s1=>exact zCb aI);(case s2=>exact aJ.out);rintro e cX ⟨rfl,hb⟩;refine⟨_,rfl,?_⟩;replace aA:=zkb aA hb;replace HB:=zbs hb;(try clear hb)))
  go_ret;exact⟨zE,zb⟩

mutual
def spec_WayTo.l0:Nat→Int→Int→List Int→List Int→Int→Int→List Int→Option (List Int)
  |0,_,_,_,_,_,_,_=>none
  |k+1,x1,x2,x7,x8,x364000,x364001,x364002=>if x1=x2 then(some x7) else((spec_l4Near.f k x364000 x364001 x364002 x1).bind fun t374=>(spec_WayTo.l1 k x1 x2 x7 x8 t374 (wrap64 ((t374.length:Int)-1)) x364000 x364001 x364002))
def spec_WayTo.l1:Nat→Int→Int→List Int→List Int→List Int→Int→Int→Int→List Int→Option (List Int)
  |0,_,_,_,_,_,_,_,_,_=>none
  |k+1,x1,x2,x7,x8,x9,x10,x364000,x364001,x364002=>if x10≥0 then(if 0≤x10 then(if x10<(x9.length:Int) then(if 0≤(rd x9 x10) then(if (rd x9 x10)<(x8.length:Int) then(if 0≤(wrap64 ((x7.length:Int)-1)) then(if (wrap64 ((x7.length:Int)-1))<(x7.length:Int) then(if 0≤(rd x7 (wrap64 ((x7.length:Int)-1))) then(if (rd x7 (wrap64 ((x7.length:Int)-1)))<(x8.length:Int) then(if (rd x8 (rd x9 x10))=(wrap64 ((rd x8 (rd x7 (wrap64 ((x7.length:Int)-1))))-1)) then(spec_WayTo.l1 k (rd x9 x10) x2 x7 x8 x9 (wrap64 (x10-1)) x364000 x364001 x364002) else(spec_WayTo.l1 k x1 x2 x7 x8 x9 (wrap64 (x10-1)) x364000 x364001 x364002)) else(none)) else(none)) else(none)) else(none)) else(none)) else(none)) else(none)) else(none)) else(if x7.length<17592186044416 then(spec_WayTo.l0 k x1 x2 (x7++[x1]) x8 x364000 x364001 x364002) else(none))
end
def spec_WayTo.f (k:Nat) (a0_0:Int) (a0_1:Int) (l0_2:List Int) (a1:Int) (a2:Int):Option (List Int):=(some (([]:List Int):List Int)).bind fun y364=>((spec_Days.f k a0_0 a0_1 l0_2 a1 a2).bind fun t367=>(if t367<0 then(some y364) else((spec_l5From.f k a0_0 a0_1 l0_2 a2).bind fun t368=>(if y364.length<17592186044416 then(spec_WayTo.l0 k a1 a2 (y364++[a1]) t368 a0_0 a0_1 l0_2) else(none)))))
theorem spec_WayTo.calls (k:Nat) (aI:Int) (aH:Int) (bA:Option Addr) (aZ:Nat) (aE:List Int) (a1:Int) (a2:Int) (r:List Int) (w:World) (cP:Kd.C (Kd.int .i64) w bA aE.length aE) (cQ:aE.length≤aZ) (h:spec_WayTo.f k aI aH aE a1 a2=some r) :
  Calls Tryd.prog 45 #[.agg #[.int .i64 aI,.int .i64 aH,.slice bA aE.length aZ],.int .i64 a1,.int .i64 a2] w fun e w'=>∃ v0_:Value,e=.returned (v0_)∧Kd.R (Kd.int .i64) 3 w' w.heap.size (fun _=>True) v0_ r∧Below w.heap.size w w':=by
 have hu26:=Tryd.underlying26;have aR:=zA cP;have aU:=zA cQ;clear cP cQ;have HB:=zA (Below.refl w.heap.size w);have H:=h;clear h;unfold spec_WayTo.f at H;obtain⟨bT,cE⟩:∃ y_:List Int,y_=(([]:List Int)):=⟨_,rfl⟩
 replace H:((spec_Days.f k aI aH aE a1 a2).bind fun bC=>(if bC<0 then(some bT) else((spec_l5From.f k aI aH aE a2).bind fun aJ=>(if bT.length<17592186044416 then(spec_WayTo.l0 k a1 a2 (bT++[a1]) aJ aI aH aE) else(none)))))=some r:=zY cE H
 have Ny364:=zA cE;clear cE;obtain⟨bC,A4,H⟩:=zB H
 by_cases c5:bC<0
 ·rw[if_pos c5] at H;have cO:=decide_eq_true c5;clear c5;obtain rfl:=zI H;go_enter Tryd.func45,Tryd.ntmps45
  go_wp2_with (first|((with_reducible refine zgd 3 rfl ?_);refine zbx 3 #[.int .i64 aI,.int .i64 aH,.slice bA aE.length aZ] 26 ?_;intro bD hg w6 hbox hb;have aA:=zA hbox;have cA:=zga (w:=w) hg;replace HB:=zbs hb;clear hb hbox hg)|((with_reducible refine zgd 11 rfl ?_);refine Kd.R_lit (Kd.int .i64) _ 3 ?hg (N:=11) ?hd (xs:=([]:List Int)) (inner:=[]) (ok:=fun _=>True) (okp:=fun _=>True) ?hr ?hp (fun _ hk=>hk) trivial (Below.refl _ _) (Nat.le_refl _) (by simp) ?_;(case hd=>rfl);(case hg=>rfl);(case hr=>first|(go_simp;done)|(go_simp;rfl));(case hp=>exact(Reps.none _ _));intro v365 w7 ho8 hb hg_ hnew_;clear hg_ hnew_;(first|rw[←Ny364.out] at ho8|(simp only[Int.reduceToNat] at ho8;rw[←Ny364.out] at ho8));have aC:=zA (Kd.R_lower ho8 (below_size zb));replace aA:=zkb aA hb;replace HB:=zbs hb;clear hb ho8;obtain⟨bZ,bY,bX,bW,bV,bU⟩:=ze3 aA)|(go_at_call 57;(with_reducible refine(spec_Days.calls k aI aH _ _ aE a1 a2 bC _ ?s1 ?s2 A4.out).mono ?_);(case s1=>exact zCb aR);(case s2=>exact aU.out);rintro e dW ⟨rfl,hb⟩;replace aC:=zRb aC hb;replace aA:=zkb aA hb;replace HB:=zbs hb;(try clear hb)))
  repeat (go_quiet (first|((with_reducible refine zgd 3 rfl ?_);refine zbx 3 #[.int .i64 aI,.int .i64 aH,.slice bA aE.length aZ] 26 ?_;intro bD hg w6 hbox hb;have aA:=zA hbox;have cA:=zga (w:=w) hg;replace HB:=zbs hb;clear hb hbox hg)|((with_reducible refine zgd 11 rfl ?_);refine Kd.R_lit (Kd.int .i64) _ 3 ?hg (N:=11) ?hd (xs:=([]:List Int)) (inner:=[]) (ok:=fun _=>True) (okp:=fun _=>True) ?hr ?hp (fun _ hk=>hk) trivial (Below.refl _ _) (Nat.le_refl _) (by simp) ?_;(case hd=>rfl);(case hg=>rfl);(case hr=>first|(go_simp;done)|(go_simp;rfl));(case hp=>exact(Reps.none _ _));intro v365 w7 ho8 hb hg_ hnew_;clear hg_ hnew_;(first|rw[←Ny364.out] at ho8|(simp only[Int.reduceToNat] at ho8;rw[←Ny364.out] at ho8));have aC:=zA (Kd.R_lower ho8 (below_size zb));replace aA:=zkb aA hb;replace HB:=zbs hb;clear hb ho8;obtain⟨bZ,bY,bX,bW,bV,bU⟩:=ze3 aA)|(go_at_call 57;(with_reducible refine(spec_Days.calls k aI aH _ _ aE a1 a2 bC _ ?s1 ?s2 A4.out).mono ?_);(case s1=>exact zCb aR);(case s2=>exact aU.out);rintro e dW ⟨rfl,hb⟩;replace aC:=zRb aC hb;replace aA:=zkb aA hb;replace HB:=zbs hb;(try clear hb)));try go_wp2_with (first|((with_reducible refine zgd 3 rfl ?_);refine zbx 3 #[.int .i64 aI,.int .i64 aH,.slice bA aE.length aZ] 26 ?_;intro bD hg w6 hbox hb;have aA:=zA hbox;have cA:=zga (w:=w) hg;replace HB:=zbs hb;clear hb hbox hg)|((with_reducible refine zgd 11 rfl ?_);refine Kd.R_lit (Kd.int .i64) _ 3 ?hg (N:=11) ?hd (xs:=([]:List Int)) (inner:=[]) (ok:=fun _=>True) (okp:=fun _=>True) ?hr ?hp (fun _ hk=>hk) trivial (Below.refl _ _) (Nat.le_refl _) (by simp) ?_;(case hd=>rfl);(case hg=>rfl);(case hr=>first|(go_simp;done)|(go_simp;rfl));(case hp=>exact(Reps.none _ _));intro v365 w7 ho8 hb hg_ hnew_;clear hg_ hnew_;(first|rw[←Ny364.out] at ho8|(simp only[Int.reduceToNat] at ho8;rw[←Ny364.out] at ho8));have aC:=zA (Kd.R_lower ho8 (below_size zb));replace aA:=zkb aA hb;replace HB:=zbs hb;clear hb ho8;obtain⟨bZ,bY,bX,bW,bV,bU⟩:=ze3 aA)|(go_at_call 57;(with_reducible refine(spec_Days.calls k aI aH _ _ aE a1 a2 bC _ ?s1 ?s2 A4.out).mono ?_);(case s1=>exact zCb aR);(case s2=>exact aU.out);rintro e dW ⟨rfl,hb⟩;replace aC:=zRb aC hb;replace aA:=zkb aA hb;replace HB:=zbs hb;(try clear hb))))
  go_ret;exact⟨_,zE,zR aC,zb⟩
 ·rw[if_neg c5] at H;have cO:=decide_eq_false c5;clear c5;obtain⟨aJ,dK,H⟩:=zB H;obtain⟨cI,H⟩:=zifA H;obtain⟨dI,cD⟩:∃ y_:List Int,y_=(bT++[a1]):=⟨_,rfl⟩
  replace H:(spec_WayTo.l0 k a1 a2 dI aJ aI aH aE)=some r:=zY cD H
  have Ny371:=zA cD;clear cD;have H':=zA H;clear H;go_enter Tryd.func45,Tryd.ntmps45
  go_wp2_with (first|((with_reducible refine zgd 3 rfl ?_);refine zbx 3 #[.int .i64 aI,.int .i64 aH,.slice bA aE.length aZ] 26 ?_;intro bD hg dV hbox hb;have aA:=zA hbox;have cA:=zga (w:=w) hg;replace HB:=zbs hb;clear hb hbox hg)|((with_reducible refine zgd 11 rfl ?_);refine Kd.R_lit (Kd.int .i64) _ 3 ?hg (N:=11) ?hd (xs:=([]:List Int)) (inner:=[]) (ok:=fun _=>True) (okp:=fun _=>True) ?hr ?hp (fun _ hk=>hk) trivial (Below.refl _ _) (Nat.le_refl _) (by simp) ?_;(case hd=>rfl);(case hg=>rfl);(case hr=>first|(go_simp;done)|(go_simp;rfl));(case hp=>exact(Reps.none _ _));intro v365 dU ho15 hb hg_ hnew_;clear hg_ hnew_;(first|rw[←Ny364.out] at ho15|(simp only[Int.reduceToNat] at ho15;rw[←Ny364.out] at ho15));have aC:=zA (Kd.R_lower ho15 (below_size zb));replace aA:=zkb aA hb;replace HB:=zbs hb;clear hb ho15;obtain⟨bR,bQ,bP,bL,bK,bJ⟩:=ze3 aA)|(go_at_call 57;(with_reducible refine(spec_Days.calls k aI aH _ _ aE a1 a2 bC _ ?s1 ?s2 A4.out).mono ?_);(case s1=>exact zCb aR);(case s2=>exact aU.out);rintro e dT ⟨rfl,hb⟩;replace aC:=zRb aC hb;replace aA:=zkb aA hb;replace HB:=zbs hb;(try clear hb);obtain⟨bO,bN,bM,bI,bH,bG⟩:=ze3 aA)|(go_at_call 58;(with_reducible refine(spec_l5From.calls k aI aH _ _ aE a2 aJ _ ?s1 ?s2 dK.out).mono ?_);(case s1=>exact zCb aR);(case s2=>exact aU.out);rintro e dS ⟨v369,rfl,ho0,hb⟩;have aT:=zA (Kd.R_lower (Kd.R_new' ho0 (Kd.R_lt (zR aC))) (below_size zb));replace aC:=zA (Kd.R_elder' (zR aC) (Kd.R_base ho0) hb);replace aA:=zkb aA hb;replace HB:=zbs hb;(try clear hb);(try clear ho0))|((with_reducible refine gate_builtin (b:=.append) (xs:=#[.tmp 21,.tmp 23]) rfl ?_);at_builtin;refine Kd.R_append (Kd.int .i64) (w0:=w) w.heap.size rfl (.tmp 21) (.tmp 23) 24 3 (.int .i64 0) 8 rfl Tryd.underlying24 info3 rfl (by decide) (by omega) v365 bT a1 [.int .i64 a1] (fun k_=>some k_≠(v369:Value).ownBlock) (fun _=>False) rfl rfl ?aP (fun _ hk=>hk.elim) ?aF ?aO ?aB ?aS ?aL ?_;(case aP=>exact rfl);(case aB=>exact zb);(case aF=>exact(fun k_ hk=>Kd.fresh' (Kd.R_lt (zR aT)) k_ hk));(case aO=>exact(by(with_reducible repeat (first|apply Kd.R_alloc|apply Kd.R_drewN|apply Kd.R_drew));exact Kd.R_mono aC.out (fun _ hk=>hk.2)));(case aS=>exact(below_size zb));(case aL=>have:=cI.out;omega);intro v372 dR ho hb hg hat;rw[←Ny371.out] at ho;replace aA:=zgr aA hg (Kd.R_ne aC.out aA.out (by decide));replace aT:=zA (Kd.R_after (ok:=(fun _=>True)) (zR aT) hg hat);replace HB:=zA hb;have cJ:=zA ho;clear aC;clear ho hb hg hat))
  repeat (go_quiet (first|((with_reducible refine zgd 3 rfl ?_);refine zbx 3 #[.int .i64 aI,.int .i64 aH,.slice bA aE.length aZ] 26 ?_;intro bD hg dV hbox hb;have aA:=zA hbox;have cA:=zga (w:=w) hg;replace HB:=zbs hb;clear hb hbox hg)|((with_reducible refine zgd 11 rfl ?_);refine Kd.R_lit (Kd.int .i64) _ 3 ?hg (N:=11) ?hd (xs:=([]:List Int)) (inner:=[]) (ok:=fun _=>True) (okp:=fun _=>True) ?hr ?hp (fun _ hk=>hk) trivial (Below.refl _ _) (Nat.le_refl _) (by simp) ?_;(case hd=>rfl);(case hg=>rfl);(case hr=>first|(go_simp;done)|(go_simp;rfl));(case hp=>exact(Reps.none _ _));intro v365 dU ho15 hb hg_ hnew_;clear hg_ hnew_;(first|rw[←Ny364.out] at ho15|(simp only[Int.reduceToNat] at ho15;rw[←Ny364.out] at ho15));have aC:=zA (Kd.R_lower ho15 (below_size zb));replace aA:=zkb aA hb;replace HB:=zbs hb;clear hb ho15;obtain⟨bR,bQ,bP,bL,bK,bJ⟩:=ze3 aA)|(go_at_call 57;(with_reducible refine(spec_Days.calls k aI aH _ _ aE a1 a2 bC _ ?s1 ?s2 A4.out).mono ?_);(case s1=>exact zCb aR);(case s2=>exact aU.out);rintro e dT ⟨rfl,hb⟩;replace aC:=zRb aC hb;replace aA:=zkb aA hb;replace HB:=zbs hb;(try clear hb);obtain⟨bO,bN,bM,bI,bH,bG⟩:=ze3 aA)|(go_at_call 58;(with_reducible refine(spec_l5From.calls k aI aH _ _ aE a2 aJ _ ?s1 ?s2 dK.out).mono ?_);(case s1=>exact zCb aR);(case s2=>exact aU.out);rintro e dS ⟨v369,rfl,ho0,hb⟩;have aT:=zA (Kd.R_lower (Kd.R_new' ho0 (Kd.R_lt (zR aC))) (below_size zb));replace aC:=zA (Kd.R_elder' (zR aC) (Kd.R_base ho0) hb);replace aA:=zkb aA hb;replace HB:=zbs hb;(try clear hb);(try clear ho0))|((with_reducible refine gate_builtin (b:=.append) (xs:=#[.tmp 21,.tmp 23]) rfl ?_);at_builtin;refine Kd.R_append (Kd.int .i64) (w0:=w) w.heap.size rfl (.tmp 21) (.tmp 23) 24 3 (.int .i64 0) 8 rfl Tryd.underlying24 info3 rfl (by decide) (by omega) v365 bT a1 [.int .i64 a1] (fun k_=>some k_≠(v369:Value).ownBlock) (fun _=>False) rfl rfl ?aP (fun _ hk=>hk.elim) ?aF ?aO ?aB ?aS ?aL ?_;(case aP=>exact rfl);(case aB=>exact zb);(case aF=>exact(fun k_ hk=>Kd.fresh' (Kd.R_lt (zR aT)) k_ hk));(case aO=>exact(by(with_reducible repeat (first|apply Kd.R_alloc|apply Kd.R_drewN|apply Kd.R_drew));exact Kd.R_mono aC.out (fun _ hk=>hk.2)));(case aS=>exact(below_size zb));(case aL=>have:=cI.out;omega);intro v372 dR ho hb hg hat;rw[←Ny371.out] at ho;replace aA:=zgr aA hg (Kd.R_ne aC.out aA.out (by decide));replace aT:=zA (Kd.R_after (ok:=(fun _=>True)) (zR aT) hg hat);replace HB:=zA hb;have cJ:=zA ho;clear aC;clear ho hb hg hat));try go_wp2_with (first|((with_reducible refine zgd 3 rfl ?_);refine zbx 3 #[.int .i64 aI,.int .i64 aH,.slice bA aE.length aZ] 26 ?_;intro bD hg dV hbox hb;have aA:=zA hbox;have cA:=zga (w:=w) hg;replace HB:=zbs hb;clear hb hbox hg)|((with_reducible refine zgd 11 rfl ?_);refine Kd.R_lit (Kd.int .i64) _ 3 ?hg (N:=11) ?hd (xs:=([]:List Int)) (inner:=[]) (ok:=fun _=>True) (okp:=fun _=>True) ?hr ?hp (fun _ hk=>hk) trivial (Below.refl _ _) (Nat.le_refl _) (by simp) ?_;(case hd=>rfl);(case hg=>rfl);(case hr=>first|(go_simp;done)|(go_simp;rfl));(case hp=>exact(Reps.none _ _));intro v365 dU ho15 hb hg_ hnew_;clear hg_ hnew_;(first|rw[←Ny364.out] at ho15|(simp only[Int.reduceToNat] at ho15;rw[←Ny364.out] at ho15));have aC:=zA (Kd.R_lower ho15 (below_size zb));replace aA:=zkb aA hb;replace HB:=zbs hb;clear hb ho15;obtain⟨bR,bQ,bP,bL,bK,bJ⟩:=ze3 aA)|(go_at_call 57;(with_reducible refine(spec_Days.calls k aI aH _ _ aE a1 a2 bC _ ?s1 ?s2 A4.out).mono ?_);(case s1=>exact zCb aR);(case s2=>exact aU.out);rintro e dT ⟨rfl,hb⟩;replace aC:=zRb aC hb;replace aA:=zkb aA hb;replace HB:=zbs hb;(try clear hb);obtain⟨bO,bN,bM,bI,bH,bG⟩:=ze3 aA)|(go_at_call 58;(with_reducible refine(spec_l5From.calls k aI aH _ _ aE a2 aJ _ ?s1 ?s2 dK.out).mono ?_);(case s1=>exact zCb aR);(case s2=>exact aU.out);rintro e dS ⟨v369,rfl,ho0,hb⟩;have aT:=zA (Kd.R_lower (Kd.R_new' ho0 (Kd.R_lt (zR aC))) (below_size zb));replace aC:=zA (Kd.R_elder' (zR aC) (Kd.R_base ho0) hb);replace aA:=zkb aA hb;replace HB:=zbs hb;(try clear hb);(try clear ho0))|((with_reducible refine gate_builtin (b:=.append) (xs:=#[.tmp 21,.tmp 23]) rfl ?_);at_builtin;refine Kd.R_append (Kd.int .i64) (w0:=w) w.heap.size rfl (.tmp 21) (.tmp 23) 24 3 (.int .i64 0) 8 rfl Tryd.underlying24 info3 rfl (by decide) (by omega) v365 bT a1 [.int .i64 a1] (fun k_=>some k_≠(v369:Value).ownBlock) (fun _=>False) rfl rfl ?aP (fun _ hk=>hk.elim) ?aF ?aO ?aB ?aS ?aL ?_;(case aP=>exact rfl);(case aB=>exact zb);(case aF=>exact(fun k_ hk=>Kd.fresh' (Kd.R_lt (zR aT)) k_ hk));(case aO=>exact(by(with_reducible repeat (first|apply Kd.R_alloc|apply Kd.R_drewN|apply Kd.R_drew));exact Kd.R_mono aC.out (fun _ hk=>hk.2)));(case aS=>exact(below_size zb));(case aL=>have:=cI.out;omega);intro v372 dR ho hb hg hat;rw[←Ny371.out] at ho;replace aA:=zgr aA hg (Kd.R_ne aC.out aA.out (by decide));replace aT:=zA (Kd.R_after (ok:=(fun _=>True)) (zR aT) hg hat);replace HB:=zA hb;have cJ:=zA ho;clear aC;clear ho hb hg hat)))
  go_loopg [1,7] k (fun kq v1 v7 w'=>∃ (aW:Int) (aK:List Int),v1=.int .i64 aW∧Aside0 (spec_WayTo.l0 kq aW a2 aK aJ aI aH aE=some r)∧Aside0 (kq≤k)∧Aside0 (Kd.R (Kd.int .i64) 3 w' w.heap.size (fun k_=>some k_≠(v369:Value).ownBlock) v7 aK)∧Aside0 (Kd.R (Kd.int .i64) 3 w' w.heap.size (fun k_=>some k_≠(v7:Value).ownBlock) v369 aJ)∧Aside0 (w'.heap[bD]?=some (.cells #[.int .i64 aI,.int .i64 aH,(.slice bA aE.length aZ)] 26 (0,0)))∧Aside0 (Below w.heap.size w w'))
  case atStart=>exact⟨(a1),(dI),zr,H',⟨Nat.le_refl _⟩,⟨zR cJ⟩,⟨by(with_reducible repeat (first|apply Kd.R_alloc|apply Kd.R_drewN|apply Kd.R_drew));exact Kd.R_mono aT.out (fun _ hk=>hk.2)⟩,⟨zk aA⟩,⟨zb⟩⟩
  case round =>
   clear H';(try clear c5);(try clear cO);(try clear c12);(try clear bR);(try clear bQ);(try clear bP);(try clear bO);(try clear bN);(try clear bM);(try clear bZ);(try clear bY);(try clear bX);(try clear bL);(try clear bK);(try clear bJ);(try clear bI);(try clear bH);(try clear bG);(try clear bW);(try clear bV);(try clear bU);obtain⟨aW,aK,rfl,HA,HK1,aN,aM,aA,HB⟩:=hrel
   cases gk with
   |zero=>exact absurd HA.out (by simp[spec_WayTo.l0])
   |succ k1 =>
    have H:=HA.out;clear HA;simp only[spec_WayTo.l0] at H
    by_cases c21:aW=a2
    ·rw[if_pos c21] at H;have cS:(aW==a2)=true:=beq_iff_eq.mpr c21;have cR:(aW != a2)=false:=bne_eq_false_iff_eq.mpr c21;clear c21;obtain rfl:=zI H;go_wp2
     repeat (go_quiet (fail);try go_wp2)
     go_ret;exact⟨_,zE,by(with_reducible repeat (first|apply Kd.R_alloc|apply Kd.R_drewN|apply Kd.R_drew));exact Kd.R_mono aN.out (fun _ hk=>trivial),zb⟩
    ·rw[if_neg c21] at H;have cS:(aW==a2)=false:=beq_eq_false_iff_ne.mpr c21;have cR:(aW != a2)=true:=bne_iff_ne.mpr c21;obtain⟨aG,dJ,H⟩:=zB H;have H':=zA H;clear H;obtain⟨dF,dE,dD,dC,dB,dA⟩:=ze3 aA
     go_wp2_with (first|(go_at_call 59;(with_reducible refine(spec_l4Near.calls k1 aI aH _ _ aE aW aG _ ?s1 ?s2 dJ.out).mono ?_);(case s1=>exact zCb aR);(case s2=>exact aU.out);rintro e dQ ⟨v375,rfl,ho0,hb⟩;have bS:=zA (Kd.R_lower (Kd.R_new' (Kd.R_new' ho0 (Kd.R_lt (zR aN))) (Kd.R_lt (zR aM))) (below_size zb));replace aN:=zA (Kd.R_elder' (zR aN) (Kd.R_base ho0) hb);replace aM:=zA (Kd.R_elder' (zR aM) (Kd.R_base ho0) hb);replace aA:=zkb aA hb;replace HB:=zbs hb;(try clear hb);(try clear ho0);obtain⟨bF,bE,cB⟩:=Kd.R_slice bS.out;subst cB))
     repeat (go_quiet (first|(go_at_call 59;(with_reducible refine(spec_l4Near.calls k1 aI aH _ _ aE aW aG _ ?s1 ?s2 dJ.out).mono ?_);(case s1=>exact zCb aR);(case s2=>exact aU.out);rintro e dQ ⟨v375,rfl,ho0,hb⟩;have bS:=zA (Kd.R_lower (Kd.R_new' (Kd.R_new' ho0 (Kd.R_lt (zR aN))) (Kd.R_lt (zR aM))) (below_size zb));replace aN:=zA (Kd.R_elder' (zR aN) (Kd.R_base ho0) hb);replace aM:=zA (Kd.R_elder' (zR aM) (Kd.R_base ho0) hb);replace aA:=zkb aA hb;replace HB:=zbs hb;(try clear hb);(try clear ho0);obtain⟨bF,bE,cB⟩:=Kd.R_slice bS.out;subst cB));try go_wp2_with (first|(go_at_call 59;(with_reducible refine(spec_l4Near.calls k1 aI aH _ _ aE aW aG _ ?s1 ?s2 dJ.out).mono ?_);(case s1=>exact zCb aR);(case s2=>exact aU.out);rintro e dQ ⟨v375,rfl,ho0,hb⟩;have bS:=zA (Kd.R_lower (Kd.R_new' (Kd.R_new' ho0 (Kd.R_lt (zR aN))) (Kd.R_lt (zR aM))) (below_size zb));replace aN:=zA (Kd.R_elder' (zR aN) (Kd.R_base ho0) hb);replace aM:=zA (Kd.R_elder' (zR aM) (Kd.R_base ho0) hb);replace aA:=zkb aA hb;replace HB:=zbs hb;(try clear hb);(try clear ho0);obtain⟨bF,bE,cB⟩:=Kd.R_slice bS.out;subst cB)))
     go_loopg [1,10] k1 (fun kq v1 v10 w'=>∃ (aV:Int) (aD:Int),v1=.int .i64 aV∧v10=.int .i64 aD∧Aside0 (spec_WayTo.l1 kq aV a2 aK aJ aG aD aI aH aE=some r)∧Aside0 (kq≤k1)∧Aside0 (Kd.R (Kd.int .i64) 3 w' w.heap.size (fun k_=>some k_≠(v369:Value).ownBlock∧some k_≠((.slice bF aG.length bE):Value).ownBlock) u7 aK)∧Aside0 (Kd.R (Kd.int .i64) 3 w' w.heap.size (fun k_=>some k_≠(u7:Value).ownBlock∧some k_≠((.slice bF aG.length bE):Value).ownBlock) v369 aJ)∧Aside0 (Kd.R (Kd.int .i64) 3 w' w.heap.size (fun k_=>some k_≠(u7:Value).ownBlock∧some k_≠(v369:Value).ownBlock) (.slice bF aG.length bE) aG)∧Aside0 (w'.heap[bD]?=some (.cells #[.int .i64 aI,.int .i64 aH,(.slice bA aE.length aZ)] 26 (0,0)))∧Aside0 (Below w.heap.size w w'))
     case atStart=>exact⟨(aW),(wrap64 ((aG.length:Int)-1)),zr,zr,H',⟨Nat.le_refl _⟩,⟨zR aN⟩,⟨zR aM⟩,⟨by(with_reducible repeat (first|apply Kd.R_alloc|apply Kd.R_drewN|apply Kd.R_drew));exact Kd.R_mono bS.out (fun _ hk=>⟨hk.1.2,hk.2⟩)⟩,⟨zk aA⟩,⟨zb⟩⟩
     case round =>
      clear H';(try clear c5);(try clear cO);(try clear c12);(try clear c21);(try clear cS);(try clear cR);(try clear bR);(try clear bQ);(try clear bP);(try clear bO);(try clear bN);(try clear bM);(try clear dF);(try clear dE);(try clear dD);(try clear bZ);(try clear bY);(try clear bX);(try clear bL);(try clear bK);(try clear bJ);(try clear bI);(try clear bH);(try clear bG);(try clear dC);(try clear dB);(try clear dA);(try clear bW);(try clear bV);(try clear bU);obtain⟨aV,aD,rfl,rfl,HA,HK2,aN,aM,aY,aA,HB⟩:=hrel
      cases gk with
      |zero=>exact absurd HA.out (by simp[spec_WayTo.l1])
      |succ k2 =>
       have H:=HA.out;clear HA;simp only[spec_WayTo.l1] at H
       by_cases c26:aD≥0
       ·rw[if_pos c26] at H;have dN:decide (0≤aD)=true:=decide_eq_true c26;clear c26;obtain⟨eW,H⟩:=zifD H;obtain⟨eV,H⟩:=zifD H;obtain⟨eU,H⟩:=zifD H;obtain⟨eT,H⟩:=zifD H;obtain⟨aQ,cF⟩:∃ j_:Int,(wrap64 ((aK.length:Int)-1))=j_:=⟨_,rfl⟩
        replace H:(if 0≤(aQ) then(if (aQ)<(aK.length:Int) then(if 0≤(rd aK (aQ)) then(if (rd aK (aQ))<(aJ.length:Int) then(if (rd aJ (rd aG aD))=(wrap64 ((rd aJ (rd aK (aQ)))-1)) then(spec_WayTo.l1 k2 (rd aG aD) a2 aK aJ aG (wrap64 (aD-1)) aI aH aE) else(spec_WayTo.l1 k2 aV a2 aK aJ aG (wrap64 (aD-1)) aI aH aE)) else(none)) else(none)) else(none)) else(none))=some r:=by first|(rw[cF] at H;exact H)|(simp only[cF] at H ⊢;exact H)
        have eO:(IntKind.i64.wrap ((aK.length:Int)-1))=aQ:=(i64_w _).trans cF;obtain⟨eS,H⟩:=zifD H;obtain⟨eR,H⟩:=zifD H;obtain⟨eQ,H⟩:=zifD H;obtain⟨eP,H⟩:=zifD H
        by_cases c36:(rd aJ (rd aG aD))=(wrap64 ((rd aJ (rd aK (aQ)))-1))
        ·rw[if_pos c36] at H;have dM:((rd aJ (rd aG aD))==(wrap64 ((rd aJ (rd aK (aQ)))-1)))=true:=beq_iff_eq.mpr c36;have dL:((rd aJ (rd aG aD)) != (wrap64 ((rd aJ (rd aK (aQ)))-1)))=false:=bne_eq_false_iff_eq.mpr c36;clear c36;have H':=zA H;clear H;have eE:=zT (0≤(aD:Int));have eA:=zT (aD<(aG.length:Int));obtain⟨cT,cN,cZ⟩:=Kd.at_int (Kd.R_reads' aY.out).2.2 aD zd zd;cases cN;obtain⟨fG,fC,eI⟩:=Kd.R_slice aM.out;subst eI;have eD:=zT (0≤((rd aG aD):Int));have dZ:=zT ((rd aG aD)<(aJ.length:Int));obtain⟨cH,cM,cY⟩:=Kd.at_int (Kd.R_reads' aM.out).2.2 (rd aG aD) zd zd;cases cM;obtain⟨fF,fB,eH⟩:=Kd.R_slice aN.out;subst eH;have eC:=zT (0≤((aQ):Int));have dY:=zT ((aQ)<(aK.length:Int));obtain⟨dP,cL,cX⟩:=Kd.at_int (Kd.R_reads' aN.out).2.2 (aQ) zd zd;cases cL;have eB:=zT (0≤((rd aK (aQ)):Int));have dX:=zT ((rd aK (aQ))<(aJ.length:Int));obtain⟨cG,cK,cW⟩:=Kd.at_int (Kd.R_reads' aM.out).2.2 (rd aK (aQ)) zd zd;obtain rfl:cH=cG:=(by injection cK);have eY:=zT (0≤(aD:Int));have eX:=zT (aD<(aG.length:Int));obtain⟨dO,eJ,eK⟩:=Kd.at_int (Kd.R_reads' aY.out).2.2 aD zd zd;obtain rfl:cT=dO:=(by injection eJ);go_wp2
         repeat (go_quiet (fail);try go_wp2)
         go_roundg k2
         case measure=>have:=HK1.out;have:=HK2.out;omega
         case rel=>exact⟨(rd aG aD),(wrap64 (aD-1)),zr,zr,H',⟨by have:=HK1.out;have:=HK2.out;omega⟩,⟨zR aN⟩,⟨zR aM⟩,⟨zR aY⟩,⟨zk aA⟩,⟨zb⟩⟩
        ·rw[if_neg c36] at H;have dM:((rd aJ (rd aG aD))==(wrap64 ((rd aJ (rd aK (aQ)))-1)))=false:=beq_eq_false_iff_ne.mpr c36;have dL:((rd aJ (rd aG aD)) != (wrap64 ((rd aJ (rd aK (aQ)))-1)))=true:=bne_iff_ne.mpr c36;have H':=zA H;clear H;have eE:=zT (0≤(aD:Int));have eA:=zT (aD<(aG.length:Int));obtain⟨cT,cN,cZ⟩:=Kd.at_int (Kd.R_reads' aY.out).2.2 aD zd zd;cases cN;obtain⟨fE,fA,eG⟩:=Kd.R_slice aM.out;subst eG;have eD:=zT (0≤((rd aG aD):Int));have dZ:=zT ((rd aG aD)<(aJ.length:Int));obtain⟨cH,cM,cY⟩:=Kd.at_int (Kd.R_reads' aM.out).2.2 (rd aG aD) zd zd;cases cM;obtain⟨fD,eZ,eF⟩:=Kd.R_slice aN.out;subst eF;have eC:=zT (0≤((aQ):Int));have dY:=zT ((aQ)<(aK.length:Int));obtain⟨dP,cL,cX⟩:=Kd.at_int (Kd.R_reads' aN.out).2.2 (aQ) zd zd;cases cL;have eB:=zT (0≤((rd aK (aQ)):Int));have dX:=zT ((rd aK (aQ))<(aJ.length:Int));obtain⟨cG,cK,cW⟩:=Kd.at_int (Kd.R_reads' aM.out).2.2 (rd aK (aQ)) zd zd;obtain rfl:cH=cG:=(by injection cK);go_wp2
         repeat (go_quiet (fail);try go_wp2)
         go_roundg k2
         case measure=>have:=HK1.out;have:=HK2.out;omega
         case rel=>exact⟨(aV),(wrap64 (aD-1)),zr,zr,H',⟨by have:=HK1.out;have:=HK2.out;omega⟩,⟨zR aN⟩,⟨zR aM⟩,⟨zR aY⟩,⟨zk aA⟩,⟨zb⟩⟩
       ·rw[if_neg c26] at H;have dN:decide (0≤aD)=false:=decide_eq_false c26;clear c26;obtain⟨cU,H⟩:=zifA H;obtain⟨dH,cC⟩:∃ y_:List Int,y_=(aK++[aV]):=⟨_,rfl⟩
        replace H:(spec_WayTo.l0 k2 aV a2 dH aJ aI aH aE)=some r:=zY cC H
        have Ny382:=zA cC;clear cC;have H':=zA H;clear H
        go_wp2_with (first|((with_reducible refine gate_builtin (b:=.append) (xs:=#[.tmp 60,.tmp 62]) rfl ?_);at_builtin;refine Kd.R_append (Kd.int .i64) (w0:=w) w.heap.size rfl (.tmp 60) (.tmp 62) 24 3 (.int .i64 0) 8 rfl Tryd.underlying24 info3 rfl (by decide) (by omega) u7 aK aV [.int .i64 aV] (fun k_=>some k_≠(v369:Value).ownBlock∧some k_≠(.slice bF aG.length bE:Value).ownBlock) (fun _=>False) rfl rfl ?aP (fun _ hk=>hk.elim) ?aF ?aO ?aB ?aS ?aL ?_;(case aP=>exact rfl);(case aB=>exact zb);(case aF=>exact(fun k_ hk=>⟨Kd.fresh' (Kd.R_lt (zR aM)) k_ hk,Kd.fresh' (Kd.R_lt (zR aY)) k_ hk⟩));(case aO=>exact(zR aN));(case aS=>exact(below_size zb));(case aL=>have:=cU.out;omega);intro v383 eN ho hb hg hat;rw[←Ny382.out] at ho;replace aM:=zA (Kd.R_after (ok:=(fun k_=>some k_≠(.slice bF aG.length bE:Value).ownBlock)) (by(with_reducible repeat (first|apply Kd.R_alloc|apply Kd.R_drewN|apply Kd.R_drew));exact Kd.R_mono aM.out (fun _ hk=>⟨hk.2,hk.1⟩)) hg hat);replace aY:=zA (Kd.R_after (ok:=(fun k_=>some k_≠(v369:Value).ownBlock)) (by(with_reducible repeat (first|apply Kd.R_alloc|apply Kd.R_drewN|apply Kd.R_drew));exact Kd.R_mono aY.out (fun _ hk=>⟨hk.2,hk.1⟩)) hg hat);replace aA:=zgr aA hg (Kd.R_ne aN.out aA.out (by decide));replace HB:=zA hb;have cV:=zA ho;clear aN;clear ho hb hg hat))
        repeat (go_quiet (fail);try go_wp2_with (first|((with_reducible refine gate_builtin (b:=.append) (xs:=#[.tmp 60,.tmp 62]) rfl ?_);at_builtin;refine Kd.R_append (Kd.int .i64) (w0:=w) w.heap.size rfl (.tmp 60) (.tmp 62) 24 3 (.int .i64 0) 8 rfl Tryd.underlying24 info3 rfl (by decide) (by omega) u7 aK aV [.int .i64 aV] (fun k_=>some k_≠(v369:Value).ownBlock∧some k_≠(.slice bF aG.length bE:Value).ownBlock) (fun _=>False) rfl rfl ?aP (fun _ hk=>hk.elim) ?aF ?aO ?aB ?aS ?aL ?_;(case aP=>exact rfl);(case aB=>exact zb);(case aF=>exact(fun k_ hk=>⟨Kd.fresh' (Kd.R_lt (zR aM)) k_ hk,Kd.fresh' (Kd.R_lt (zR aY)) k_ hk⟩));(case aO=>exact(zR aN));(case aS=>exact(below_size zb));(case aL=>have:=cU.out;omega);intro v383 eN ho hb hg hat;rw[←Ny382.out] at ho;replace aM:=zA (Kd.R_after (ok:=(fun k_=>some k_≠(.slice bF aG.length bE:Value).ownBlock)) (by(with_reducible repeat (first|apply Kd.R_alloc|apply Kd.R_drewN|apply Kd.R_drew));exact Kd.R_mono aM.out (fun _ hk=>⟨hk.2,hk.1⟩)) hg hat);replace aY:=zA (Kd.R_after (ok:=(fun k_=>some k_≠(v369:Value).ownBlock)) (by(with_reducible repeat (first|apply Kd.R_alloc|apply Kd.R_drewN|apply Kd.R_drew));exact Kd.R_mono aY.out (fun _ hk=>⟨hk.2,hk.1⟩)) hg hat);replace aA:=zgr aA hg (Kd.R_ne aN.out aA.out (by decide));replace HB:=zA hb;have cV:=zA ho;clear aN;clear ho hb hg hat)))
        go_roundg k2
        case measure=>have:=HK1.out;have:=HK2.out;omega
        case rel=>exact⟨(aV),(dH),zr,H',⟨by have:=HK1.out;have:=HK2.out;omega⟩,⟨by(with_reducible repeat (first|apply Kd.R_alloc|apply Kd.R_drewN|apply Kd.R_drew));exact Kd.R_mono cV.out (fun _ hk=>hk.1)⟩,⟨by(with_reducible repeat (first|apply Kd.R_alloc|apply Kd.R_drewN|apply Kd.R_drew));exact Kd.R_mono aM.out (fun _ hk=>hk.2)⟩,⟨zk aA⟩,⟨zb⟩⟩

def spec_l1Once.f (s0_0:List Int) (s0_1:Int) (s0_2:Int) (a1:Int):Option (Bool × Int × Int):=(spec_l1Below.f s0_0 s0_1 s0_2 a1).bind fun bt385=>(some ((bt385.1==0),bt385.2.1,bt385.2.2))
theorem spec_l1Once.calls (g:Nat) (s0_0:List Int) (s0_1:Int) (s0_2:Int) (a1:Int) (r1:Bool) (r2:Int) (r3:Int) (w0 w:World) (hI:IsS66 w0 w g s0_0 s0_1 s0_2) (hB:Below w0.heap.size w0 w) (h:spec_l1Once.f s0_0 s0_1 s0_2 a1=some (r1,r2,r3)) :
  Calls Tryd.prog 46 #[.pointer (some ⟨g,0,none⟩),.int .i64 a1] w fun e w'=>e=.returned (.bool r1)∧IsS66 w0 w' g s0_0 r2 r3∧Below w0.heap.size w0 w'∧KeepBut w w' g none:=by
 have HI0:=zA hI;have HK:=zA (KeepBut.refl w g none);have HL:=zA hB.size;clear hI;have HW0:=zA hB.size;have HB:=zA hB;clear hB;have H:=h;clear h;unfold spec_l1Once.f at H;obtain⟨⟨aE,aD,aC⟩,A3,H⟩:=zB H;simp only[Option.some.injEq,Prod.mk.injEq] at H;obtain⟨rfl,rfl,rfl⟩:=H;go_enter Tryd.func46,Tryd.ntmps46
 go_wp2_with (first|((with_reducible refine zgf 39 rfl ?_);refine goesL_ (some 7) rfl rfl Tryd.func39 (by kernel_rfl) rfl #[.pointer (some ⟨g,0,none⟩),.int .i64 a1] rfl zm ?_;(with_reducible refine(spec_l1Below.calls g s0_0 s0_1 s0_2 a1 aE aD aC w0 _ ?s1 ?s2 A3.out).mono ?_);(case s1=>exact zI0);(case s2=>exact zB0);rintro e w4 ⟨rfl,hi,hb,hk⟩;refine⟨_,rfl,?_⟩;replace HK:=zA (KeepBut.trans zK0 hk (.inl rfl));replace HB:=zA hb;replace HI0:=zA (hi);(try clear hb)))
 go_ret;exact⟨zE,zI0,zB0,zK0⟩

def spec_DrawIsWay.j0:Nat→List Int→Bool→Int→Int→List Int→List Int→Int→Int→Option (Int × Int × List Int × List Int)
  |0,_,_,_,_,_,_,_,_=>none
  |k+1,x7,x27,x397000,x397001,x397002,x404000,x404001,x404002=>if x27=true then((spec_l1Below.f x404000 x404001 x404002 (x7.length:Int)).bind fun bt407=>((spec_l1Below.f x404000 bt407.2.1 bt407.2.2 30).bind fun bt410=>(if 0≤bt407.1 then(if bt407.1<(x7.length:Int) then(some (x397000,x397001,x397002,(x7.set (bt407.1:Int).toNat bt410.1))) else(none)) else(none)))) else(some (x397000,x397001,x397002,x7))
def spec_DrawIsWay.f (k:Nat) (l0:List Int):Option (Int × Int × List Int × List Int):=(spec_DrawApart.f k l0).bind fun bt389=>((spec_WayTo.f k bt389.1 bt389.2.1 bt389.2.2.1 bt389.2.2.2.1 bt389.2.2.2.2).bind fun t397=>((spec_l1New.f k l0).bind fun bt400=>(if (t397.length:Int)>0 then((spec_l1Once.f bt400.1 bt400.2.1 bt400.2.2 3).bind fun bt404=>(spec_DrawIsWay.j0 k t397 bt404.1 bt389.1 bt389.2.1 bt389.2.2.1 bt400.1 bt404.2.1 bt404.2.2)) else(spec_DrawIsWay.j0 k t397 false bt389.1 bt389.2.1 bt389.2.2.1 bt400.1 bt400.2.1 bt400.2.2))))
theorem spec_DrawIsWay.calls (k:Nat) (A0:Option Addr) (c0:Nat) (l0:List Int) (r1:Int) (r2:Int) (r3:List Int) (r4:List Int) (w:World) (cN:Kd.C (Kd.int .u8) w A0 l0.length l0) (cO:l0.length≤c0) (h:spec_DrawIsWay.f k l0=some (r1,r2,r3,r4)) :
  Calls Tryd.prog 26 #[.slice A0 l0.length c0] w fun e w'=>∃ v2_ v3_:Value,e=.returned (.tuple #[.agg #[.int .i64 r1,.int .i64 r2,v2_],v3_])∧Kd.Q (Kd.int .i64) 3 w' w.heap.size (fun k_=>some k_≠(v3_:Value).ownBlock) v2_ r3∧Kd.R (Kd.int .i64) 3 w' w.heap.size (fun k_=>some k_≠(v2_:Value).ownBlock) v3_ r4∧Below w.heap.size w w':=by
 have hu26:=Tryd.underlying26;have cP:=zA cN;have cQ:=zA cO;clear cN cO;have HB:=zA (Below.refl w.heap.size w);have H:=h;clear h;unfold spec_DrawIsWay.f at H;obtain⟨⟨aM,aK,aG,bQ,bP⟩,A2,H⟩:=zB H;obtain⟨aJ,A3,H⟩:=zB H;obtain⟨⟨aX,bJ,bI⟩,A4,H⟩:=zB H;have cJ:=zA H;clear H;go_enter Tryd.func26,Tryd.ntmps26
 go_upto_region 4 with (first|((with_reducible refine zgd 2 rfl ?_);refine zbx 2 #[.int .i64 0,.int .i64 0,.slice none 0 0] 26 ?_;intro aY hg w6 hbox hb;have aA:=zA hbox;have eO:=zga (w:=w) hg;have bC:=zga (w:=w) hg;replace HB:=zbs hb;clear hb hbox hg)|((with_reducible refine zgf 44 rfl ?_);refine goesL_ (some 11) rfl rfl Tryd.func44 (by kernel_rfl) rfl #[.slice A0 l0.length c0] rfl zm ?_;(with_reducible refine(spec_DrawApart.calls k _ _ l0 aM aK aG bQ bP _ ?s1 ?s2 A2.out).mono ?_);(case s1=>exact zCb cP);(case s2=>exact cQ.out);rintro e w7 ⟨v392,rfl,ho0,hb⟩;refine⟨_,rfl,?_⟩;have aI:=zA (Kd.Q_lower ho0 (below_size zb));replace aA:=zkb aA hb;replace HB:=zbs hb;(try clear hb);(try clear ho0))|((with_reducible refine zgd 4 rfl ?_);refine zbx 4 #[.int .i64 0,.int .i64 0,.slice none 0 0] 26 ?_;intro aZ hg w8 hbox hb;replace aI:=zA (Kd.Q_below (zQ aI) hb);have aE:=zA hbox;have eN:=zga (w:=w) hg;have bB:=zga (w:=w) hg;replace HB:=zbs hb;replace aA:=zlh aA hg hb;obtain⟨bF,bE,aA⟩:=aA;clear hb hbox hg;have eQ:=bE.out;have eP:=bF.out;obtain⟨bZ,bY,bX,bW,bV,bU⟩:=ze3 aE;obtain⟨aU,aN,cW,_⟩:=Kd.Q_slice aI.out;subst cW)|((with_reducible refine zgf 45 rfl ?_);refine goesL_ (some 18) rfl rfl Tryd.func45 (by kernel_rfl) rfl #[.agg #[.int .i64 aM,.int .i64 aK,.slice aU aG.length aN],.int .i64 bQ,.int .i64 bP] rfl zm ?_;(with_reducible refine(spec_WayTo.calls k aM aK _ _ aG bQ bP aJ _ ?s1 ?s2 A3.out).mono ?_);(case s1=>refine(Kd.Q_reads' (e:=3) (base:=w.heap.size) (ok:=fun k_=>True) (n:=aG.length) (c:=aN) ?_).2.2;exact(zG1 aI aE));(case s2=>exact(Kd.Q_reads' aI.out).2.1);rintro e fD ⟨v398,rfl,ho0,hb⟩;refine⟨_,rfl,?_⟩;have bA:=zA (Kd.R_lower (Kd.R_new' ho0 (Kd.Q_lt (zG1 aI aE))) (below_size zb));replace aI:=zA (Kd.Q_elder' (zG1 aI aE) (Kd.R_base ho0) hb);replace aA:=zbf aA hb;replace aE:=zA (blk_below (g:=aZ) (o:=.cells #[.int .i64 aM,.int .i64 aK,.slice aU aG.length aN] 26 (0,0)) (zkp aE) hb);replace HB:=zbs hb;(try clear hb);(try clear ho0))|((with_reducible refine zgf 23 rfl ?_);refine goesL_ (some 20) rfl rfl Tryd.func23 (by kernel_rfl) rfl #[.slice A0 l0.length c0] rfl zm ?_;(with_reducible refine(spec_l1New.calls k _ _ l0 aX bJ bI w _ ?s1 ?s2 ?s3 A4.out).mono ?_);(case s1=>exact zb);(case s2=>exact cP.out);(case s3=>exact cQ.out);rintro e fC ⟨g403,rfl,hi,hb,hb2⟩;refine⟨_,rfl,?_⟩;replace aI:=zA (Kd.Q_below (zQ aI) hb2);replace bA:=zA (Kd.R_below (zR bA) hb2);replace HB:=zA hb;have HI403:=zA (hi);have aD:=zA (IsS66.ne_blk hi (blk_below (g:=aY) (o:=.cells #[.int .i64 0,.int .i64 0,.slice none 0 0] 26 (0,0)) (zk aA) hb2) (by decide));have aW:=zA (Ne.symm (IsS66.ne_blk hi (blk_below (g:=aY) (o:=.cells #[.int .i64 0,.int .i64 0,.slice none 0 0] 26 (0,0)) (zk aA) hb2) (by decide)));replace aA:=zA (blk_below (g:=aY) (o:=.cells #[.int .i64 0,.int .i64 0,.slice none 0 0] 26 (0,0)) (zk aA) hb2);have aC:=zA (IsS66.ne_blk hi (blk_below (g:=aZ) (o:=.cells #[.int .i64 aM,.int .i64 aK,.slice aU aG.length aN] 26 (0,0)) (zk aE) hb2) (by decide));have aV:=zA (Ne.symm (IsS66.ne_blk hi (blk_below (g:=aZ) (o:=.cells #[.int .i64 aM,.int .i64 aK,.slice aU aG.length aN] 26 (0,0)) (zk aE) hb2) (by decide)));replace aE:=zA (blk_below (g:=aZ) (o:=.cells #[.int .i64 aM,.int .i64 aK,.slice aU aG.length aN] 26 (0,0)) (zk aE) hb2);(try clear hb)))
 (try simp only[Act.put,List.setIfInBounds_toArray,List.set_cons_zero,List.set_cons_succ])
 go_cut [27] (fun v27 wc=>∃ (kq:Nat) (bH:Bool) (aT:Int) (aR:Int),v27=.bool bH∧Aside0 (spec_DrawIsWay.j0 kq aJ bH aM aK aG aX aT aR=some (r1,r2,r3,r4))∧Aside0 (kq≤k)∧Aside0 (Kd.R (Kd.int .i64) 3 wc w.heap.size (fun k_=>some k_≠((.slice aU aG.length aN):Value).ownBlock) v398 aJ)∧Aside0 (Kd.Q (Kd.int .i64) 3 wc w.heap.size (fun k_=>some k_≠(v398:Value).ownBlock) (.slice aU aG.length aN) aG)∧Aside0 (wc.heap[aY]?=some (.cells #[.int .i64 0,.int .i64 0,(.slice none 0 0)] 26 (0,0)))∧Aside0 (wc.heap[aZ]?=some (.cells #[.int .i64 aM,.int .i64 aK,(.slice aU aG.length aN)] 26 (0,0)))∧Aside0 (IsS66 w wc g403 aX aT aR)∧Aside0 (Below w.heap.size w wc))
 case first =>
  have H:=cJ.out;clear cJ
  by_cases c14:(aJ.length:Int)>0
  ·rw[if_pos c14] at H;have bG:decide (0<(aJ.length:Int))=true:=decide_eq_true c14;have bT:decide (0<aJ.length)=true:=decide_eq_true (by omega);clear c14;(first|rw[bG]|(simp only[i64_w,i32_w];rw[bG])|skip);obtain⟨⟨cE,cD,cC⟩,dY,H⟩:=zB H;have H':=zA H;clear H;obtain⟨eW,eT,cV⟩:=Kd.R_slice bA.out;subst cV
   go_wp2_with (first|(go_at_call 46;(with_reducible refine(spec_l1Once.calls g403 aX bJ bI 3 cE cD cC w _ ?s1 ?s2 dY.out).mono ?_);(case s1=>exact zI4);(case s2=>exact zB4);rintro e fB ⟨rfl,hi,hb,hk⟩;replace aA:=zA (KeepBut.blk hk (g':=aY) (o:=.cells #[.int .i64 0,.int .i64 0,.slice none 0 0] 26 (0,0)) (zk aA) aW.out (by simp));replace aI:=zA (Kd.Q_mono (Kd.Q_keep (IsS66.apartQ (show IsS66 w _ g403 aX bJ bI from zI4) (zQ aI) (by decide)) hk (fun _ h=>h.2)) (fun _ h=>h.1));replace aE:=zA (KeepBut.blk hk (g':=aZ) (o:=.cells #[.int .i64 aM,.int .i64 aK,.slice aU aG.length aN] 26 (0,0)) (zk aE) aV.out (by simp));replace bA:=zA (Kd.R_mono (Kd.R_keep (IsS66.apart (show IsS66 w _ g403 aX bJ bI from zI4) (zR bA) (by decide)) hk (fun _ h=>h.2)) (fun _ h=>h.1));replace HB:=zA hb;replace HI403:=zA (hi);(try clear hb)))
   go_meet
   case rel=>exact⟨_,(cE),(cD),(cC),zr,H',⟨by first|omega|exact Nat.le_refl _⟩,⟨by(with_reducible repeat (first|apply Kd.R_alloc|apply Kd.R_drewN|apply Kd.R_drew));exact Kd.R_mono bA.out (fun _ hk=>hk.2)⟩,⟨by(with_reducible repeat (first|apply Kd.Q_alloc|apply Kd.Q_drewN|apply Kd.Q_drew));exact Kd.Q_mono aI.out (fun _ hk=>hk.2)⟩,⟨zk aA⟩,⟨zk aE⟩,⟨zI4⟩,⟨zB4⟩⟩
  ·rw[if_neg c14] at H;have bG:decide (0<(aJ.length:Int))=false:=decide_eq_false c14;have bT:decide (0<aJ.length)=false:=decide_eq_false (by omega);clear c14;(first|rw[bG]|(simp only[i64_w,i32_w];rw[bG])|skip);have H':=zA H;clear H;obtain⟨eV,eS,cU⟩:=Kd.R_slice bA.out;subst cU;go_wp2
   go_meet
   case rel=>exact⟨_,(false),(bJ),(bI),zr,H',⟨by first|omega|exact Nat.le_refl _⟩,⟨by(with_reducible repeat (first|apply Kd.R_alloc|apply Kd.R_drewN|apply Kd.R_drew));exact Kd.R_mono bA.out (fun _ hk=>hk.2)⟩,⟨by(with_reducible repeat (first|apply Kd.Q_alloc|apply Kd.Q_drewN|apply Kd.Q_drew));exact Kd.Q_mono aI.out (fun _ hk=>hk.2)⟩,⟨zk aA⟩,⟨zk aE⟩,⟨zI4⟩,⟨zB4⟩⟩
 case rest =>
  clear cJ;(try clear c14);(try clear bG);(try clear bT);(try clear bZ);(try clear bY);(try clear bX);(try clear bW);(try clear bV);(try clear bU);obtain⟨kq,bH,aT,aR,rfl,HA,HJ4,aQ,aH,aA,aE,HI403,HB⟩:=hcut;cases kq with
  |zero=>exact absurd HA.out (by simp[spec_DrawIsWay.j0])
  |succ kj4 =>
   have H:=HA.out;clear HA;simp only[spec_DrawIsWay.j0] at H
   by_cases bS:bH=true
   ·subst bS;rw[if_pos rfl] at H;obtain⟨⟨bD,bM,bL⟩,dX,H⟩:=zB H;obtain⟨⟨bK,cS,cR⟩,dW,H⟩:=zB H;obtain⟨eM,H⟩:=zifD H;obtain⟨eL,H⟩:=zifD H;obtain⟨cA,bO⟩:∃ y_:List Int,y_=(aJ.set (bD:Int).toNat bK):=⟨_,rfl⟩
    replace H:(some (aM,aK,aG,cA))=some (r1,r2,r3,r4):=zY bO H
    have Ny413:=zA bO;clear bO;simp only[Option.some.injEq,Prod.mk.injEq] at H;obtain⟨rfl,rfl,rfl,rfl⟩:=H;obtain⟨eU,bR,cT⟩:=Kd.R_slice aQ.out;subst cT
    go_wp2_with (first|((with_reducible refine zgf 39 rfl ?_);refine goesL_ (some 32) rfl rfl Tryd.func39 (by kernel_rfl) rfl #[.pointer (some ⟨g403,0,none⟩),.int .i64 (aJ.length:Int)] rfl zm ?_;(with_reducible refine(spec_l1Below.calls g403 aX aT aR (aJ.length:Int) bD bM bL w _ ?s1 ?s2 dX.out).mono ?_);(case s1=>exact zI4);(case s2=>exact zB4);rintro e fA ⟨rfl,hi,hb,hk⟩;refine⟨_,rfl,?_⟩;replace aQ:=zA (Kd.R_mono (Kd.R_keep (IsS66.apart (show IsS66 w _ g403 aX aT aR from zI4) (zR aQ) (by decide)) hk (fun _ h=>h.2)) (fun _ h=>h.1));replace aH:=zA (Kd.Q_mono (Kd.Q_keep (IsS66.apartQ (show IsS66 w _ g403 aX aT aR from zI4) (zQ aH) (by decide)) hk (fun _ h=>h.2)) (fun _ h=>h.1));replace aA:=zA (KeepBut.blk hk (g':=aY) (o:=.cells #[.int .i64 0,.int .i64 0,.slice none 0 0] 26 (0,0)) (zk aA) aW.out (by simp));replace aE:=zA (KeepBut.blk hk (g':=aZ) (o:=.cells #[.int .i64 aM,.int .i64 aK,.slice aU aG.length aN] 26 (0,0)) (zk aE) aV.out (by simp));replace HB:=zA hb;replace HI403:=zA (hi);(try clear hb))|((with_reducible refine zgf 39 rfl ?_);refine goesL_ (some 34) rfl rfl Tryd.func39 (by kernel_rfl) rfl #[.pointer (some ⟨g403,0,none⟩),.int .i64 30] rfl zm ?_;(with_reducible refine(spec_l1Below.calls g403 aX bM bL 30 bK cS cR w _ ?s1 ?s2 dW.out).mono ?_);(case s1=>exact zI4);(case s2=>exact zB4);rintro e cM ⟨rfl,hi,hb,hk⟩;refine⟨_,rfl,?_⟩;replace aQ:=zA (Kd.R_mono (Kd.R_keep (IsS66.apart (show IsS66 w _ g403 aX bM bL from zI4) (zR aQ) (by decide)) hk (fun _ h=>h.2)) (fun _ h=>h.1));replace aH:=zA (Kd.Q_mono (Kd.Q_keep (IsS66.apartQ (show IsS66 w _ g403 aX bM bL from zI4) (zQ aH) (by decide)) hk (fun _ h=>h.2)) (fun _ h=>h.1));replace aA:=zA (KeepBut.blk hk (g':=aY) (o:=.cells #[.int .i64 0,.int .i64 0,.slice none 0 0] 26 (0,0)) (zk aA) aW.out (by simp));replace aE:=zA (KeepBut.blk hk (g':=aZ) (o:=.cells #[.int .i64 aM,.int .i64 aK,.slice aU aG.length aN] 26 (0,0)) (zk aE) aV.out (by simp));replace HB:=zA hb;replace HI403:=zA (hi);(try clear hb);have cG:0≤(bD:Int):=zd;have cF:(bD:Int)<((aJ.length:Int):Int):=zd;obtain⟨go24,eR,cI,cH,gl24,cl24,HG24⟩:=Kd.R_form aQ.out (by omega);(first|cases cI|(injection cI with ea_ en_ ec_;(first|subst ea_|(injection ea_ with ea_;subst ea_));subst ec_;clear en_));have GB24:=zA cH;have GG24:=zA HG24;clear cH gl24 HG24;obtain⟨dV,hf24_0⟩:=Kd.R_celln 0 aQ.out (bD:Int) cG cF;replace cG:=eq_true cG;replace cF:=eq_true cF;obtain⟨hy28_,hz28_⟩:=Kd.R_celln 0 aQ.out (bD:Int) zd zd;have HP28:=Kd.R_putg aQ.out (bD:Int) bK)|((with_reducible refine gate_store (t:=3) (p:=35) rfl ?_);refine store_event (t:=3) (p:=35) (v:=?vo_w29) (w1:=(cM.setCell ⟨go24,(bD:Int).toNat,none⟩ (.int .i64 bK))) ?hg ?ho ?hn ?hr ?_;(case ho=>rfl);(case hg=>rfl);(case hn=>rfl);(case hr=>first|(go_simp;done)|(go_simp;rfl));intro cB hw;have hg:cM.grownBy cB (some go24):=(by rw[hw];exact HP28.2);have hp_:Kd.R (Kd.int .i64) 3 cB w.heap.size (fun k_=>some k_≠(.slice aU aG.length aN:Value).ownBlock) (.slice (some ⟨go24,0,none⟩) aJ.length bR) cA:=(by rw[hw,Ny413.out];exact HP28.1);clear HP28;replace aH:=zA (Kd.Q_after (v:=(.slice (some ⟨go24,0,none⟩) aJ.length bR)) (v1:=(.slice (some ⟨go24,0,none⟩) aJ.length bR)) (ok:=(fun _=>True)) (by(with_reducible repeat (first|apply Kd.Q_alloc|apply Kd.Q_drewN|apply Kd.Q_drew));exact Kd.Q_mono aH.out (fun _ hk=>⟨trivial,hk⟩)) hg (.inl rfl));replace aA:=zgr aA hg (Kd.R_ne aQ.out aA.out (by decide));replace aE:=zgr aE hg (Kd.R_ne aQ.out aE.out (by decide));replace HI403:=zA (IsS66.grown zI4 hg (IsS66.own_ne HI403.out aQ.out (by decide)));replace aQ:=zA hp_;replace HB:=zA ((by rw[hw];exact below_set (HB.out) GB24.out:Below w.heap.size w cB));clear hg hw hp_;have eK:=bE.out;have eE:=bF.out;have eJ:=aV.out;have eD:=aC.out;obtain⟨dU,dT,dS,dI,dH,dG⟩:=ze3 aE;have eI:=aW.out;have eC:=aD.out;obtain⟨dR,dQ,dP,dF,dE,dD⟩:=ze3 aA))
    refine bodyPost_ret (results_ct rfl _ _ aY 26 #[.int .i64 aM,.int .i64 aK,.slice aU aG.length aN] (0,0) _ rfl (zkp aA) Tryd.underlying26 rfl (by kernel_rfl)) rfl ?_;exact⟨_,_,zE,zG1 aH aA,zF1 aQ aA,zB4⟩
   ·replace bS:=Bool.eq_false_iff.mpr bS;subst bS;rw[if_neg zNo] at H;simp only[Option.some.injEq,Prod.mk.injEq] at H;obtain⟨rfl,rfl,rfl,rfl⟩:=H;have eH:=bE.out;have eB:=bF.out;have eG:=aV.out;have eA:=aC.out;obtain⟨dO,dN,dM,dC,dB,dA⟩:=ze3 aE;have eF:=aW.out;have dZ:=aD.out;obtain⟨dL,dK,dJ,cZ,cY,cX⟩:=ze3 aA;go_wp2;refine bodyPost_ret (results_ct rfl _ _ aY 26 #[.int .i64 aM,.int .i64 aK,.slice aU aG.length aN] (0,0) _ rfl (zkp aA) Tryd.underlying26 rfl (by kernel_rfl)) rfl ?_;exact⟨_,_,zE,zG1 aH aA,zF1 aQ aA,zB4⟩

def spec_DrawWayText.f (k:Nat) (l0:List Int):Option (Int × Int × List Int × List Int):=(spec_DrawIsWay.f k l0).bind fun bt415=>(some (bt415.1,bt415.2.1,bt415.2.2.1,bt415.2.2.2))
theorem spec_DrawWayText.calls (k:Nat) (A0:Option Addr) (c0:Nat) (l0:List Int) (r1:Int) (r2:Int) (r3:List Int) (r4:List Int) (w:World) (aK:Kd.C (Kd.int .u8) w A0 l0.length l0) (aM:l0.length≤c0) (h:spec_DrawWayText.f k l0=some (r1,r2,r3,r4)) :
  Calls Tryd.prog 10 #[.slice A0 l0.length c0] w fun e w'=>∃ v2_ v3_:Value,e=.returned (.tuple #[.agg #[.int .i64 r1,.int .i64 r2,v2_],v3_])∧Kd.Q (Kd.int .i64) 3 w' w.heap.size (fun k_=>some k_≠(v3_:Value).ownBlock) v2_ r3∧Kd.R (Kd.int .i64) 3 w' w.heap.size (fun k_=>some k_≠(v2_:Value).ownBlock) v3_ r4∧Below w.heap.size w w':=by
 have hu26:=Tryd.underlying26;have bB:=zA aK;have bC:=zA aM;clear aK aM;have HB:=zA (Below.refl w.heap.size w);have H:=h;clear h;unfold spec_DrawWayText.f at H;obtain⟨⟨aH,aG,aE,aN⟩,A2,H⟩:=zB H;simp only[Option.some.injEq,Prod.mk.injEq] at H;obtain⟨rfl,rfl,rfl,rfl⟩:=H;go_enter Tryd.func10,Tryd.ntmps10
 go_wp2_with (first|((with_reducible refine zgd 2 rfl ?_);refine zbx 2 #[.int .i64 0,.int .i64 0,.slice none 0 0] 26 ?_;intro aI hg w3 hbox hb;have aA:=zA hbox;have bE:=zga (w:=w) hg;replace HB:=zbs hb;clear hb hbox hg)|((with_reducible refine zgf 26 rfl ?_);refine goesL_ (some 5) rfl rfl Tryd.func26 (by kernel_rfl) rfl #[.slice A0 l0.length c0] rfl zm ?_;(with_reducible refine(spec_DrawIsWay.calls k _ _ l0 aH aG aE aN _ ?s1 ?s2 A2.out).mono ?_);(case s1=>exact zCb bB);(case s2=>exact bC.out);rintro e w4 ⟨v418,v421,rfl,ho0,ho1,hb⟩;refine⟨_,rfl,?_⟩;have aD:=zA (Kd.Q_lower ho0 (below_size zb));have aJ:=zA (Kd.R_lower ho1 (below_size zb));replace aA:=zkb aA hb;replace HB:=zbs hb;(try clear hb);(try clear ho0);(try clear ho1);obtain⟨aY,aX,aW,aV,aU,aT⟩:=ze3 aA;obtain⟨bD,bA,aZ,_⟩:=Kd.Q_slice aD.out;subst aZ))
 refine bodyPost_ret (results_ct rfl _ _ aI 26 #[.int .i64 aH,.int .i64 aG,.slice bD aE.length bA] (0,0) _ rfl (zkp aA) Tryd.underlying26 rfl (by kernel_rfl)) rfl ?_;exact⟨_,_,zE,zG1 aD aA,zF1 aJ aA,zb⟩

def strings_Join.f (l0:List ByteArray) (a1:ByteArray):Option (ByteArray):=if (Go.Lib.join (l0.map (·.data.toList)) a1.data.toList).length≤140737488355328 then(if l0.length≤140737488355328 then some (⟨(Go.Lib.join (l0.map (·.data.toList)) a1.data.toList).toArray⟩:ByteArray) else none) else none
theorem strings_Join.calls (A0:Option Addr) (c0:Nat) (l0:List ByteArray) (a1:ByteArray) (r:ByteArray) (w:World) (aG:Kd.C Kd.string w A0 l0.length l0) (aH:l0.length≤c0) (h:strings_Join.f l0 a1=some r) :
  Calls Tryd.prog 27 #[.slice A0 l0.length c0,.string a1] w fun e w'=>e=.returned (.string r)∧Below w.heap.size w w':=by
 unfold strings_Join.f at h
 by_cases c:(Go.Lib.join (l0.map (·.data.toList)) a1.data.toList).length≤140737488355328
 ·rw[if_pos c] at h
  by_cases c':l0.length≤140737488355328
  ·rw[if_pos c'] at h
   obtain rfl:=Option.some.inj h
   by_cases hz:l0=[]
   ·subst hz
    refine(Tryd.strings_Join_none A0 c0 a1 w).mono ?_
    rintro e w' ⟨rfl,rfl⟩
    exact⟨rfl,Below.refl _ _⟩
   ·obtain⟨h1,h2,h3⟩:=aG
    have hp:0<l0.length:=List.length_pos_iff.mpr hz
    obtain⟨ad,rfl,hc⟩:=h3 hp
    have hcell:∀ (j:Nat) x,l0[j]?=some x→w.cell? (ad.add j)=some (.string x):=by
     intro j x hx
     obtain⟨cs,hl,hR,hu⟩:=hc j x hx
     have hcs:cs=[.string x]:=hR
     subst hcs
     have:=hu 0 (.string x) rfl
     rw[show Kd.string.sz=1 from rfl,Nat.mul_one,Nat.add_zero] at this
     exact this
    obtain⟨bk,o,pth⟩:=ad
    have hs:pth=none:=by
     obtain⟨x,hx⟩:∃ x,l0[0]?=some x:=⟨l0[0],List.getElem?_eq_getElem hp⟩
     have:=hcell 0 x hx
     simp only[Addr.add,if_true,World.cell?] at this
     split at this
     ·split at this
      ·cases this
      ·rename_i hn
       cases pth with
       |none=>rfl
       |some y=>simp at hn
     ·cases this
    subst hs
    have hcell':∀ (j:Nat) x,l0[j]?=some x→w.cell? ⟨bk,o+j,none⟩=some (.string x):=by
     intro j x hx
     have:=hcell j x hx
     unfold Addr.add at this
     by_cases hj:j=0
     ·subst hj;simpa using this
     ·simpa [hj] using this
    have hbk:bk<w.heap.size:=by
     obtain⟨x,hx⟩:∃ x,l0[0]?=some x:=⟨l0[0],List.getElem?_eq_getElem hp⟩
     have:=hcell' 0 x hx
     simp only[World.cell?] at this
     rcases Nat.lt_or_ge bk w.heap.size with hl|hl
     ·exact hl
     ·rw[Array.getElem?_eq_none hl] at this
      cases this
    exact Tryd.strings_Join bk o c0 l0 a1 w hcell' hbk c' aH c
  ·rw[if_neg c'] at h
   exact absurd h (by simp)
 ·rw[if_neg c] at h
  exact absurd h (by simp)

def impl_WayText.l0:Nat→List ByteArray→List Int→Int→Int→Int→Int→List Int→Option (ByteArray)
  |0,_,_,_,_,_,_,_=>none
  |k+1,x5,x12,x13,x14,x427000,x427001,x427002=>if x14<x13 then(if 0≤x14 then(if x14<(x12.length:Int) then((impl_IsCell.f k x427000 x427001 x427002 (rd x12 x14)).bind fun t432=>(if t432=true then((impl_CellText.f k x427000 x427001 x427002 (rd x12 x14)).bind fun t433=>(if x5.length<8796093022208 then(impl_WayText.l0 k (x5++[t433]) x12 x13 (wrap64 (x14+1)) x427000 x427001 x427002) else(none))) else(some (⟨#[]⟩:ByteArray)))) else(none)) else(none)) else((strings_Join.f x5 (⟨#[45]⟩:ByteArray)).bind fun t430=>(some t430))
def impl_WayText.f (k:Nat) (a0_0:Int) (a0_1:Int) (l0_2:List Int) (l1:List Int):Option (ByteArray):=if (l1.length:Int)=0 then(some (⟨#[45]⟩:ByteArray)) else(impl_WayText.l0 k (([]:List ByteArray)) l1 (l1.length:Int) 0 a0_0 a0_1 l0_2)
theorem impl_WayText.calls (k:Nat) (aG:Int) (aE:Int) (aM:Option Addr) (aK:Nat) (aD:List Int) (A1:Option Addr) (c1:Nat) (l1:List Int) (r:ByteArray) (w:World) (hT:Tryd.TabW w) (aX:Kd.C (Kd.int .i64) w aM aD.length aD) (aY:aD.length≤aK) (bK:Kd.C (Kd.int .i64) w A1 l1.length l1) (bL:l1.length≤c1) (h:impl_WayText.f k aG aE aD l1=some r) :
  Calls Tryd.prog 11 #[.agg #[.int .i64 aG,.int .i64 aE,.slice aM aD.length aK],.slice A1 l1.length c1] w fun e w'=>e=.returned (.string r)∧Below w.heap.size w w':=by
 have hu26:=Tryd.underlying26;have aU:=zA aX;have aV:=zA aY;clear aX aY;have bM:=zA bK;have dA:=zA bL;clear bK bL;have HB:=zA (Below.refl w.heap.size w);have H:=h;clear h;unfold impl_WayText.f at H
 by_cases c3:(l1.length:Int)=0
 ·rw[if_pos c3] at H;have bE:((l1.length:Int)==0)=true:=beq_iff_eq.mpr c3;have bD:((l1.length:Int) != 0)=false:=bne_eq_false_iff_eq.mpr c3;clear c3;obtain rfl:=zI H;go_enter Tryd.func11,Tryd.ntmps11
  go_wp2_with (first|((with_reducible refine zgd 2 rfl ?_);refine zbx 2 #[.int .i64 aG,.int .i64 aE,.slice aM aD.length aK] 26 ?_;intro aZ hg w4 hbox hb;have aA:=zA hbox;have bJ:=zga (w:=w) hg;replace HB:=zbs hb;clear hb hbox hg))
  go_ret;exact⟨zE,zb⟩
 ·rw[if_neg c3] at H;have bE:((l1.length:Int)==0)=false:=beq_eq_false_iff_ne.mpr c3;have bD:((l1.length:Int) != 0)=true:=bne_iff_ne.mpr c3;have bV:¬ (l1=[]):=fun h_=>c3 (by rw[h_];rfl);obtain⟨bC,aT⟩:∃ y_:List ByteArray,y_=(([]:List ByteArray)):=⟨_,rfl⟩
  replace H:(impl_WayText.l0 k bC l1 (l1.length:Int) 0 aG aE aD)=some r:=zY aT H
  have Ny427:=zA aT;clear aT;have H':=zA H;clear H;go_enter Tryd.func11,Tryd.ntmps11
  go_wp2_with (first|((with_reducible refine zgd 2 rfl ?_);refine zbx 2 #[.int .i64 aG,.int .i64 aE,.slice aM aD.length aK] 26 ?_;intro aZ hg w5 hbox hb;have aA:=zA hbox;have bJ:=zga (w:=w) hg;replace HB:=zbs hb;clear hb hbox hg)|((with_reducible refine zgd 11 rfl ?_);refine Kd.R_lit Kd.string _ 9 ?hg (N:=11) ?hd (xs:=([]:List ByteArray)) (inner:=[]) (ok:=fun _=>True) (okp:=fun _=>True) ?hr ?hp (fun _ hk=>hk) trivial (Below.refl _ _) (Nat.le_refl _) (by simp) ?_;(case hd=>rfl);(case hg=>rfl);(case hr=>first|(go_simp;done)|(go_simp;rfl));(case hp=>exact(Reps.none _ _));intro v428 w6 ho7 hb hg_ hnew_;clear hg_ hnew_;(first|rw[←Ny427.out] at ho7|(simp only[Int.reduceToNat] at ho7;rw[←Ny427.out] at ho7));have bI:=zA (Kd.R_lower ho7 (below_size zb));replace aA:=zkb aA hb;replace HB:=zbs hb;clear hb ho7))
  go_loopg [5,14] k (fun kq v5 v14 w'=>∃ (aN:List ByteArray) (aC:Int),v14=.int .i64 aC∧Aside0 (impl_WayText.l0 kq aN l1 (l1.length:Int) aC aG aE aD=some r)∧Aside0 (kq≤k)∧Aside0 (Kd.R Kd.string 9 w' w.heap.size (fun _=>True) v5 aN)∧Aside0 (w'.heap[aZ]?=some (.cells #[.int .i64 aG,.int .i64 aE,(.slice aM aD.length aK)] 26 (0,0)))∧Aside0 (Below w.heap.size w w'))
  case atStart=>exact⟨(bC),(0),zr,H',⟨Nat.le_refl _⟩,⟨zR bI⟩,⟨zk aA⟩,⟨zb⟩⟩
  case round =>
   clear H';(try clear c1);(try clear c3);(try clear bE);(try clear bD);(try clear bV);obtain⟨aN,aC,rfl,HA,HK1,aH,aA,HB⟩:=hrel
   cases gk with
   |zero=>exact absurd HA.out (by simp[impl_WayText.l0])
   |succ k1 =>
    have H:=HA.out;clear HA;simp only[impl_WayText.l0] at H
    by_cases c8:aC<(l1.length:Int)
    ·rw[if_pos c8] at H;have bU:=decide_eq_true c8;clear c8;obtain⟨cU,H⟩:=zifD H;obtain⟨cT,H⟩:=zifD H;obtain⟨bO,bN,H⟩:=zB H
     by_cases bA:bO=true
     ·subst bA;rw[if_pos rfl] at H;obtain⟨aQ,cR,H⟩:=zB H;obtain⟨bG,H⟩:=zifA H;obtain⟨bB,aR⟩:∃ y_:List ByteArray,y_=(aN++[aQ]):=⟨_,rfl⟩
      replace H:(impl_WayText.l0 k1 bB l1 (l1.length:Int) (wrap64 (aC+1)) aG aE aD)=some r:=zY aR H
      have Ny434:=zA aR;clear aR;have H':=zA H;clear H;have bR:=zT (0≤(aC:Int));have bQ:=zT (aC<(l1.length:Int));obtain⟨bF,aW,aJ⟩:=Kd.at_int bM.out aC zd zd;cases aW;replace aJ:=zC HB aJ;obtain⟨cP,cO,cN,cG,cF,cE⟩:=ze3 aA
      go_wp2_with (first|((with_reducible refine zgf 7 rfl ?_);refine goesL_ (some 20) rfl rfl Tryd.func7 (by kernel_rfl) rfl #[.agg #[.int .i64 aG,.int .i64 aE,.slice aM aD.length aK],.int .i64 (rd l1 aC)] rfl zm ?_;(with_reducible refine(impl_IsCell.calls k1 aG aE _ _ aD (rd l1 aC) true _ ?s1 ?s2 bN.out).mono ?_);(case s1=>exact zCb aU);(case s2=>exact aV.out);rintro e cZ ⟨rfl,hb⟩;refine⟨_,rfl,?_⟩;replace aH:=zRb aH hb;replace aA:=zkb aA hb;replace HB:=zbs hb;(try clear hb);obtain⟨cM,cL,cK,cD,cC,cB⟩:=ze3 aA)|((with_reducible refine zgf 6 rfl ?_);refine goesL_ (some 25) rfl rfl Tryd.func6 (by kernel_rfl) rfl #[.agg #[.int .i64 aG,.int .i64 aE,.slice aM aD.length aK],.int .i64 (rd l1 aC)] rfl zm ?_;(with_reducible refine(impl_CellText.calls k1 aG aE _ _ aD (rd l1 aC) aQ _ (hT.step HB.out) ?s1 ?s2 cR.out).mono ?_);(case s1=>exact zCb aU);(case s2=>exact aV.out);rintro e cY ⟨rfl,hb⟩;refine⟨_,rfl,?_⟩;replace aH:=zRb aH hb;replace aA:=zkb aA hb;replace HB:=zbs hb;(try clear hb))|((with_reducible refine gate_builtin (b:=.append) (xs:=#[.tmp 22,.tmp 26]) rfl ?_);at_builtin;refine Kd.R_append Kd.string (w0:=w) w.heap.size rfl (.tmp 22) (.tmp 26) 55 9 (.string ⟨#[]⟩) 16 rfl Tryd.underlying55 info9 rfl (by decide) (by omega) u5 aN aQ [.string aQ] (fun _=>True) (fun _=>False) rfl rfl ?aP (fun _ hk=>hk.elim) ?aF ?aO ?aB ?aS ?aL ?_;(case aP=>exact rfl);(case aB=>exact zb);(case aF=>exact(fun _ _=>trivial));(case aO=>exact(zR aH));(case aS=>exact(below_size zb));(case aL=>have:=bG.out;omega);intro v435 cX ho hb hg hat;rw[←Ny434.out] at ho;replace aA:=zgr aA hg (Kd.R_ne aH.out aA.out (by decide));replace HB:=zA hb;have bH:=zA ho;clear aH;clear ho hb hg hat))
      go_roundg k1
      case measure=>have:=HK1.out;omega
      case rel=>exact⟨(bB),(wrap64 (aC+1)),zr,H',⟨by have:=HK1.out;omega⟩,⟨zR bH⟩,⟨zk aA⟩,⟨zb⟩⟩
     ·replace bA:=Bool.eq_false_iff.mpr bA;subst bA;rw[if_neg zNo] at H;obtain rfl:=zI H;have bR:=zT (0≤(aC:Int));have bQ:=zT (aC<(l1.length:Int));obtain⟨bF,aW,aJ⟩:=Kd.at_int bM.out aC zd zd;cases aW;replace aJ:=zC HB aJ;obtain⟨cJ,cI,cH,cA,bZ,bY⟩:=ze3 aA
      go_wp2_with (first|((with_reducible refine zgf 7 rfl ?_);refine goesL_ (some 20) rfl rfl Tryd.func7 (by kernel_rfl) rfl #[.agg #[.int .i64 aG,.int .i64 aE,.slice aM aD.length aK],.int .i64 (rd l1 aC)] rfl zm ?_;(with_reducible refine(impl_IsCell.calls k1 aG aE _ _ aD (rd l1 aC) false _ ?s1 ?s2 bN.out).mono ?_);(case s1=>exact zCb aU);(case s2=>exact aV.out);rintro e cW ⟨rfl,hb⟩;refine⟨_,rfl,?_⟩;replace aH:=zRb aH hb;replace aA:=zkb aA hb;replace HB:=zbs hb;(try clear hb)))
      go_ret;exact⟨zE,zb⟩
    ·rw[if_neg c8] at H;have bU:=decide_eq_false c8;clear c8;obtain⟨bP,cQ,H⟩:=zB H;obtain rfl:=zI H;obtain⟨bX,bT,bS⟩:=Kd.R_slice aH.out;subst bS
     go_wp2_with (first|((with_reducible refine zgf 27 rfl ?_);refine goesL_ (some 30) rfl rfl Tryd.func27 (by kernel_rfl) rfl #[.slice bX aN.length bT,.string (⟨#[45]⟩:ByteArray)] rfl zm ?_;(with_reducible refine(strings_Join.calls _ _ aN (⟨#[45]⟩:ByteArray) bP _ ?s1 ?s2 cQ.out).mono ?_);(case s1=>exact zCx (Kd.R_reads' aH.out).2.2);(case s2=>exact(Kd.R_reads' aH.out).2.1);rintro e cV ⟨rfl,hb⟩;refine⟨_,rfl,?_⟩;replace aH:=zRb aH hb;replace aA:=zkb aA hb;replace HB:=zbs hb;(try clear hb)))
     go_ret;exact⟨zE,zb⟩

def spec_l6Rule.f (s0_0:List Int) (s0_1:Int) (s0_2:Int):Option (Int × Int × Int × Int):=(spec_l1Below.f s0_0 s0_1 s0_2 6).bind fun bt438=>((spec_l1Below.f s0_0 bt438.2.1 bt438.2.2 (wrap64 (1+bt438.1))).bind fun bt441=>(some (bt441.1,wrap64 (1+bt438.1),bt441.2.1,bt441.2.2)))
theorem spec_l6Rule.calls (g:Nat) (s0_0:List Int) (s0_1:Int) (s0_2:Int) (r1:Int) (r2:Int) (r3:Int) (r4:Int) (w0 w:World) (hI:IsS66 w0 w g s0_0 s0_1 s0_2) (hB:Below w0.heap.size w0 w) (h:spec_l6Rule.f s0_0 s0_1 s0_2=some (r1,r2,r3,r4)) :
  Calls Tryd.prog 64 #[.pointer (some ⟨g,0,none⟩)] w fun e w'=>e=.returned (.agg #[.int .i64 r1,.int .i64 r2])∧IsS66 w0 w' g s0_0 r3 r4∧Below w0.heap.size w0 w'∧KeepBut w w' g none:=by
 have hu81:=Tryd.underlying81;have HI0:=zA hI;have HK:=zA (KeepBut.refl w g none);have HL:=zA hB.size;clear hI;have HW0:=zA hB.size;have HB:=zA hB;clear hB;have H:=h;clear h;unfold spec_l6Rule.f at H;obtain⟨⟨aG,aM,aK⟩,A2,H⟩:=zB H;obtain⟨⟨aJ,aQ,aN⟩,A3,H⟩:=zB H;simp only[Option.some.injEq,Prod.mk.injEq] at H;obtain⟨rfl,rfl,rfl,rfl⟩:=H;go_enter Tryd.func64,Tryd.ntmps64
 go_wp2_with (first|((with_reducible refine zgd 2 rfl ?_);refine zbx 2 #[.int .i64 0,.int .i64 0] 81 ?_;intro aA hg w4 hbox hb;replace HB:=zA (below_step zB0 hb);have aD:=zA hbox;have aH:=zA ((by rw[hg];exact(keep_size (w:=w) (g:=g) (row:=none) zK0):w.heap.size≤aA));have aI:=zA ((Nat.le_trans HW0.out (by rw[hg];exact(keep_size (w:=w) (g:=g) (row:=none) zK0):w.heap.size≤aA):w0.heap.size≤aA));replace HK:=zA (KeepBut.trans zK0 (KeepBut.of_below hb g none) (.inl rfl));have aC:=zA ((by rw[hg];exact Nat.ne_of_lt (IsS66.lt (show IsS66 w0 _ g s0_0 s0_1 s0_2 from zI0)):g≠aA));have aE:=zA ((by rw[hg];exact Nat.ne_of_gt (IsS66.lt (show IsS66 w0 _ g s0_0 s0_1 s0_2 from zI0)):aA≠g));replace HI0:=zA (IsS66.below zI0 hb);clear hb hbox hg)|((with_reducible refine zgf 39 rfl ?_);refine goesL_ (some 5) rfl rfl Tryd.func39 (by kernel_rfl) rfl #[.pointer (some ⟨g,0,none⟩),.int .i64 6] rfl zm ?_;(with_reducible refine(spec_l1Below.calls g s0_0 s0_1 s0_2 6 aG aM aK w0 _ ?s1 ?s2 A2.out).mono ?_);(case s1=>exact zI0);(case s2=>exact zB0);rintro e w5 ⟨rfl,hi,hb,hk⟩;refine⟨_,rfl,?_⟩;replace aD:=zA (KeepBut.blk hk (g':=aA) (o:=.cells #[.int .i64 0,.int .i64 0] 81 (0,0)) (zk aD) aE.out (by simp));replace HK:=zA (KeepBut.trans zK0 hk (.inl rfl));replace HB:=zA hb;replace HI0:=zA (hi);(try clear hb))|((with_reducible refine zgf 39 rfl ?_);refine goesL_ (some 9) rfl rfl Tryd.func39 (by kernel_rfl) rfl #[.pointer (some ⟨g,0,none⟩),.int .i64 (wrap64 (1+aG))] rfl zm ?_;(with_reducible refine(spec_l1Below.calls g s0_0 aM aK (wrap64 (1+aG)) aJ aQ aN w0 _ ?s1 ?s2 A3.out).mono ?_);(case s1=>exact zI0);(case s2=>exact zB0);rintro e w6 ⟨rfl,hi,hb,hk⟩;refine⟨_,rfl,?_⟩;replace aD:=zA (KeepBut.blk hk (g':=aA) (o:=.cells #[.int .i64 0,.int .i64 0] 81 (0,0)) (zk aD) aE.out (by simp));replace HK:=zA (KeepBut.trans zK0 hk (.inl rfl));replace HB:=zA hb;replace HI0:=zA (hi);(try clear hb);have aX:=aE.out;have aW:=aC.out;obtain⟨aV,aU,aT,aR⟩:=ze2 aD))
 refine bodyPost_ret (results_cell_row rfl _ _ aA 81 #[.int .i64 aJ,.int .i64 (wrap64 (1+aG))] (0,0) _ rfl (zkp aD) Tryd.underlying81 rfl (by kernel_rfl)) rfl ?_;exact⟨zE,zI0,zB0,zK0⟩

def spec_IsRule.f (a0_0:Int) (a0_1:Int):Option (Bool):=(spec_l1In.f a0_1 1 10).bind fun t445=>(if t445=true then((spec_l1In.f a0_0 0 (wrap64 (a0_1-1))).bind fun t446=>(some t446)) else(some false))
theorem spec_IsRule.calls (aC:Int) (aA:Int) (r:Bool) (w:World) (h:spec_IsRule.f aC aA=some r) :
  Calls Tryd.prog 83 #[.agg #[.int .i64 aC,.int .i64 aA]] w fun e w'=>e=.returned (.bool r)∧Below w.heap.size w w':=by
 have hu81:=Tryd.underlying81;have HB:=zA (Below.refl w.heap.size w);have H:=h;clear h;unfold spec_IsRule.f at H;obtain⟨aJ,A2,H⟩:=zB H
 by_cases c3:aJ=true
 ·subst c3;rw[if_pos rfl] at H;obtain⟨aI,A4,H⟩:=zB H;obtain rfl:=zI H;go_enter Tryd.func83,Tryd.ntmps83
  go_wp2_with (first|((with_reducible refine zgd 1 rfl ?_);refine zbx 1 #[.int .i64 aC,.int .i64 aA] 81 ?_;intro aE hg w5 hbox hb;have aD:=zA hbox;have aH:=zga (w:=w) hg;replace HB:=zbs hb;clear hb hbox hg;obtain⟨aV,aU,aQ,aN⟩:=ze2 aD)|((with_reducible refine zgf 56 rfl ?_);refine goesL_ (some 5) rfl rfl Tryd.func56 (by kernel_rfl) rfl #[.int .i64 aA,.int .i64 1,.int .i64 10] rfl zm ?_;(with_reducible refine(spec_l1In.calls aA 1 10 true _ A2.out).mono ?_);rintro e w' ⟨rfl,⟨nd,rfl⟩⟩;refine⟨_,rfl,?_⟩)|(go_at_call 56;(with_reducible refine(spec_l1In.calls aC 0 (wrap64 (aA-1)) aI _ A4.out).mono ?_);rintro e w' ⟨rfl,⟨nd,rfl⟩⟩))
  go_ret;exact⟨zE,zb⟩
 ·replace c3:=Bool.eq_false_iff.mpr c3;subst c3;rw[if_neg zNo] at H;obtain rfl:=zI H;go_enter Tryd.func83,Tryd.ntmps83
  go_wp2_with (first|((with_reducible refine zgd 1 rfl ?_);refine zbx 1 #[.int .i64 aC,.int .i64 aA] 81 ?_;intro aE hg w7 hbox hb;have aD:=zA hbox;have aH:=zga (w:=w) hg;replace HB:=zbs hb;clear hb hbox hg;obtain⟨aT,aR,aM,aK⟩:=ze2 aD)|((with_reducible refine zgf 56 rfl ?_);refine goesL_ (some 5) rfl rfl Tryd.func56 (by kernel_rfl) rfl #[.int .i64 aA,.int .i64 1,.int .i64 10] rfl zm ?_;(with_reducible refine(spec_l1In.calls aA 1 10 false _ A2.out).mono ?_);rintro e w' ⟨rfl,⟨nd,rfl⟩⟩;refine⟨_,rfl,?_⟩))
  go_ret;exact⟨zE,zb⟩

def spec_CountStorms.l0:Nat→List Bool→Int→Int→Option (Int)
  |0,_,_,_=>none
  |k+1,x0,x3,x4=>if x4<(x0.length:Int) then(if 0≤x4 then(if rdOf false x0 x4=true then(spec_CountStorms.l0 k x0 (wrap64 (x3+1)) (wrap64 (x4+1))) else(spec_CountStorms.l0 k x0 x3 (wrap64 (x4+1)))) else(none)) else(some x3)
def spec_CountStorms.f (k:Nat) (l0:List Bool):Option (Int):=spec_CountStorms.l0 k l0 0 0
theorem spec_CountStorms.calls (k:Nat) (A0:Option Addr) (c0:Nat) (l0:List Bool) (r:Int) (w:World) (aM:Kd.C Kd.bool w A0 l0.length l0) (aN:l0.length≤c0) (h:spec_CountStorms.f k l0=some r) :
  Calls Tryd.prog 84 #[.slice A0 l0.length c0] w fun e w'=>e=.returned (.int .i64 r)∧Drawn0 w w':=by
 have aQ:=zA aM;have aW:=zA aN;clear aM aN;have H:=h;clear h;unfold spec_CountStorms.f at H;have H':=zA H;clear H;go_enter Tryd.func84,Tryd.ntmps84;go_wp2
 go_loopg [3,4] k (fun kq v3 v4 w'=>∃ (aC:Int) (aA:Int),v3=.int .i64 aC∧v4=.int .i64 aA∧Aside0 (spec_CountStorms.l0 kq l0 aC aA=some r)∧Aside0 (kq≤k)∧Drawn0 w w')
 case atStart=>exact⟨(0),(0),zr,zr,H',⟨Nat.le_refl _⟩,by repeat (first|exact Drawn0.refl _|apply Drawn0.step)⟩
 case round =>
  clear H';obtain⟨aC,aA,rfl,rfl,HA,HK1,⟨m1,rfl⟩⟩:=hrel
  cases gk with
  |zero=>exact absurd HA.out (by simp[spec_CountStorms.l0])
  |succ k1 =>
   have H:=HA.out;clear HA;simp only[spec_CountStorms.l0] at H
   by_cases c2:aA<(l0.length:Int)
   ·rw[if_pos c2] at H;have aR:=decide_eq_true c2;clear c2;obtain⟨aV,H⟩:=zifD H;obtain⟨bq4,hbq4⟩:∃ b_:Bool,b_=(rdOf false l0 aA):=⟨_,rfl⟩
    replace H:(if bq4=true then(spec_CountStorms.l0 k1 l0 (wrap64 (aC+1)) (wrap64 (aA+1))) else(spec_CountStorms.l0 k1 l0 aC (wrap64 (aA+1))))=some r:=by rw[←hbq4] at H;exact H
    have Nbq4:=zA hbq4;clear hbq4
    by_cases c5:bq4=true
    ·subst c5;rw[if_pos rfl] at H;have H':=zA H;clear H;have aE:0≤(aA:Int):=zd;have aD:aA<(l0.length:Int):=zd;obtain⟨aK,aI,aG⟩:=Kd.at_bool aQ.out aA aE aD;(try rw[←Nbq4.out] at aG);cases aI;replace aE:=eq_true aE;replace aD:=eq_true aD;go_wp2
     go_roundg k1
     case measure=>have:=HK1.out;omega
     case rel=>exact⟨(wrap64 (aC+1)),(wrap64 (aA+1)),zr,zr,H',⟨by have:=HK1.out;omega⟩,by repeat (first|exact Drawn0.refl _|apply Drawn0.step)⟩
    ·replace c5:=Bool.eq_false_iff.mpr c5;subst c5;rw[if_neg zNo] at H;have H':=zA H;clear H;have aE:0≤(aA:Int):=zd;have aD:aA<(l0.length:Int):=zd;obtain⟨aK,aI,aG⟩:=Kd.at_bool aQ.out aA aE aD;(try rw[←Nbq4.out] at aG);cases aI;replace aE:=eq_true aE;replace aD:=eq_true aD;go_wp2
     go_roundg k1
     case measure=>have:=HK1.out;omega
     case rel=>exact⟨(aC),(wrap64 (aA+1)),zr,zr,H',⟨by have:=HK1.out;omega⟩,by repeat (first|exact Drawn0.refl _|apply Drawn0.step)⟩
   ·rw[if_neg c2] at H;have aR:=decide_eq_false c2;clear c2;obtain rfl:=zI H;go_wp2;go_ret;exact⟨by first|rfl|(simp;done)|(simp[*];done),by repeat (first|exact Drawn0.refl _|apply Drawn0.step)⟩

def spec_Max.f (a0:Int) (a1:Int):Option (Int):=if a1>a0 then(some a1) else(some a0)
theorem spec_Max.calls (a0:Int) (a1:Int) (r:Int) (w:World) (h:spec_Max.f a0 a1=some r) :
  Calls Tryd.prog 85 #[.int .i64 a0,.int .i64 a1] w fun e w'=>e=.returned (.int .i64 r)∧Drawn0 w w':=by
 have H:=h;clear h;unfold spec_Max.f at H
 by_cases c3:a1>a0
 ·rw[if_pos c3] at H;have aD:decide (a0<a1)=true:=decide_eq_true c3;clear c3;obtain rfl:=zI H;go_enter Tryd.func85,Tryd.ntmps85;go_wp2;go_ret;exact⟨by first|rfl|(simp;done)|(simp[*];done),by repeat (first|exact Drawn0.refl _|apply Drawn0.step)⟩
 ·rw[if_neg c3] at H;have aD:decide (a0<a1)=false:=decide_eq_false c3;clear c3;obtain rfl:=zI H;go_enter Tryd.func85,Tryd.ntmps85;go_wp2;go_ret;exact⟨by first|rfl|(simp;done)|(simp[*];done),by repeat (first|exact Drawn0.refl _|apply Drawn0.step)⟩

def spec_MayStorm.f (k:Nat) (a0_0:Int) (a0_1:Int) (l1:List Bool):Option (Bool):=(spec_IsRule.f a0_0 a0_1).bind fun t449=>(if t449=true then((spec_Max.f 0 (wrap64 ((wrap64 ((l1.length:Int)+1))-a0_1))).bind fun t450=>(if 0≤t450 then(if t450≤(l1.length:Int) then((spec_CountStorms.f k (l1.drop (t450:Int).toNat)).bind fun t452=>(some (decide (t452<a0_0)))) else(none)) else(none))) else(some false))
def spec_MayStorm.T1:Bool × List (List Nat × List Nat):=(true,[([],[]),([0],[0]),([1,1],[1]),([2],[2]),([2],[2]),([4,2],[2,4]),([5,2],[2,5]),([2],[2]),([7,2],[2,7]),([6,8,2],[2,6,8]),([9,2,2],[2,9]),([3,10,2],[2,3,10]),([11,10,2],[2,11]),([2],[2]),([13,2],[2,13]),([12,14,2],[2,12,14]),([2,15],[2,15]),([16,12,0,1,2,3,4,5,6,7,8,9,10,11,12,13,14,15,16],[16])])
def spec_MayStorm.B1:List Nat:=[0,1,3,7,7,23,55,7,135,503,1015,2047,4095,7,8199,32767,65535,131071]
theorem spec_MayStorm.tab1:rtab .any (opsOf Tryd.f77 1)=spec_MayStorm.T1:=by kernel_rfl
theorem spec_MayStorm.bits1:waitsOk spec_MayStorm.T1.2 spec_MayStorm.B1=true:=by kernel_rfl
theorem spec_MayStorm.calls (k:Nat) (aD:Int) (aC:Int) (A1:Option Addr) (c1:Nat) (l1:List Bool) (r:Bool) (w:World) (aQ:Kd.C Kd.bool w A1 l1.length l1) (aR:l1.length≤c1) (h:spec_MayStorm.f k aD aC l1=some r) :
  Calls Tryd.prog 77 #[.agg #[.int .i64 aD,.int .i64 aC],.slice A1 l1.length c1] w fun e w'=>e=.returned (.bool r)∧Below w.heap.size w w':=by
 have hu81:=Tryd.underlying81;have aZ:=zA aQ;have bA:=zA aR;clear aQ aR;have HB:=zA (Below.refl w.heap.size w);have H:=h;clear h;unfold spec_MayStorm.f at H;obtain⟨aU,A3,H⟩:=zB H
 by_cases c4:aU=true
 ·subst c4;rw[if_pos rfl] at H;obtain⟨aE,A5,H⟩:=zB H;obtain⟨c6,H⟩:=zif H;have bH:=eq_true c6;have bG:=decide_eq_true c6;clear c6;obtain⟨c7,H⟩:=zif H;have bF:=eq_true c7;have bE:=decide_eq_true c7;clear c7;obtain⟨aT,A8,H⟩:=zB H;obtain rfl:=zI H;go_enter Tryd.func77,Tryd.ntmps77
  try go_wp2_with (first|((with_reducible refine zgd 2 rfl ?_);(try (refine gate_guard (by rfl) ?_;dsimp only));refine zbx 2 #[.int .i64 aD,.int .i64 aC] 81 ?_;intro aG hg w9 hbox hb;have aA:=zA hbox;have aN:=zga (w:=w) hg;replace HB:=zbs hb;clear hb hbox hg))
  replace aA:=zA (blk_drew aA.out);replace HB:=zA (below_drew1 HB.out);refine start_ (n:=18) (S:=fun w'=>w'.cell? ⟨aG,0,none⟩=some (.int .i64 aD)∧w'.cell? ⟨aG,1,none⟩=some (.int .i64 aC)) (ds:=[]) _ (by kernel_rfl) rfl rfl ⟨zq aA 0,zq aA 1⟩ (fun hHeld=>?_);refine with_tabW spec_MayStorm.tab1 spec_MayStorm.bits1 (fun HT_ HW_=>?_);generalize w9.drew=bN at aA HB hHeld ⊢;refine zt 0 5 HT_ HW_ hHeld ?_;refine zo 1 6 HT_ (fun K hK=>?_);refine goes_ Tryd.func83 (by kernel_rfl) rfl #[.agg #[.int .i64 aD,.int .i64 aC]] (by rfl) rfl rfl zm ?_
  with_reducible refine(spec_IsRule.calls aD aC true _ A3.out).mono ?_
  rintro e bM ⟨rfl,hb⟩;refine⟨_,rfl,?_⟩;replace aA:=zkb aA hb;replace HB:=zbs hb;(try clear hb);refine hK.out _ _ ⟨zq aA 0,zq aA 1⟩ (fun hHeld=>?_);clear hK K;refine norm_ zV ?_;refine zp 2 7 HT_ ?_;refine zp 3 8 HT_ ?_;refine zp 4 9 HT_ ?_;refine zp 5 10 HT_ ?_;refine zp 6 11 HT_ ?_;refine zp 7 12 HT_ ?_;refine zp 13 18 HT_ ?_;refine zt 8 13 HT_ HW_ hHeld ?_;refine zp 9 14 HT_ ?_;refine zt 14 19 HT_ HW_ hHeld ?_;refine zo 10 15 HT_ (fun K hK=>?_);refine goes_ Tryd.func85 (by kernel_rfl) rfl #[.int .i64 0,.int .i64 (wrap64 ((wrap64 ((l1.length:Int)+1))-aC))] (by rfl) rfl rfl zm ?_
  with_reducible refine(spec_Max.calls 0 (wrap64 ((wrap64 ((l1.length:Int)+1))-aC)) aE _ A5.out).mono ?_
  rintro e w' ⟨rfl,⟨nd,rfl⟩⟩;refine⟨_,rfl,?_⟩;obtain⟨i012,hi012,_,hsz12,_⟩:=info_parts info4;obtain⟨bC,hcut12,hA12,hC12⟩:=print_drop_of (P:=Tryd.prog) Value.bool false 37 4 .i64 Tryd.underlying37 hi012 hsz12 A1 c1 l1 aE zd zd bA.out;have aK:=zA (Kd.C_of_reads (h1:=fun _=>rfl) (hA12 _ (Kd.reads_of_C aZ.out)));have aM:=zA hC12;clear hA12 hC12 hi012 hsz12;refine hK.out _ _ ⟨zq aA 0,zq aA 1⟩ (fun hHeld=>?_);clear hK K;refine norm_ zV ?_;refine zp 11 16 HT_ ?_;refine zo 12 17 HT_ (fun K hK=>?_);refine goes_ Tryd.func84 (by kernel_rfl) rfl #[.slice bC (l1.drop (aE:Int).toNat).length (c1-aE.toNat)] (by rfl) rfl rfl (by(try simp only[List.map_toArray,List.map_cons,List.map_nil]);first|done|(rw[show (l1.drop (aE:Int).toNat).length=(l1.length-aE.toNat) from List.length_drop] <;> rfl)|rfl|(simp only[List.length_drop,List.length_take];rfl)) ?_
  with_reducible refine(spec_CountStorms.calls k _ _ (l1.drop (aE:Int).toNat) aT _ ?s1 ?s2 A8.out).mono ?_
  (case s1=>exact zCb aK);(case s2=>exact aM.out);rintro e w' ⟨rfl,⟨nd,rfl⟩⟩;refine⟨_,rfl,?_⟩;refine hK.out _ _ ⟨zq aA 0,zq aA 1⟩ (fun hHeld=>?_);clear hK K;refine norm_ zV ?_;refine zp 15 20 HT_ ?_;refine zp 16 21 HT_ ?_;refine zp 17 4 HT_ ?_;refine done_ (done_of HT_.out (by kernel_rfl)) ?_
  try go_wp2
  go_ret;exact⟨zE,zb⟩
 ·replace c4:=Bool.eq_false_iff.mpr c4;subst c4;rw[if_neg zNo] at H;obtain rfl:=zI H;go_enter Tryd.func77,Tryd.ntmps77
  try go_wp2_with (first|((with_reducible refine zgd 2 rfl ?_);(try (refine gate_guard (by rfl) ?_;dsimp only));refine zbx 2 #[.int .i64 aD,.int .i64 aC] 81 ?_;intro aG hg aY hbox hb;have aA:=zA hbox;have aN:=zga (w:=w) hg;replace HB:=zbs hb;clear hb hbox hg))
  replace aA:=zA (blk_drew aA.out);replace HB:=zA (below_drew1 HB.out);refine start_ (n:=18) (S:=fun w'=>w'.cell? ⟨aG,0,none⟩=some (.int .i64 aD)∧w'.cell? ⟨aG,1,none⟩=some (.int .i64 aC)) (ds:=[]) _ (by kernel_rfl) rfl rfl ⟨zq aA 0,zq aA 1⟩ (fun hHeld=>?_);refine with_tabW spec_MayStorm.tab1 spec_MayStorm.bits1 (fun HT_ HW_=>?_);generalize aY.drew=bL at aA HB hHeld ⊢;refine zt 0 5 HT_ HW_ hHeld ?_;refine zo 1 6 HT_ (fun K hK=>?_);refine goes_ Tryd.func83 (by kernel_rfl) rfl #[.agg #[.int .i64 aD,.int .i64 aC]] (by rfl) rfl rfl zm ?_
  with_reducible refine(spec_IsRule.calls aD aC false _ A3.out).mono ?_
  rintro e bK ⟨rfl,hb⟩;refine⟨_,rfl,?_⟩;replace aA:=zkb aA hb;replace HB:=zbs hb;(try clear hb);refine hK.out _ _ ⟨zq aA 0,zq aA 1⟩ (fun hHeld=>?_);clear hK K;refine norm_ zV ?_;refine zp 2 7 HT_ ?_;refine zu 3 8 HT_ ?_;refine zu 4 9 HT_ ?_;refine zu 5 10 HT_ ?_;refine zu 6 11 HT_ ?_;refine zu 7 12 HT_ ?_;refine zu 8 13 HT_ ?_;refine zu 9 14 HT_ ?_;refine zu 10 15 HT_ ?_;refine zu 11 16 HT_ ?_;refine zu 12 17 HT_ ?_;refine zu 13 18 HT_ ?_;refine zu 14 19 HT_ ?_;refine zu 15 20 HT_ ?_;refine zp 16 21 HT_ ?_;refine zp 17 4 HT_ ?_;refine done_ (done_of HT_.out (by kernel_rfl)) ?_
  try go_wp2
  go_ret;exact⟨zE,zb⟩

def spec_l6Past.l0:Nat→Int→List Bool→Int→List Int→Int→Int→Int→Int→Option (List Bool × Int × Int)
  |0,_,_,_,_,_,_,_,_=>none
  |k+1,x2,x7,x8,x1000,x1001,x1002,x454000,x454001=>if x8<x2 then((spec_MayStorm.f k x454000 x454001 x7).bind fun t457=>(if t457=true then((spec_l1Once.f x1000 x1001 x1002 2).bind fun bt458=>(if x7.length<140737488355328 then(spec_l6Past.l0 k x2 (x7++[bt458.1]) (wrap64 (x8+1)) x1000 bt458.2.1 bt458.2.2 x454000 x454001) else(none))) else(if x7.length<140737488355328 then(spec_l6Past.l0 k x2 (x7++[false]) (wrap64 (x8+1)) x1000 x1001 x1002 x454000 x454001) else(none)))) else(some (x7,x1001,x1002))
def spec_l6Past.f (k:Nat) (s0_0:List Int) (s0_1:Int) (s0_2:Int) (a1_0:Int) (a1_1:Int) (a2:Int):Option (List Bool × Int × Int):=spec_l6Past.l0 k a2 (([]:List Bool)) 0 s0_0 s0_1 s0_2 a1_0 a1_1
theorem spec_l6Past.calls (k:Nat) (g:Nat) (s0_0:List Int) (s0_1:Int) (s0_2:Int) (aK:Int) (aJ:Int) (a2:Int) (r1:List Bool) (r2:Int) (r3:Int) (w0 w:World) (hI:IsS66 w0 w g s0_0 s0_1 s0_2) (hB:Below w0.heap.size w0 w) (h:spec_l6Past.f k s0_0 s0_1 s0_2 aK aJ a2=some (r1,r2,r3)) :
  Calls Tryd.prog 70 #[.pointer (some ⟨g,0,none⟩),.agg #[.int .i64 aK,.int .i64 aJ],.int .i64 a2] w fun e w'=>∃ v0_:Value,e=.returned (v0_)∧Kd.R Kd.bool 4 w' w.heap.size (fun _=>True) v0_ r1∧IsS66 w0 w' g s0_0 r2 r3∧Below w0.heap.size w0 w'∧KeepBut w w' g none:=by
 have hu81:=Tryd.underlying81;have HI0:=zA hI;have HK:=zA (KeepBut.refl w g none);have HL:=zA hB.size;clear hI;have HW0:=zA hB.size;have HB:=zA hB;clear hB;have H:=h;clear h;unfold spec_l6Past.f at H;obtain⟨bC,aW⟩:∃ y_:List Bool,y_=(([]:List Bool)):=⟨_,rfl⟩
 replace H:(spec_l6Past.l0 k a2 bC 0 s0_0 s0_1 s0_2 aK aJ)=some (r1,r2,r3):=zY aW H
 have Ny454:=zA aW;clear aW;have H':=zA H;clear H;go_enter Tryd.func70,Tryd.ntmps70
 go_wp2_with (first|((with_reducible refine zgd 4 rfl ?_);refine zbx 4 #[.int .i64 aK,.int .i64 aJ] 81 ?_;intro aN hg w4 hbox hb;replace HB:=zA (below_step zB0 hb);have aA:=zA hbox;have aE:=zA ((by rw[hg];exact(keep_size (w:=w) (g:=g) (row:=none) zK0):w.heap.size≤aN));have aM:=zA ((Nat.le_trans HW0.out (by rw[hg];exact(keep_size (w:=w) (g:=g) (row:=none) zK0):w.heap.size≤aN):w0.heap.size≤aN));replace HK:=zA (KeepBut.trans zK0 (KeepBut.of_below hb g none) (.inl rfl));have aC:=zA ((by rw[hg];exact Nat.ne_of_lt (IsS66.lt (show IsS66 w0 _ g s0_0 s0_1 s0_2 from zI0)):g≠aN));have aR:=zA ((by rw[hg];exact Nat.ne_of_gt (IsS66.lt (show IsS66 w0 _ g s0_0 s0_1 s0_2 from zI0)):aN≠g));replace HI0:=zA (IsS66.below zI0 hb);clear hb hbox hg)|((with_reducible refine zgd 9 rfl ?_);refine Kd.R_lit Kd.bool _ 4 ?hg (N:=9) ?hd (xs:=([]:List Bool)) (inner:=[]) (ok:=fun _=>True) (okp:=fun _=>True) ?hr ?hp (fun _ hk=>hk) trivial (Below.refl _ _) (Nat.le_refl _) (by simp) ?_;(case hd=>rfl);(case hg=>rfl);(case hr=>first|(go_simp;done)|(go_simp;rfl));(case hp=>exact(Reps.none _ _));intro v455 w5 ho6 hb hg_ hnew_;clear hg_ hnew_;(first|rw[←Ny454.out] at ho6|(simp only[Int.reduceToNat] at ho6;rw[←Ny454.out] at ho6));have bM:=zA (Kd.R_lower ho6 (keep_size (w:=w) (g:=g) (row:=none) zK0));replace aA:=zkb aA hb;replace HK:=zA (KeepBut.trans zK0 (KeepBut.of_below hb g none) (.inl rfl));replace HB:=zA (below_step zB0 hb);replace HI0:=zA (IsS66.below zI0 hb);clear hb ho6))
 go_loopg [7,8] k (fun kq v7 v8 w'=>∃ (aG:List Bool) (aQ:Int) (aI:Int) (aH:Int),v8=.int .i64 aQ∧Aside0 (spec_l6Past.l0 kq a2 aG aQ s0_0 aI aH aK aJ=some (r1,r2,r3))∧Aside0 (kq≤k)∧Aside0 (Kd.R Kd.bool 4 w' w.heap.size (fun _=>True) v7 aG)∧Aside0 (w'.heap[aN]?=some (.cells #[.int .i64 aK,.int .i64 aJ] 81 (0,0)))∧Aside0 (IsS66 w0 w' g s0_0 aI aH)∧Aside0 (KeepBut w w' g none)∧Aside0 (Below w0.heap.size w0 w'))
 case atStart=>exact⟨(bC),(0),(s0_1),(s0_2),zr,H',⟨Nat.le_refl _⟩,⟨zR bM⟩,⟨zk aA⟩,⟨zI0⟩,⟨zK0⟩,⟨zB0⟩⟩
 case round =>
  clear H';obtain⟨aG,aQ,aI,aH,rfl,HA,HK1,aD,aA,HI0,HK,HB⟩:=hrel
  cases gk with
  |zero=>exact absurd HA.out (by simp[spec_l6Past.l0])
  |succ k1 =>
   have H:=HA.out;clear HA;simp only[spec_l6Past.l0] at H
   by_cases c7:aQ<a2
   ·rw[if_pos c7] at H;have bQ:=decide_eq_true c7;clear c7;obtain⟨bN,A8,H⟩:=zB H
    by_cases c9:bN=true
    ·subst c9;rw[if_pos rfl] at H;obtain⟨⟨aT,aY,aX⟩,cA,H⟩:=zB H;obtain⟨bJ,H⟩:=zifA H;obtain⟨bB,aV⟩:∃ y_:List Bool,y_=(aG++[aT]):=⟨_,rfl⟩
     replace H:(spec_l6Past.l0 k1 a2 bB (wrap64 (aQ+1)) s0_0 aY aX aK aJ)=some (r1,r2,r3):=zY aV H
     have Ny461:=zA aV;clear aV;have H':=zA H;clear H;have cE:=aR.out;have cC:=aC.out;obtain⟨bY,bX,bU,bT⟩:=ze2 aA;obtain⟨bG,bE,bP⟩:=Kd.R_slice aD.out;subst bP
     go_wp2_with (first|((with_reducible refine zgf 77 rfl ?_);refine goesL_ (some 18) rfl rfl Tryd.func77 (by kernel_rfl) rfl #[.agg #[.int .i64 aK,.int .i64 aJ],.slice bG aG.length bE] rfl zm ?_;(with_reducible refine(spec_MayStorm.calls k1 aK aJ _ _ aG true _ ?s1 ?s2 A8.out).mono ?_);(case s1=>exact zCx (Kd.R_reads' aD.out).2.2);(case s2=>exact(Kd.R_reads' aD.out).2.1);rintro e cJ ⟨rfl,hb⟩;refine⟨_,rfl,?_⟩;replace aD:=zRb aD hb;replace aA:=zkb aA hb;replace HK:=zA (KeepBut.trans zK0 (KeepBut.of_below hb g none) (.inl rfl));replace HB:=zA (below_step zB0 hb);replace HI0:=zA (IsS66.below zI0 hb);(try clear hb))|(go_at_call 46;(with_reducible refine(spec_l1Once.calls g s0_0 aI aH 2 aT aY aX w0 _ ?s1 ?s2 cA.out).mono ?_);(case s1=>exact zI0);(case s2=>exact zB0);rintro e cI ⟨rfl,hi,hb,hk⟩;replace aD:=zA (Kd.R_mono (Kd.R_keep (IsS66.apart (show IsS66 w0 _ g s0_0 aI aH from zI0) (zR aD) (by decide)) hk (fun _ h=>h.2)) (fun _ h=>h.1));replace aA:=zA (KeepBut.blk hk (g':=aN) (o:=.cells #[.int .i64 aK,.int .i64 aJ] 81 (0,0)) (zk aA) aR.out (by simp));replace HK:=zA (KeepBut.trans zK0 hk (.inl rfl));replace HB:=zA hb;replace HI0:=zA (hi);(try clear hb))|((with_reducible refine gate_builtin (b:=.append) (xs:=#[.tmp 15,.tmp 23]) rfl ?_);at_builtin;refine Kd.R_append Kd.bool w.heap.size rfl (.tmp 15) (.tmp 23) 37 4 (.bool false) 1 rfl Tryd.underlying37 info4 rfl (by decide) (by omega) (.slice bG aG.length bE) aG aT [.bool aT] (fun _=>True) (fun _=>False) rfl rfl ?aP (fun _ hk=>hk.elim) ?aF ?aO (Below.refl _ _) ?aS ?aL ?_;(case aP=>exact rfl);(case aF=>exact(fun _ _=>trivial));(case aO=>exact(zR aD));(case aS=>exact(keep_size (w:=w) (g:=g) (row:=none) zK0));(case aL=>have:=bJ.out;omega);intro v462 cH ho hb hg hat;rw[←Ny461.out] at ho;replace aA:=zgr aA hg (Kd.R_ne aD.out aA.out (by decide));replace HB:=zA (below_weaken zB0 HL.out hb);replace HI0:=zA (IsS66.grown zI0 hg (IsS66.own_ne HI0.out aD.out (by decide)));replace HK:=zA (KeepBut.trans zK0 (KeepBut.of_grown hg g) (Kd.R_base2 aD.out));have bL:=zA ho;clear aD;clear ho hb hg hat))
     go_roundg k1
     case measure=>have:=HK1.out;omega
     case rel=>exact⟨(bB),(wrap64 (aQ+1)),(aY),(aX),zr,H',⟨by have:=HK1.out;omega⟩,⟨zR bL⟩,⟨zk aA⟩,⟨zI0⟩,⟨zK0⟩,⟨zB0⟩⟩
    ·replace c9:=Bool.eq_false_iff.mpr c9;subst c9;rw[if_neg zNo] at H;obtain⟨bI,H⟩:=zifA H;obtain⟨bA,aU⟩:∃ y_:List Bool,y_=(aG++[false]):=⟨_,rfl⟩
     replace H:(spec_l6Past.l0 k1 a2 bA (wrap64 (aQ+1)) s0_0 aI aH aK aJ)=some (r1,r2,r3):=zY aU H
     have Ny464:=zA aU;clear aU;have H':=zA H;clear H;have cD:=aR.out;have cB:=aC.out;obtain⟨bW,bV,bS,bR⟩:=ze2 aA;obtain⟨bF,bD,bO⟩:=Kd.R_slice aD.out;subst bO
     go_wp2_with (first|((with_reducible refine zgf 77 rfl ?_);refine goesL_ (some 18) rfl rfl Tryd.func77 (by kernel_rfl) rfl #[.agg #[.int .i64 aK,.int .i64 aJ],.slice bF aG.length bD] rfl zm ?_;(with_reducible refine(spec_MayStorm.calls k1 aK aJ _ _ aG false _ ?s1 ?s2 A8.out).mono ?_);(case s1=>exact zCx (Kd.R_reads' aD.out).2.2);(case s2=>exact(Kd.R_reads' aD.out).2.1);rintro e cG ⟨rfl,hb⟩;refine⟨_,rfl,?_⟩;replace aD:=zRb aD hb;replace aA:=zkb aA hb;replace HK:=zA (KeepBut.trans zK0 (KeepBut.of_below hb g none) (.inl rfl));replace HB:=zA (below_step zB0 hb);replace HI0:=zA (IsS66.below zI0 hb);(try clear hb))|((with_reducible refine gate_builtin (b:=.append) (xs:=#[.tmp 15,.tmp 23]) rfl ?_);at_builtin;refine Kd.R_append Kd.bool w.heap.size rfl (.tmp 15) (.tmp 23) 37 4 (.bool false) 1 rfl Tryd.underlying37 info4 rfl (by decide) (by omega) (.slice bF aG.length bD) aG false [.bool false] (fun _=>True) (fun _=>False) rfl rfl ?aP (fun _ hk=>hk.elim) ?aF ?aO (Below.refl _ _) ?aS ?aL ?_;(case aP=>exact rfl);(case aF=>exact(fun _ _=>trivial));(case aO=>exact(zR aD));(case aS=>exact(keep_size (w:=w) (g:=g) (row:=none) zK0));(case aL=>have:=bI.out;omega);intro v465 cF ho hb hg hat;rw[←Ny464.out] at ho;replace aA:=zgr aA hg (Kd.R_ne aD.out aA.out (by decide));replace HB:=zA (below_weaken zB0 HL.out hb);replace HI0:=zA (IsS66.grown zI0 hg (IsS66.own_ne HI0.out aD.out (by decide)));replace HK:=zA (KeepBut.trans zK0 (KeepBut.of_grown hg g) (Kd.R_base2 aD.out));have bK:=zA ho;clear aD;clear ho hb hg hat))
     go_roundg k1
     case measure=>have:=HK1.out;omega
     case rel=>exact⟨(bA),(wrap64 (aQ+1)),(aI),(aH),zr,H',⟨by have:=HK1.out;omega⟩,⟨zR bK⟩,⟨zk aA⟩,⟨zI0⟩,⟨zK0⟩,⟨zB0⟩⟩
   ·rw[if_neg c7] at H;have bQ:=decide_eq_false c7;clear c7;simp only[Option.some.injEq,Prod.mk.injEq] at H;obtain⟨rfl,rfl,rfl⟩:=H;go_wp2;go_ret;exact⟨_,zE,zR aD,zI0,zB0,zK0⟩
end Go.Proofs.YtjbbmeldcoghbaaDoor.Q
