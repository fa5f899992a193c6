/- Walks of 17 functions of the program: each comes to what a plain function tells. -/
import Derived.Test.YtdnbfegkplpngaaG0
import Derived.Test.YtdnbfegkplpngaaG6
namespace Go.Proofs.Ytdnbfegkplpngaa.Q
open Go.RowKit Go.Proofs.YtdnbfegkplpngaaW.PrintWords Go.Proofs.YtdnbfegkplpngaaW.PrintLast Go.Proofs.YtdnbfegkplpngaaW.PrintMore Go.Proofs.YtdnbfegkplpngaaW.Zip
attribute [local go_sem] max2_int min2_int max_two min_two max_three min_three max_four min_four   -- for this text's walks alone
set_option linter.unusedVariables false
set_option maxHeartbeats 8000000
set_option maxRecDepth 100000
set_option linter.unusedSimpArgs false

mutual
def impl_WayTo.l0:Nat→Int→List Int→List Int→Int→Int→Int→List Int→Option (List Int)
  |0,_,_,_,_,_,_,_=>none
  |k+1,x2,x7,x8,x9,x560000,x560001,x560002=>if x9=x2 then(some x8) else((impl_Near.f k x560000 x560001 x560002 x9).bind fun t570=>(impl_WayTo.l1 k x2 x7 x8 x9 t570 (t570.length:Int) 0 x560000 x560001 x560002))
def impl_WayTo.l1:Nat→Int→List Int→List Int→Int→List Int→Int→Int→Int→Int→List Int→Option (List Int)
  |0,_,_,_,_,_,_,_,_,_,_=>none
  |k+1,x2,x7,x8,x9,x29,x30,x31,x560000,x560001,x560002=>if x31<x30 then(if 0≤x31 then(if x31<(x29.length:Int) then(if 0≤(rd x29 x31) then(if (rd x29 x31)<(x7.length:Int) then(if 0≤x9 then(if x9<(x7.length:Int) then(if (rd x7 (rd x29 x31))<(rd x7 x9) then(if x8.length<17592186044416 then(impl_WayTo.l0 k x2 x7 (x8++[rd x29 x31]) (rd x29 x31) x560000 x560001 x560002) else(none)) else(impl_WayTo.l1 k x2 x7 x8 x9 x29 x30 (wrap64 (x31+1)) x560000 x560001 x560002)) else(none)) else(none)) else(none)) else(none)) else(none)) else(none)) else(if x8.length<17592186044416 then(impl_WayTo.l0 k x2 x7 (x8++[x9]) x9 x560000 x560001 x560002) else(none))
end
def impl_WayTo.f (k:Nat) (a0_0:Int) (a0_1:Int) (l0_2:List Int) (a1:Int) (a2:Int):Option (List Int):=(impl_Days.f k a0_0 a0_1 l0_2 a1 a2).bind fun t560=>(if t560<0 then(some ([]:List Int)) else((impl_distances.f k a0_0 a0_1 l0_2 (([a2]:List Int))).bind fun t564=>(impl_WayTo.l0 k a2 t564 (([a1]:List Int)) a1 a0_0 a0_1 l0_2)))
theorem impl_WayTo.calls (k:Nat) (aJ:Int) (aI:Int) (bC:Option Addr) (bB:Nat) (aE:List Int) (a1:Int) (a2:Int) (r:List Int) (w:World) (cQ:Kd.C (Kd.int .i64) w bC aE.length aE) (cR:aE.length≤bB) (h:impl_WayTo.f k aJ aI aE a1 a2=some r) :
  Calls Try.prog 28 #[.agg #[.int .i64 aJ,.int .i64 aI,.slice bC aE.length bB],.int .i64 a1,.int .i64 a2] w fun e w'=>∃ v0_:Value,e=.returned (v0_)∧Kd.R (Kd.int .i64) 3 w' w.heap.size (fun _=>True) v0_ r∧Below w.heap.size w w':=by
 have hu26:=Try.underlying26;have aU:=zA cQ;have aW:=zA cR;clear cQ cR;have HB:=zA (Below.refl w.heap.size w);have H:=h;clear h;unfold impl_WayTo.f at H;obtain⟨bT,A4,H⟩:=zB H
 by_cases c5:bT<0
 ·rw[if_pos c5] at H;have cP:=decide_eq_true c5;clear c5;obtain rfl:=zI H;go_enter Try.func28,Try.ntmps28
  go_wp2_with (first|((with_reducible refine zgd 3 rfl ?_);refine zbx 3 #[.int .i64 aJ,.int .i64 aI,.slice bC aE.length bB] 26 ?_;intro bD hg w6 hbox hb;have aA:=zA hbox;have cB:=zga (w:=w) hg;replace HB:=zbs hb;clear hb hbox hg;obtain⟨bZ,bY,bX,bW,bV,bU⟩:=ze3 aA)|(go_at_call 12;(with_reducible refine(impl_Days.calls k aJ aI _ _ aE a1 a2 bT _ ?s1 ?s2 A4.out).mono ?_);(case s1=>exact zCb aU);(case s2=>exact aW.out);rintro e w8 ⟨rfl,hb⟩;replace aA:=zkb aA hb;replace HB:=zbs hb;(try clear hb)))
  repeat (go_quiet (first|((with_reducible refine zgd 3 rfl ?_);refine zbx 3 #[.int .i64 aJ,.int .i64 aI,.slice bC aE.length bB] 26 ?_;intro bD hg w6 hbox hb;have aA:=zA hbox;have cB:=zga (w:=w) hg;replace HB:=zbs hb;clear hb hbox hg;obtain⟨bZ,bY,bX,bW,bV,bU⟩:=ze3 aA)|(go_at_call 12;(with_reducible refine(impl_Days.calls k aJ aI _ _ aE a1 a2 bT _ ?s1 ?s2 A4.out).mono ?_);(case s1=>exact zCb aU);(case s2=>exact aW.out);rintro e w8 ⟨rfl,hb⟩;replace aA:=zkb aA hb;replace HB:=zbs hb;(try clear hb)));try go_wp2_with (first|((with_reducible refine zgd 3 rfl ?_);refine zbx 3 #[.int .i64 aJ,.int .i64 aI,.slice bC aE.length bB] 26 ?_;intro bD hg w6 hbox hb;have aA:=zA hbox;have cB:=zga (w:=w) hg;replace HB:=zbs hb;clear hb hbox hg;obtain⟨bZ,bY,bX,bW,bV,bU⟩:=ze3 aA)|(go_at_call 12;(with_reducible refine(impl_Days.calls k aJ aI _ _ aE a1 a2 bT _ ?s1 ?s2 A4.out).mono ?_);(case s1=>exact zCb aU);(case s2=>exact aW.out);rintro e w8 ⟨rfl,hb⟩;replace aA:=zkb aA hb;replace HB:=zbs hb;(try clear hb))))
  go_ret;exact⟨_,zE,by first|exact Kd.R_nil _ _ _ _ _|exact Kd.N_nil _ _ _ _ _|exact Kd.V_nil _ _ _ _ _|exact Kd.Q_nil _ _ _ _ _|exact Kd.S_nil _ _ _ _ _,zb⟩
 ·rw[if_neg c5] at H;have cP:=decide_eq_false c5;clear c5;obtain⟨cE,cI⟩:∃ y_:List Int,y_=(([a2]:List Int)):=⟨_,rfl⟩
  replace H:((impl_distances.f k aJ aI aE cE).bind fun aM=>(impl_WayTo.l0 k a2 aM (([a1]:List Int)) a1 aJ aI aE))=some r:=zY cI H
  have Ny561:=zA cI;clear cI;obtain⟨aM,A9,H⟩:=zB H;obtain⟨dK,cH⟩:∃ y_:List Int,y_=(([a1]:List Int)):=⟨_,rfl⟩
  replace H:(impl_WayTo.l0 k a2 aM dK a1 aJ aI aE)=some r:=zY cH H
  have Ny567:=zA cH;clear cH;have H':=zA H;clear H;go_enter Try.func28,Try.ntmps28
  go_wp2_with (first|((with_reducible refine zgd 3 rfl ?_);refine zbx 3 #[.int .i64 aJ,.int .i64 aI,.slice bC aE.length bB] 26 ?_;intro bD hg dV hbox hb;have aA:=zA hbox;have cB:=zga (w:=w) hg;replace HB:=zbs hb;clear hb hbox hg;obtain⟨bR,bQ,bP,bL,bK,bJ⟩:=ze3 aA)|(go_at_call 12;(with_reducible refine(impl_Days.calls k aJ aI _ _ aE a1 a2 bT _ ?s1 ?s2 A4.out).mono ?_);(case s1=>exact zCb aU);(case s2=>exact aW.out);rintro e dU ⟨rfl,hb⟩;replace aA:=zkb aA hb;replace HB:=zbs hb;(try clear hb);obtain⟨bO,bN,bM,bI,bH,bG⟩:=ze3 aA)|((with_reducible refine zgd 19 rfl ?_);refine Kd.R_lit (Kd.int .i64) _ 3 ?hg (N:=19) ?hd (xs:=([a2]:List Int)) (inner:=[.int .i64 a2]) (ok:=fun _=>True) (okp:=fun _=>True) ?hr ?hp (fun _ hk=>hk) trivial (Below.refl _ _) (Nat.le_refl _) (by simp) ?_;(case hd=>rfl);(case hg=>rfl);(case hr=>first|(go_simp;done)|(go_simp;rfl));(case hp=>exact(Reps.one (show Kd.M (Kd.int .i64) _ _ _ a2 [.int .i64 a2] from rfl) (Reps.none _ _)));intro v562 dT ho15 hb hg_ hnew_;clear hg_ hnew_;(first|rw[←Ny561.out] at ho15|(simp only[Int.reduceToNat] at ho15;rw[←Ny561.out] at ho15));have aC:=zA (Kd.R_lower ho15 (below_size zb));replace aA:=zkb aA hb;replace HB:=zbs hb;clear hb ho15;obtain⟨dM,dL,cD⟩:=Kd.R_slice aC.out;subst cD)|(go_at_call 35;(with_reducible refine(impl_distances.calls k aJ aI _ _ aE _ _ cE aM _ ?s1 ?s2 ?s3 ?s4 A9.out).mono ?_);(case s1=>exact zCb aU);(case s2=>exact aW.out);(case s3=>exact zCx (Kd.R_reads' aC.out).2.2);(case s4=>exact(Kd.R_reads' aC.out).2.1);rintro e dS ⟨v565,rfl,ho0,hb⟩;have aV:=zA (Kd.R_lower (Kd.R_new' ho0 (Kd.R_lt (zR aC))) (below_size zb));replace aC:=zA (Kd.R_elder' (zR aC) (Kd.R_base ho0) hb);replace aA:=zkb aA hb;replace HB:=zbs hb;(try clear hb);(try clear ho0))|((with_reducible refine zgd 22 rfl ?_);refine Kd.R_lit (Kd.int .i64) _ 3 ?hg (N:=22) ?hd (xs:=([a1]:List Int)) (inner:=[.int .i64 a1]) (ok:=fun _=>True) (okp:=fun _=>True) ?hr ?hp (fun _ hk=>hk) trivial (Below.refl _ _) (Nat.le_refl _) (by simp) ?_;(case hd=>rfl);(case hg=>rfl);(case hr=>first|(go_simp;done)|(go_simp;rfl));(case hp=>exact(Reps.one (show Kd.M (Kd.int .i64) _ _ _ a1 [.int .i64 a1] from rfl) (Reps.none _ _)));intro v568 dR ho19 hb hg_ hnew_;clear hg_ hnew_;(first|rw[←Ny567.out] at ho19|(simp only[Int.reduceToNat] at ho19;rw[←Ny567.out] at ho19));have cL:=zA (Kd.R_lower (Kd.R_new' (Kd.R_new' ho19 (Kd.R_lt (zR aC))) (Kd.R_lt (zR aV))) (below_size zb));replace aC:=zA (Kd.R_elder' (zR aC) (Kd.R_base ho19) hb);replace aV:=zA (Kd.R_elder' (zR aV) (Kd.R_base ho19) hb);replace aA:=zkb aA hb;replace HB:=zbs hb;clear hb ho19))
  repeat (go_quiet (first|((with_reducible refine zgd 3 rfl ?_);refine zbx 3 #[.int .i64 aJ,.int .i64 aI,.slice bC aE.length bB] 26 ?_;intro bD hg dV hbox hb;have aA:=zA hbox;have cB:=zga (w:=w) hg;replace HB:=zbs hb;clear hb hbox hg;obtain⟨bR,bQ,bP,bL,bK,bJ⟩:=ze3 aA)|(go_at_call 12;(with_reducible refine(impl_Days.calls k aJ aI _ _ aE a1 a2 bT _ ?s1 ?s2 A4.out).mono ?_);(case s1=>exact zCb aU);(case s2=>exact aW.out);rintro e dU ⟨rfl,hb⟩;replace aA:=zkb aA hb;replace HB:=zbs hb;(try clear hb);obtain⟨bO,bN,bM,bI,bH,bG⟩:=ze3 aA)|((with_reducible refine zgd 19 rfl ?_);refine Kd.R_lit (Kd.int .i64) _ 3 ?hg (N:=19) ?hd (xs:=([a2]:List Int)) (inner:=[.int .i64 a2]) (ok:=fun _=>True) (okp:=fun _=>True) ?hr ?hp (fun _ hk=>hk) trivial (Below.refl _ _) (Nat.le_refl _) (by simp) ?_;(case hd=>rfl);(case hg=>rfl);(case hr=>first|(go_simp;done)|(go_simp;rfl));(case hp=>exact(Reps.one (show Kd.M (Kd.int .i64) _ _ _ a2 [.int .i64 a2] from rfl) (Reps.none _ _)));intro v562 dT ho15 hb hg_ hnew_;clear hg_ hnew_;(first|rw[←Ny561.out] at ho15|(simp only[Int.reduceToNat] at ho15;rw[←Ny561.out] at ho15));have aC:=zA (Kd.R_lower ho15 (below_size zb));replace aA:=zkb aA hb;replace HB:=zbs hb;clear hb ho15;obtain⟨dM,dL,cD⟩:=Kd.R_slice aC.out;subst cD)|(go_at_call 35;(with_reducible refine(impl_distances.calls k aJ aI _ _ aE _ _ cE aM _ ?s1 ?s2 ?s3 ?s4 A9.out).mono ?_);(case s1=>exact zCb aU);(case s2=>exact aW.out);(case s3=>exact zCx (Kd.R_reads' aC.out).2.2);(case s4=>exact(Kd.R_reads' aC.out).2.1);rintro e dS ⟨v565,rfl,ho0,hb⟩;have aV:=zA (Kd.R_lower (Kd.R_new' ho0 (Kd.R_lt (zR aC))) (below_size zb));replace aC:=zA (Kd.R_elder' (zR aC) (Kd.R_base ho0) hb);replace aA:=zkb aA hb;replace HB:=zbs hb;(try clear hb);(try clear ho0))|((with_reducible refine zgd 22 rfl ?_);refine Kd.R_lit (Kd.int .i64) _ 3 ?hg (N:=22) ?hd (xs:=([a1]:List Int)) (inner:=[.int .i64 a1]) (ok:=fun _=>True) (okp:=fun _=>True) ?hr ?hp (fun _ hk=>hk) trivial (Below.refl _ _) (Nat.le_refl _) (by simp) ?_;(case hd=>rfl);(case hg=>rfl);(case hr=>first|(go_simp;done)|(go_simp;rfl));(case hp=>exact(Reps.one (show Kd.M (Kd.int .i64) _ _ _ a1 [.int .i64 a1] from rfl) (Reps.none _ _)));intro v568 dR ho19 hb hg_ hnew_;clear hg_ hnew_;(first|rw[←Ny567.out] at ho19|(simp only[Int.reduceToNat] at ho19;rw[←Ny567.out] at ho19));have cL:=zA (Kd.R_lower (Kd.R_new' (Kd.R_new' ho19 (Kd.R_lt (zR aC))) (Kd.R_lt (zR aV))) (below_size zb));replace aC:=zA (Kd.R_elder' (zR aC) (Kd.R_base ho19) hb);replace aV:=zA (Kd.R_elder' (zR aV) (Kd.R_base ho19) hb);replace aA:=zkb aA hb;replace HB:=zbs hb;clear hb ho19));try go_wp2_with (first|((with_reducible refine zgd 3 rfl ?_);refine zbx 3 #[.int .i64 aJ,.int .i64 aI,.slice bC aE.length bB] 26 ?_;intro bD hg dV hbox hb;have aA:=zA hbox;have cB:=zga (w:=w) hg;replace HB:=zbs hb;clear hb hbox hg;obtain⟨bR,bQ,bP,bL,bK,bJ⟩:=ze3 aA)|(go_at_call 12;(with_reducible refine(impl_Days.calls k aJ aI _ _ aE a1 a2 bT _ ?s1 ?s2 A4.out).mono ?_);(case s1=>exact zCb aU);(case s2=>exact aW.out);rintro e dU ⟨rfl,hb⟩;replace aA:=zkb aA hb;replace HB:=zbs hb;(try clear hb);obtain⟨bO,bN,bM,bI,bH,bG⟩:=ze3 aA)|((with_reducible refine zgd 19 rfl ?_);refine Kd.R_lit (Kd.int .i64) _ 3 ?hg (N:=19) ?hd (xs:=([a2]:List Int)) (inner:=[.int .i64 a2]) (ok:=fun _=>True) (okp:=fun _=>True) ?hr ?hp (fun _ hk=>hk) trivial (Below.refl _ _) (Nat.le_refl _) (by simp) ?_;(case hd=>rfl);(case hg=>rfl);(case hr=>first|(go_simp;done)|(go_simp;rfl));(case hp=>exact(Reps.one (show Kd.M (Kd.int .i64) _ _ _ a2 [.int .i64 a2] from rfl) (Reps.none _ _)));intro v562 dT ho15 hb hg_ hnew_;clear hg_ hnew_;(first|rw[←Ny561.out] at ho15|(simp only[Int.reduceToNat] at ho15;rw[←Ny561.out] at ho15));have aC:=zA (Kd.R_lower ho15 (below_size zb));replace aA:=zkb aA hb;replace HB:=zbs hb;clear hb ho15;obtain⟨dM,dL,cD⟩:=Kd.R_slice aC.out;subst cD)|(go_at_call 35;(with_reducible refine(impl_distances.calls k aJ aI _ _ aE _ _ cE aM _ ?s1 ?s2 ?s3 ?s4 A9.out).mono ?_);(case s1=>exact zCb aU);(case s2=>exact aW.out);(case s3=>exact zCx (Kd.R_reads' aC.out).2.2);(case s4=>exact(Kd.R_reads' aC.out).2.1);rintro e dS ⟨v565,rfl,ho0,hb⟩;have aV:=zA (Kd.R_lower (Kd.R_new' ho0 (Kd.R_lt (zR aC))) (below_size zb));replace aC:=zA (Kd.R_elder' (zR aC) (Kd.R_base ho0) hb);replace aA:=zkb aA hb;replace HB:=zbs hb;(try clear hb);(try clear ho0))|((with_reducible refine zgd 22 rfl ?_);refine Kd.R_lit (Kd.int .i64) _ 3 ?hg (N:=22) ?hd (xs:=([a1]:List Int)) (inner:=[.int .i64 a1]) (ok:=fun _=>True) (okp:=fun _=>True) ?hr ?hp (fun _ hk=>hk) trivial (Below.refl _ _) (Nat.le_refl _) (by simp) ?_;(case hd=>rfl);(case hg=>rfl);(case hr=>first|(go_simp;done)|(go_simp;rfl));(case hp=>exact(Reps.one (show Kd.M (Kd.int .i64) _ _ _ a1 [.int .i64 a1] from rfl) (Reps.none _ _)));intro v568 dR ho19 hb hg_ hnew_;clear hg_ hnew_;(first|rw[←Ny567.out] at ho19|(simp only[Int.reduceToNat] at ho19;rw[←Ny567.out] at ho19));have cL:=zA (Kd.R_lower (Kd.R_new' (Kd.R_new' ho19 (Kd.R_lt (zR aC))) (Kd.R_lt (zR aV))) (below_size zb));replace aC:=zA (Kd.R_elder' (zR aC) (Kd.R_base ho19) hb);replace aV:=zA (Kd.R_elder' (zR aV) (Kd.R_base ho19) hb);replace aA:=zkb aA hb;replace HB:=zbs hb;clear hb ho19)))
  go_loopg [8,9] k (fun kq v8 v9 w'=>∃ (bA:List Int) (aY:Int),v9=.int .i64 aY∧Aside0 (impl_WayTo.l0 kq a2 aM bA aY aJ aI aE=some r)∧Aside0 (kq≤k)∧Aside0 (Kd.R (Kd.int .i64) 3 w' w.heap.size (fun k_=>some k_≠(v8:Value).ownBlock) v565 aM)∧Aside0 (Kd.R (Kd.int .i64) 3 w' w.heap.size (fun k_=>some k_≠(v565:Value).ownBlock) v8 bA)∧Aside0 (w'.heap[bD]?=some (.cells #[.int .i64 aJ,.int .i64 aI,(.slice bC aE.length bB)] 26 (0,0)))∧Aside0 (Below w.heap.size w w'))
  case atStart=>exact⟨(dK),(a1),zr,H',⟨Nat.le_refl _⟩,⟨z_2 aV⟩,⟨z_2 cL⟩,⟨zk aA⟩,⟨zb⟩⟩
  case round =>
   clear H';(try clear c5);(try clear cP);(try clear bR);(try clear bQ);(try clear bP);(try clear bO);(try clear bN);(try clear bM);(try clear bZ);(try clear bY);(try clear bX);(try clear bL);(try clear bK);(try clear bJ);(try clear bI);(try clear bH);(try clear bG);(try clear bW);(try clear bV);(try clear bU);obtain⟨bA,aY,rfl,HA,HK1,aG,aK,aA,HB⟩:=hrel
   cases gk with
   |zero=>exact absurd HA.out (by simp[impl_WayTo.l0])
   |succ k1 =>
    have H:=HA.out;clear HA;simp only[impl_WayTo.l0] at H
    by_cases c20:aY=a2
    ·rw[if_pos c20] at H;have cT:(aY==a2)=true:=beq_iff_eq.mpr c20;have cS:(aY != a2)=false:=bne_eq_false_iff_eq.mpr c20;clear c20;obtain rfl:=zI H;go_wp2
     repeat (go_quiet (fail);try go_wp2)
     go_ret;exact⟨_,zE,z_t aK,zb⟩
    ·rw[if_neg c20] at H;have cT:(aY==a2)=false:=beq_eq_false_iff_ne.mpr c20;have cS:(aY != a2)=true:=bne_iff_ne.mpr c20;obtain⟨aD,dN,H⟩:=zB H;have H':=zA H;clear H;obtain⟨dG,dF,dE,dD,dC,dB⟩:=ze3 aA
     go_wp2_with (first|(go_at_call 51;(with_reducible refine(impl_Near.calls k1 aJ aI _ _ aE aY aD _ ?s1 ?s2 dN.out).mono ?_);(case s1=>exact zCb aU);(case s2=>exact aW.out);rintro e dQ ⟨v571,rfl,ho0,hb⟩;have bS:=zA (Kd.R_lower (Kd.R_new' (Kd.R_new' ho0 (Kd.R_lt (zR aG))) (Kd.R_lt (zR aK))) (below_size zb));replace aG:=zA (Kd.R_elder' (zR aG) (Kd.R_base ho0) hb);replace aK:=zA (Kd.R_elder' (zR aK) (Kd.R_base ho0) hb);replace aA:=zkb aA hb;replace HB:=zbs hb;(try clear hb);(try clear ho0);obtain⟨bF,aX,cC⟩:=Kd.R_slice bS.out;subst cC))
     repeat (go_quiet (first|(go_at_call 51;(with_reducible refine(impl_Near.calls k1 aJ aI _ _ aE aY aD _ ?s1 ?s2 dN.out).mono ?_);(case s1=>exact zCb aU);(case s2=>exact aW.out);rintro e dQ ⟨v571,rfl,ho0,hb⟩;have bS:=zA (Kd.R_lower (Kd.R_new' (Kd.R_new' ho0 (Kd.R_lt (zR aG))) (Kd.R_lt (zR aK))) (below_size zb));replace aG:=zA (Kd.R_elder' (zR aG) (Kd.R_base ho0) hb);replace aK:=zA (Kd.R_elder' (zR aK) (Kd.R_base ho0) hb);replace aA:=zkb aA hb;replace HB:=zbs hb;(try clear hb);(try clear ho0);obtain⟨bF,aX,cC⟩:=Kd.R_slice bS.out;subst cC));try go_wp2_with (first|(go_at_call 51;(with_reducible refine(impl_Near.calls k1 aJ aI _ _ aE aY aD _ ?s1 ?s2 dN.out).mono ?_);(case s1=>exact zCb aU);(case s2=>exact aW.out);rintro e dQ ⟨v571,rfl,ho0,hb⟩;have bS:=zA (Kd.R_lower (Kd.R_new' (Kd.R_new' ho0 (Kd.R_lt (zR aG))) (Kd.R_lt (zR aK))) (below_size zb));replace aG:=zA (Kd.R_elder' (zR aG) (Kd.R_base ho0) hb);replace aK:=zA (Kd.R_elder' (zR aK) (Kd.R_base ho0) hb);replace aA:=zkb aA hb;replace HB:=zbs hb;(try clear hb);(try clear ho0);obtain⟨bF,aX,cC⟩:=Kd.R_slice bS.out;subst cC)))
     go_loopg [9,31] k1 (fun kq v9 v31 w'=>∃ (aQ:Int) (aH:Int),v9=.int .i64 aQ∧v31=.int .i64 aH∧Aside0 (impl_WayTo.l1 kq a2 aM bA aQ aD (aD.length:Int) aH aJ aI aE=some r)∧Aside0 (kq≤k1)∧Aside0 (Kd.R (Kd.int .i64) 3 w' w.heap.size (fun k_=>some k_≠(u8:Value).ownBlock∧some k_≠((.slice bF aD.length aX):Value).ownBlock) v565 aM)∧Aside0 (Kd.R (Kd.int .i64) 3 w' w.heap.size (fun k_=>some k_≠(v565:Value).ownBlock∧some k_≠((.slice bF aD.length aX):Value).ownBlock) u8 bA)∧Aside0 (Kd.R (Kd.int .i64) 3 w' w.heap.size (fun k_=>some k_≠(v565:Value).ownBlock∧some k_≠(u8:Value).ownBlock) (.slice bF aD.length aX) aD)∧Aside0 (w'.heap[bD]?=some (.cells #[.int .i64 aJ,.int .i64 aI,(.slice bC aE.length bB)] 26 (0,0)))∧Aside0 (Below w.heap.size w w'))
     case atStart=>exact⟨(aY),(0),zr,zr,H',⟨Nat.le_refl _⟩,⟨zR aG⟩,⟨zR aK⟩,⟨z_o bS (fun _ hk=>⟨hk.1.2,hk.2⟩)⟩,⟨zk aA⟩,⟨zb⟩⟩
     case round =>
      clear H';(try clear c5);(try clear cP);(try clear c20);(try clear cT);(try clear cS);(try clear bR);(try clear bQ);(try clear bP);(try clear bO);(try clear bN);(try clear bM);(try clear dG);(try clear dF);(try clear dE);(try clear bZ);(try clear bY);(try clear bX);(try clear bL);(try clear bK);(try clear bJ);(try clear bI);(try clear bH);(try clear bG);(try clear dD);(try clear dC);(try clear dB);(try clear bW);(try clear bV);(try clear bU);obtain⟨aQ,aH,rfl,rfl,HA,HK2,aG,aK,aN,aA,HB⟩:=hrel
      cases gk with
      |zero=>exact absurd HA.out (by simp[impl_WayTo.l1])
      |succ k2 =>
       have H:=HA.out;clear HA;simp only[impl_WayTo.l1] at H
       by_cases c25:aH<(aD.length:Int)
       ·rw[if_pos c25] at H;have dP:=decide_eq_true c25;clear c25;obtain⟨eO,H⟩:=zifD H;obtain⟨eN,H⟩:=zifD H;obtain⟨eM,H⟩:=zifD H;obtain⟨eL,H⟩:=zifD H;obtain⟨eK,H⟩:=zifD H;obtain⟨eJ,H⟩:=zifD H
        by_cases c32:(rd aM (rd aD aH))<(rd aM aQ)
        ·rw[if_pos c32] at H;have dO:=decide_eq_true c32;clear c32;obtain⟨cV,H⟩:=zifA H;obtain⟨dJ,cG⟩:∃ y_:List Int,y_=(bA++[rd aD aH]):=⟨_,rfl⟩
         replace H:(impl_WayTo.l0 k2 a2 aM dJ (rd aD aH) aJ aI aE)=some r:=zY cG H
         have Ny576:=zA cG;clear cG;have H':=zA H;clear H;have eB:=zT (0≤(aH:Int));have dY:=zT (aH<(aD.length:Int));obtain⟨cA,cO,dA⟩:=Kd.at_int (Kd.R_reads' aN.out).2.2 aH zd zd;cases cO;obtain⟨eR,cJ,eD⟩:=Kd.R_slice aG.out;subst eD;have eA:=zT (0≤((rd aD aH):Int));have dX:=zT ((rd aD aH)<(aM.length:Int));obtain⟨bE,cN,cZ⟩:=Kd.at_int (Kd.R_reads' aG.out).2.2 (rd aD aH) zd zd;cases cN;have dZ:=zT (0≤(aQ:Int));have dW:=zT (aQ<(aM.length:Int));obtain⟨cK,cM,cY⟩:=Kd.at_int (Kd.R_reads' aG.out).2.2 aQ zd zd;obtain rfl:bE=cK:=(by injection cM)
         go_wp2_with (first|((with_reducible refine gate_builtin (b:=.append) (xs:=#[.tmp 46,.tmp 48]) rfl ?_);at_builtin;refine Kd.R_append (Kd.int .i64) (w0:=w) w.heap.size rfl (.tmp 46) (.tmp 48) 24 3 (.int .i64 0) 8 rfl Try.underlying24 info3 rfl (by decide) (by omega) u8 bA (rd aD aH) [.int .i64 (rd aD aH)] (fun k_=>some k_≠(.slice (some bE) aM.length cJ:Value).ownBlock∧some k_≠(.slice (some cA) aD.length aX:Value).ownBlock) (fun _=>False) rfl rfl ?aP (fun _ hk=>hk.elim) ?aF ?aO ?aB ?aS ?aL ?_;(case aP=>exact rfl);(case aB=>exact zb);(case aF=>exact(fun k_ hk=>⟨Kd.fresh' (Kd.R_lt (zR aG)) k_ hk,Kd.fresh' (Kd.R_lt (zR aN)) k_ hk⟩));(case aO=>exact(zR aK));(case aS=>exact(below_size zb));(case aL=>have:=cV.out;omega);intro v577 eI ho hb hg hat;rw[←Ny576.out] at ho;replace aG:=zA (Kd.R_after (ok:=(fun k_=>some k_≠(.slice (some cA) aD.length aX:Value).ownBlock)) (z_o aG (fun _ hk=>⟨hk.2,hk.1⟩)) hg hat);replace aN:=zA (Kd.R_after (ok:=(fun k_=>some k_≠(.slice (some bE) aM.length cJ:Value).ownBlock)) (zR aN) hg hat);replace aA:=zgr aA hg (Kd.R_ne aK.out aA.out (by decide));replace HB:=zA hb;have cX:=zA ho;clear aK;clear ho hb hg hat))
         repeat (go_quiet (fail);try go_wp2_with (first|((with_reducible refine gate_builtin (b:=.append) (xs:=#[.tmp 46,.tmp 48]) rfl ?_);at_builtin;refine Kd.R_append (Kd.int .i64) (w0:=w) w.heap.size rfl (.tmp 46) (.tmp 48) 24 3 (.int .i64 0) 8 rfl Try.underlying24 info3 rfl (by decide) (by omega) u8 bA (rd aD aH) [.int .i64 (rd aD aH)] (fun k_=>some k_≠(.slice (some bE) aM.length cJ:Value).ownBlock∧some k_≠(.slice (some cA) aD.length aX:Value).ownBlock) (fun _=>False) rfl rfl ?aP (fun _ hk=>hk.elim) ?aF ?aO ?aB ?aS ?aL ?_;(case aP=>exact rfl);(case aB=>exact zb);(case aF=>exact(fun k_ hk=>⟨Kd.fresh' (Kd.R_lt (zR aG)) k_ hk,Kd.fresh' (Kd.R_lt (zR aN)) k_ hk⟩));(case aO=>exact(zR aK));(case aS=>exact(below_size zb));(case aL=>have:=cV.out;omega);intro v577 eI ho hb hg hat;rw[←Ny576.out] at ho;replace aG:=zA (Kd.R_after (ok:=(fun k_=>some k_≠(.slice (some cA) aD.length aX:Value).ownBlock)) (z_o aG (fun _ hk=>⟨hk.2,hk.1⟩)) hg hat);replace aN:=zA (Kd.R_after (ok:=(fun k_=>some k_≠(.slice (some bE) aM.length cJ:Value).ownBlock)) (zR aN) hg hat);replace aA:=zgr aA hg (Kd.R_ne aK.out aA.out (by decide));replace HB:=zA hb;have cX:=zA ho;clear aK;clear ho hb hg hat)))
         go_roundg k2
         case measure=>have:=HK1.out;have:=HK2.out;omega
         case rel=>exact⟨(dJ),(rd aD aH),zr,H',⟨by have:=HK1.out;have:=HK2.out;omega⟩,⟨z_2 aG⟩,⟨z_o cX (fun _ hk=>hk.1)⟩,⟨zk aA⟩,⟨zb⟩⟩
        ·rw[if_neg c32] at H;have dO:=decide_eq_false c32;clear c32;have H':=zA H;clear H;have eB:=zT (0≤(aH:Int));have dY:=zT (aH<(aD.length:Int));obtain⟨cA,cO,dA⟩:=Kd.at_int (Kd.R_reads' aN.out).2.2 aH zd zd;cases cO;obtain⟨eQ,eP,eC⟩:=Kd.R_slice aG.out;subst eC;have eA:=zT (0≤((rd aD aH):Int));have dX:=zT ((rd aD aH)<(aM.length:Int));obtain⟨bE,cN,cZ⟩:=Kd.at_int (Kd.R_reads' aG.out).2.2 (rd aD aH) zd zd;cases cN;have dZ:=zT (0≤(aQ:Int));have dW:=zT (aQ<(aM.length:Int));obtain⟨cK,cM,cY⟩:=Kd.at_int (Kd.R_reads' aG.out).2.2 aQ zd zd;obtain rfl:bE=cK:=(by injection cM);go_wp2
         repeat (go_quiet (fail);try go_wp2)
         go_roundg k2
         case measure=>have:=HK1.out;have:=HK2.out;omega
         case rel=>exact⟨(aQ),(wrap64 (aH+1)),zr,zr,H',⟨by have:=HK1.out;have:=HK2.out;omega⟩,⟨zR aG⟩,⟨zR aK⟩,⟨zR aN⟩,⟨zk aA⟩,⟨zb⟩⟩
       ·rw[if_neg c25] at H;have dP:=decide_eq_false c25;clear c25;obtain⟨cU,H⟩:=zifA H;obtain⟨dI,cF⟩:∃ y_:List Int,y_=(bA++[aQ]):=⟨_,rfl⟩
        replace H:(impl_WayTo.l0 k2 a2 aM dI aQ aJ aI aE)=some r:=zY cF H
        have Ny579:=zA cF;clear cF;have H':=zA H;clear H
        go_wp2_with (first|((with_reducible refine gate_builtin (b:=.append) (xs:=#[.tmp 46,.tmp 48]) rfl ?_);at_builtin;refine Kd.R_append (Kd.int .i64) (w0:=w) w.heap.size rfl (.tmp 46) (.tmp 48) 24 3 (.int .i64 0) 8 rfl Try.underlying24 info3 rfl (by decide) (by omega) u8 bA aQ [.int .i64 aQ] (fun k_=>some k_≠(v565:Value).ownBlock∧some k_≠(.slice bF aD.length aX:Value).ownBlock) (fun _=>False) rfl rfl ?aP (fun _ hk=>hk.elim) ?aF ?aO ?aB ?aS ?aL ?_;(case aP=>exact rfl);(case aB=>exact zb);(case aF=>exact(fun k_ hk=>⟨Kd.fresh' (Kd.R_lt (zR aG)) k_ hk,Kd.fresh' (Kd.R_lt (zR aN)) k_ hk⟩));(case aO=>exact(zR aK));(case aS=>exact(below_size zb));(case aL=>have:=cU.out;omega);intro v580 eH ho hb hg hat;rw[←Ny579.out] at ho;replace aG:=zA (Kd.R_after (ok:=(fun k_=>some k_≠(.slice bF aD.length aX:Value).ownBlock)) (z_o aG (fun _ hk=>⟨hk.2,hk.1⟩)) hg hat);replace aN:=zA (Kd.R_after (ok:=(fun k_=>some k_≠(v565:Value).ownBlock)) (zR aN) hg hat);replace aA:=zgr aA hg (Kd.R_ne aK.out aA.out (by decide));replace HB:=zA hb;have cW:=zA ho;clear aK;clear ho hb hg hat))
        repeat (go_quiet (fail);try go_wp2_with (first|((with_reducible refine gate_builtin (b:=.append) (xs:=#[.tmp 46,.tmp 48]) rfl ?_);at_builtin;refine Kd.R_append (Kd.int .i64) (w0:=w) w.heap.size rfl (.tmp 46) (.tmp 48) 24 3 (.int .i64 0) 8 rfl Try.underlying24 info3 rfl (by decide) (by omega) u8 bA aQ [.int .i64 aQ] (fun k_=>some k_≠(v565:Value).ownBlock∧some k_≠(.slice bF aD.length aX:Value).ownBlock) (fun _=>False) rfl rfl ?aP (fun _ hk=>hk.elim) ?aF ?aO ?aB ?aS ?aL ?_;(case aP=>exact rfl);(case aB=>exact zb);(case aF=>exact(fun k_ hk=>⟨Kd.fresh' (Kd.R_lt (zR aG)) k_ hk,Kd.fresh' (Kd.R_lt (zR aN)) k_ hk⟩));(case aO=>exact(zR aK));(case aS=>exact(below_size zb));(case aL=>have:=cU.out;omega);intro v580 eH ho hb hg hat;rw[←Ny579.out] at ho;replace aG:=zA (Kd.R_after (ok:=(fun k_=>some k_≠(.slice bF aD.length aX:Value).ownBlock)) (z_o aG (fun _ hk=>⟨hk.2,hk.1⟩)) hg hat);replace aN:=zA (Kd.R_after (ok:=(fun k_=>some k_≠(v565:Value).ownBlock)) (zR aN) hg hat);replace aA:=zgr aA hg (Kd.R_ne aK.out aA.out (by decide));replace HB:=zA hb;have cW:=zA ho;clear aK;clear ho hb hg hat)))
        go_roundg k2
        case measure=>have:=HK1.out;have:=HK2.out;omega
        case rel=>exact⟨(dI),(aQ),zr,H',⟨by have:=HK1.out;have:=HK2.out;omega⟩,⟨z_2 aG⟩,⟨z_o cW (fun _ hk=>hk.1)⟩,⟨zk aA⟩,⟨zb⟩⟩

def impl_IsRule.f (a0_0:Int) (a0_1:Int):Option (Bool):=(impl_InRange.f a0_1 1 10).bind fun t583=>(if t583=true then((impl_InRange.f a0_0 0 (wrap64 (a0_1-1))).bind fun t584=>(some t584)) else(some false))
theorem impl_IsRule.calls (aC:Int) (aA:Int) (r:Bool) (w:World) (h:impl_IsRule.f aC aA=some r) :
  Calls Try.prog 30 #[.agg #[.int .i64 aC,.int .i64 aA]] w fun e w'=>e=.returned (.bool r)∧Below w.heap.size w w':=by
 have hu28:=Try.underlying28;have HB:=zA (Below.refl w.heap.size w);have H:=h;clear h;unfold impl_IsRule.f at H;obtain⟨aJ,A2,H⟩:=zB H
 by_cases c3:aJ=true
 ·subst c3;rw[if_pos rfl] at H;obtain⟨aI,A4,H⟩:=zB H;obtain rfl:=zI H;go_enter Try.func30,Try.ntmps30
  go_wp2_with (first|((with_reducible refine zgd 1 rfl ?_);refine zbx 1 #[.int .i64 aC,.int .i64 aA] 28 ?_;intro aE hg w5 hbox hb;have aD:=zA hbox;have aH:=zga (w:=w) hg;replace HB:=zbs hb;clear hb hbox hg;obtain⟨aW,aV,aQ,aN⟩:=ze2 aD)|((with_reducible refine zgf 40 rfl ?_);refine zgl 5 Try.func40 #[.int .i64 aA,.int .i64 1,.int .i64 10] ?_;(with_reducible refine(impl_InRange.calls aA 1 10 true _ A2.out).mono ?_);rintro e w' ⟨rfl,⟨nd,rfl⟩⟩;refine⟨_,rfl,?_⟩)|(go_at_call 40;(with_reducible refine(impl_InRange.calls aC 0 (wrap64 (aA-1)) aI _ A4.out).mono ?_);rintro e w' ⟨rfl,⟨nd,rfl⟩⟩))
  go_ret;exact⟨zE,zb⟩
 ·replace c3:=Bool.eq_false_iff.mpr c3;subst c3;rw[if_neg zNo] at H;obtain rfl:=zI H;go_enter Try.func30,Try.ntmps30
  go_wp2_with (first|((with_reducible refine zgd 1 rfl ?_);refine zbx 1 #[.int .i64 aC,.int .i64 aA] 28 ?_;intro aE hg w7 hbox hb;have aD:=zA hbox;have aH:=zga (w:=w) hg;replace HB:=zbs hb;clear hb hbox hg;obtain⟨aU,aT,aM,aK⟩:=ze2 aD)|((with_reducible refine zgf 40 rfl ?_);refine zgl 5 Try.func40 #[.int .i64 aA,.int .i64 1,.int .i64 10] ?_;(with_reducible refine(impl_InRange.calls aA 1 10 false _ A2.out).mono ?_);rintro e w' ⟨rfl,⟨nd,rfl⟩⟩;refine⟨_,rfl,?_⟩))
  go_ret;exact⟨zE,zb⟩

def impl_AreCrew.l0:Nat→List (S76)→List (S76)→Int→Int→Option (Bool)
  |0,_,_,_,_=>none
  |k+1,x0,x5,x6,x7=>if x7<x6 then(if 0≤x7 then(if x7<(x5.length:Int) then((impl_InRange.f ((rd_T76 x5 x7).f0) 1 99).bind fun t588=>(if t588=true then(if x7>0 then(if 0≤(wrap64 (x7-1)) then(if (wrap64 (x7-1))<(x0.length:Int) then(if ((rd_T76 x5 x7).f0)≤((rd_T76 x0 (wrap64 (x7-1))).f0) then(some false) else((impl_InRange.f ((rd_T76 x5 x7).f1) 0 100).bind fun t590=>(if t590=true then((impl_InRange.f ((rd_T76 x5 x7).f2) 1 10).bind fun t591=>(if t591=true then(impl_AreCrew.l0 k x0 x5 x6 (wrap64 (x7+1))) else(some false))) else(some false)))) else(none)) else(none)) else((impl_InRange.f ((rd_T76 x5 x7).f1) 0 100).bind fun t592=>(if t592=true then((impl_InRange.f ((rd_T76 x5 x7).f2) 1 10).bind fun t593=>(if t593=true then(impl_AreCrew.l0 k x0 x5 x6 (wrap64 (x7+1))) else(some false))) else(some false)))) else(some false))) else(none)) else(none)) else((impl_InRange.f (x0.length:Int) 1 8).bind fun t585=>(some t585))
def impl_AreCrew.f (k:Nat) (l0:List (S76)):Option (Bool):=impl_AreCrew.l0 k l0 l0 (l0.length:Int) 0
def impl_AreCrew.T4:Bool × List (List Nat × List Nat):=(true,[([],[]),([0],[0]),([1],[1]),([2],[2]),([3,2],[3]),([4],[4]),([5,4],[4,5]),([6,4,4],[4,6]),([7],[7]),([8,7],[7,8]),([7],[7]),([7],[7]),([11,7],[7,11]),([10,12,7],[7,10,12]),([13,7],[7,13]),([14,7],[7,14]),([9,15,7],[7,9,15]),([7,16,4],[4,7,16]),([4,17],[4,17]),([18,7],[18]),([19],[19]),([20,19],[19,20]),([21,19,19],[19,21]),([22,19],[19,22]),([19,23],[19,23]),([24,22],[24]),([25],[25]),([26,25],[25,26]),([27,25,25],[25,27]),([28,25],[25,28]),([25,29],[25,29])])
def impl_AreCrew.B4:List Nat:=[0,1,3,7,15,31,63,127,255,511,255,255,2303,7423,15615,31999,65535,131071,262143,524287,1048575,2097151,4194303,8388607,16777215,33554431,67108863,134217727,268435455,536870911,1073741823]
theorem impl_AreCrew.tab4:rtab .any (opsOf Try.f33 4)=impl_AreCrew.T4:=by kernel_rfl
theorem impl_AreCrew.bits4:waitsOk impl_AreCrew.T4.2 impl_AreCrew.B4=true:=by kernel_rfl
theorem impl_AreCrew.calls (k:Nat) (A0:Option Addr) (c0:Nat) (l0:List (S76)) (r:Bool) (w:World) (cA:Kd.C k76 w A0 l0.length l0) (cB:l0.length≤c0) (h:impl_AreCrew.f k l0=some r) :
  Calls Try.prog 33 #[.slice A0 l0.length c0] w fun e w'=>e=.returned (.bool r)∧Below w.heap.size w w':=by
 have hu76:=Try.underlying76;have bA:=zA cA;have fU:=zA cB;clear cA cB;have HB:=zA (Below.refl w.heap.size w);have H:=h;clear h;unfold impl_AreCrew.f at H;have H':=zA H;clear H;go_enter Try.func33,Try.ntmps33;go_wp2
 go_loopg [7] k (fun kq v7 w'=>∃ (aA:Int),v7=.int .i64 aA∧Aside0 (impl_AreCrew.l0 kq l0 l0 (l0.length:Int) aA=some r)∧Aside0 (kq≤k)∧Aside0 (Below w.heap.size w w'))
 case atStart=>exact⟨(0),zr,H',⟨Nat.le_refl _⟩,⟨zb⟩⟩
 case round =>
  clear H';obtain⟨aA,rfl,HA,HK1,HB⟩:=hrel
  cases gk with
  |zero=>exact absurd HA.out (by simp[impl_AreCrew.l0])
  |succ k1 =>
   have H:=HA.out;clear HA;simp only[impl_AreCrew.l0] at H
   by_cases c2:aA<(l0.length:Int)
   ·rw[if_pos c2] at H;have cJ:=decide_eq_true c2;clear c2;obtain⟨fL,H⟩:=zifD H;obtain⟨fK,H⟩:=zifD H;obtain⟨cG,A5,H⟩:=zB H
    by_cases c6:cG=true
    ·subst c6;rw[if_pos rfl] at H
     by_cases c7:aA>0
     ·rw[if_pos c7] at H;have cI:decide (0<aA)=true:=decide_eq_true c7;clear c7;obtain⟨aH,bD⟩:∃ j_:Int,(wrap64 (aA-1))=j_:=⟨_,rfl⟩
      replace H:(if 0≤(aH) then(if (aH)<(l0.length:Int) then(if ((rd_T76 l0 aA).f0)≤((rd_T76 l0 (aH)).f0) then(some false) else((impl_InRange.f ((rd_T76 l0 aA).f1) 0 100).bind fun bH=>(if bH=true then((impl_InRange.f ((rd_T76 l0 aA).f2) 1 10).bind fun bG=>(if bG=true then(impl_AreCrew.l0 k1 l0 l0 (l0.length:Int) (wrap64 (aA+1))) else(some false))) else(some false)))) else(none)) else(none))=some r:=by first|(rw[bD] at H;exact H)|(simp only[bD] at H ⊢;exact H)
      (try rw[bD] at A5);have fH:(IntKind.i64.wrap (aA-1))=aH:=(i64_w _).trans bD;obtain⟨fJ,H⟩:=zifD H;obtain⟨fI,H⟩:=zifD H
      by_cases c11:((rd_T76 l0 aA).f0)≤((rd_T76 l0 (aH)).f0)
      ·rw[if_pos c11] at H;have bZ:=decide_eq_true c11;clear c11;obtain rfl:=zI H;have bC:=zT (0≤(aA:Int));have bB:=zT (aA<(l0.length:Int));obtain⟨aG,aX,aM,aK,aJ,aI⟩:=at_T76 bA.out aA zd zd;cases aX;replace aM:=zC HB aM;replace aK:=zC HB aK;replace aJ:=zC HB aJ;replace aI:=zC HB aI
       try go_wp2_with (first|((with_reducible refine zgd 4 rfl ?_);refine zbx 4 #[.int .i64 0,.int .i64 0,.int .i64 0,.bool false] 76 ?_;intro aD hg bV hbox hb;have aC:=zA hbox;have aZ:=zga (w:=w) hg;replace HB:=zbs hb;clear hb hbox hg;obtain⟨eV,eU,eT,eS,dP,dO,dN,dM⟩:=ze4 aC))
       have aW:Aside0 (((((bV.setCell ⟨aD,0,none⟩ (.int .i64 ((rd_T76 l0 aA).f0))).setCell ⟨aD,1,none⟩ (.int .i64 ((rd_T76 l0 aA).f1))).setCell ⟨aD,2,none⟩ (.int .i64 ((rd_T76 l0 aA).f2))).setCell ⟨aD,3,none⟩ (.bool ((rd_T76 l0 aA).f3))).heap[aD]?=some (.cells #[.int .i64 ((rd_T76 l0 aA).f0),.int .i64 ((rd_T76 l0 aA).f1),.int .i64 ((rd_T76 l0 aA).f2),.bool ((rd_T76 l0 aA).f3)] 76 (0,0))):=⟨zkp aC⟩;have aV:Aside0 (Below w.heap.size w ((((bV.setCell ⟨aD,0,none⟩ (.int .i64 ((rd_T76 l0 aA).f0))).setCell ⟨aD,1,none⟩ (.int .i64 ((rd_T76 l0 aA).f1))).setCell ⟨aD,2,none⟩ (.int .i64 ((rd_T76 l0 aA).f2))).setCell ⟨aD,3,none⟩ (.bool ((rd_T76 l0 aA).f3)))):=⟨zb⟩;(try clear aC HB);generalize ((((bV.setCell ⟨aD,0,none⟩ (.int .i64 ((rd_T76 l0 aA).f0))).setCell ⟨aD,1,none⟩ (.int .i64 ((rd_T76 l0 aA).f1))).setCell ⟨aD,2,none⟩ (.int .i64 ((rd_T76 l0 aA).f2))).setCell ⟨aD,3,none⟩ (.bool ((rd_T76 l0 aA).f3)))=fD at aW aV ⊢;have aC:=aW;have HB:=aV;clear aW aV;replace aC:=zA (blk_drew aC.out);replace HB:=zA (below_drew1 HB.out);have bJ:=zT (0≤((aH):Int));have bI:=zT ((aH)<(l0.length:Int));obtain⟨aY,bE,aU,aT,aQ,aN⟩:=at_T76 bA.out (aH) zd zd;obtain rfl:aG=aY:=(by injection bE);refine start_ (n:=31) (S:=fun w'=>w'.cell? ⟨aD,0,none⟩=some (.int .i64 ((rd_T76 l0 aA).f0))∧w'.cell? ⟨aD,1,none⟩=some (.int .i64 ((rd_T76 l0 aA).f1))∧w'.cell? ⟨aD,2,none⟩=some (.int .i64 ((rd_T76 l0 aA).f2))∧w'.cell? ⟨aD,3,none⟩=some (.bool ((rd_T76 l0 aA).f3))∧w'.cell? (aG.add (((aH)).toNat * 4))=some (.int .i64 ((rd_T76 l0 (aH)).f0))∧w'.cell? ⟨(aG.add (((aH)).toNat * 4)).block,(aG.add (((aH)).toNat * 4)).off+1,none⟩=some (.int .i64 ((rd_T76 l0 (aH)).f1))∧w'.cell? ⟨(aG.add (((aH)).toNat * 4)).block,(aG.add (((aH)).toNat * 4)).off+2,none⟩=some (.int .i64 ((rd_T76 l0 (aH)).f2))∧w'.cell? ⟨(aG.add (((aH)).toNat * 4)).block,(aG.add (((aH)).toNat * 4)).off+3,none⟩=some (.bool ((rd_T76 l0 (aH)).f3))) (ds:=[]) _ (by kernel_rfl) rfl rfl ⟨zq aC 0,zq aC 1,zq aC 2,zq aC 3,(zC HB aU),(zC HB aT),(zC HB aQ),(zC HB aN)⟩ (fun hHeld=>?_);refine with_tabW impl_AreCrew.tab4 impl_AreCrew.bits4 (fun HT_ HW_=>?_)
       generalize fD.drew=fT at aC HB hHeld ⊢;refine z_p 0 ?_;refine zt 1 13 HT_ HW_ hHeld ?_;refine zo 2 14 HT_ (fun K hK=>?_);refine zgo Try.func40 #[.int .i64 ((rd_T76 l0 aA).f0),.int .i64 1,.int .i64 99] ?_
       with_reducible refine(impl_InRange.calls ((rd_T76 l0 aA).f0) 1 99 true _ A5.out).mono ?_
       rintro e w' ⟨rfl,⟨nd,rfl⟩⟩;refine⟨_,rfl,?_⟩;refine hK.out _ _ ⟨zq aC 0,zq aC 1,zq aC 2,zq aC 3,(zC HB aU :),(zC HB aT :),(zC HB aQ :),(zC HB aN :)⟩ (fun hHeld=>?_);clear hK K;refine norm_ zV ?_;refine z_p 3 ?_;refine z_p 4 ?_;refine z_p 5 ?_;refine z_p 6 ?_;refine z_p 7 ?_;refine z_p 8 ?_;refine z_p 10 ?_;refine z_p 11 ?_;refine z_p 12 ?_;refine z_p 13 ?_;refine z_p 14 ?_;refine zt 9 21 HT_ HW_ hHeld ?_;refine zt 15 27 HT_ HW_ hHeld ?_;refine z_p 16 ?_;refine z_p 17 ?_;refine z_p 18 ?_;refine z_p 19 ?_;refine z_u 20 ?_;refine z_u 21 ?_;refine z_u 22 ?_;refine z_u 23 ?_;refine z_p 24 ?_;refine z_p 25 ?_;refine z_u 26 ?_;refine z_u 27 ?_;refine z_u 28 ?_;refine z_u 29 ?_;refine z_p 30 ?_;refine done_ (done_of HT_.out (by kernel_rfl)) ?_
       try go_wp2
       go_ret;exact⟨by first|rfl|(simp[errW_none,errW_some] <;> rfl)|(simp only[←bD];first|rfl|(simp[errW_none,errW_some] <;> rfl))|(simp[*,errW_none,errW_some] <;> rfl),zb⟩
      ·rw[if_neg c11] at H;have bZ:=decide_eq_false c11;clear c11;obtain⟨bH,bX,H⟩:=zB H
       by_cases bN:bH=true
       ·subst bN;rw[if_pos rfl] at H;obtain⟨bG,cD,H⟩:=zB H
        by_cases bM:bG=true
        ·subst bM;rw[if_pos rfl] at H;have H':=zA H;clear H;have bC:=zT (0≤(aA:Int));have bB:=zT (aA<(l0.length:Int));obtain⟨aG,aX,aM,aK,aJ,aI⟩:=at_T76 bA.out aA zd zd;cases aX;replace aM:=zC HB aM;replace aK:=zC HB aK;replace aJ:=zC HB aJ;replace aI:=zC HB aI
         try go_wp2_with (first|((with_reducible refine zgd 4 rfl ?_);refine zbx 4 #[.int .i64 0,.int .i64 0,.int .i64 0,.bool false] 76 ?_;intro aD hg bU hbox hb;have aC:=zA hbox;have aZ:=zga (w:=w) hg;replace HB:=zbs hb;clear hb hbox hg;obtain⟨eR,eQ,eP,eO,dL,dK,dJ,dI⟩:=ze4 aC))
         have aW:Aside0 (((((bU.setCell ⟨aD,0,none⟩ (.int .i64 ((rd_T76 l0 aA).f0))).setCell ⟨aD,1,none⟩ (.int .i64 ((rd_T76 l0 aA).f1))).setCell ⟨aD,2,none⟩ (.int .i64 ((rd_T76 l0 aA).f2))).setCell ⟨aD,3,none⟩ (.bool ((rd_T76 l0 aA).f3))).heap[aD]?=some (.cells #[.int .i64 ((rd_T76 l0 aA).f0),.int .i64 ((rd_T76 l0 aA).f1),.int .i64 ((rd_T76 l0 aA).f2),.bool ((rd_T76 l0 aA).f3)] 76 (0,0))):=⟨zkp aC⟩;have aV:Aside0 (Below w.heap.size w ((((bU.setCell ⟨aD,0,none⟩ (.int .i64 ((rd_T76 l0 aA).f0))).setCell ⟨aD,1,none⟩ (.int .i64 ((rd_T76 l0 aA).f1))).setCell ⟨aD,2,none⟩ (.int .i64 ((rd_T76 l0 aA).f2))).setCell ⟨aD,3,none⟩ (.bool ((rd_T76 l0 aA).f3)))):=⟨zb⟩;(try clear aC HB);generalize ((((bU.setCell ⟨aD,0,none⟩ (.int .i64 ((rd_T76 l0 aA).f0))).setCell ⟨aD,1,none⟩ (.int .i64 ((rd_T76 l0 aA).f1))).setCell ⟨aD,2,none⟩ (.int .i64 ((rd_T76 l0 aA).f2))).setCell ⟨aD,3,none⟩ (.bool ((rd_T76 l0 aA).f3)))=fC at aW aV ⊢;have aC:=aW;have HB:=aV;clear aW aV;replace aC:=zA (blk_drew aC.out);replace HB:=zA (below_drew1 HB.out);have bJ:=zT (0≤((aH):Int));have bI:=zT ((aH)<(l0.length:Int));obtain⟨aY,bE,aU,aT,aQ,aN⟩:=at_T76 bA.out (aH) zd zd;obtain rfl:aG=aY:=(by injection bE);refine start_ (n:=31) (S:=fun w'=>w'.cell? ⟨aD,0,none⟩=some (.int .i64 ((rd_T76 l0 aA).f0))∧w'.cell? ⟨aD,1,none⟩=some (.int .i64 ((rd_T76 l0 aA).f1))∧w'.cell? ⟨aD,2,none⟩=some (.int .i64 ((rd_T76 l0 aA).f2))∧w'.cell? ⟨aD,3,none⟩=some (.bool ((rd_T76 l0 aA).f3))∧w'.cell? (aG.add (((aH)).toNat * 4))=some (.int .i64 ((rd_T76 l0 (aH)).f0))∧w'.cell? ⟨(aG.add (((aH)).toNat * 4)).block,(aG.add (((aH)).toNat * 4)).off+1,none⟩=some (.int .i64 ((rd_T76 l0 (aH)).f1))∧w'.cell? ⟨(aG.add (((aH)).toNat * 4)).block,(aG.add (((aH)).toNat * 4)).off+2,none⟩=some (.int .i64 ((rd_T76 l0 (aH)).f2))∧w'.cell? ⟨(aG.add (((aH)).toNat * 4)).block,(aG.add (((aH)).toNat * 4)).off+3,none⟩=some (.bool ((rd_T76 l0 (aH)).f3))) (ds:=[]) _ (by kernel_rfl) rfl rfl ⟨zq aC 0,zq aC 1,zq aC 2,zq aC 3,(zC HB aU),(zC HB aT),(zC HB aQ),(zC HB aN)⟩ (fun hHeld=>?_);refine with_tabW impl_AreCrew.tab4 impl_AreCrew.bits4 (fun HT_ HW_=>?_)
         generalize fC.drew=fS at aC HB hHeld ⊢;refine z_p 0 ?_;refine zt 1 13 HT_ HW_ hHeld ?_;refine zo 2 14 HT_ (fun K hK=>?_);refine zgo Try.func40 #[.int .i64 ((rd_T76 l0 aA).f0),.int .i64 1,.int .i64 99] ?_
         with_reducible refine(impl_InRange.calls ((rd_T76 l0 aA).f0) 1 99 true _ A5.out).mono ?_
         rintro e w' ⟨rfl,⟨nd,rfl⟩⟩;refine⟨_,rfl,?_⟩;refine hK.out _ _ ⟨zq aC 0,zq aC 1,zq aC 2,zq aC 3,(zC HB aU :),(zC HB aT :),(zC HB aQ :),(zC HB aN :)⟩ (fun hHeld=>?_);clear hK K;refine norm_ zV ?_;refine z_p 3 ?_;refine z_p 4 ?_;refine z_p 5 ?_;refine z_p 6 ?_;refine z_p 7 ?_;refine z_p 8 ?_;refine z_p 10 ?_;refine z_p 11 ?_;refine z_p 12 ?_;refine z_p 13 ?_;refine z_p 14 ?_;refine zt 9 21 HT_ HW_ hHeld ?_;refine zt 15 27 HT_ HW_ hHeld ?_;refine z_p 16 ?_;refine z_p 17 ?_;refine z_p 18 ?_;refine z_p 19 ?_;refine z_p 20 ?_;refine zt 21 33 HT_ HW_ hHeld ?_;refine zo 22 34 HT_ (fun K hK=>?_);refine zgo Try.func40 #[.int .i64 ((rd_T76 l0 aA).f1),.int .i64 0,.int .i64 100] ?_
         with_reducible refine(impl_InRange.calls ((rd_T76 l0 aA).f1) 0 100 true _ bX.out).mono ?_
         rintro e w' ⟨rfl,⟨nd,rfl⟩⟩;refine⟨_,rfl,?_⟩;refine hK.out _ _ ⟨zq aC 0,zq aC 1,zq aC 2,zq aC 3,(zC HB aU :),(zC HB aT :),(zC HB aQ :),(zC HB aN :)⟩ (fun hHeld=>?_);clear hK K;refine norm_ zV ?_;refine z_p 23 ?_;refine z_p 24 ?_;refine z_p 25 ?_;refine z_p 26 ?_;refine zt 27 39 HT_ HW_ hHeld ?_;refine zo 28 40 HT_ (fun K hK=>?_);refine zgo Try.func40 #[.int .i64 ((rd_T76 l0 aA).f2),.int .i64 1,.int .i64 10] ?_
         with_reducible refine(impl_InRange.calls ((rd_T76 l0 aA).f2) 1 10 true _ cD.out).mono ?_
         rintro e w' ⟨rfl,⟨nd,rfl⟩⟩;refine⟨_,rfl,?_⟩;refine hK.out _ _ ⟨zq aC 0,zq aC 1,zq aC 2,zq aC 3,(zC HB aU :),(zC HB aT :),(zC HB aQ :),(zC HB aN :)⟩ (fun hHeld=>?_);clear hK K;refine norm_ zV ?_;refine z_p 29 ?_;refine z_p 30 ?_;refine done_ (done_of HT_.out (by kernel_rfl)) ?_
         try go_wp2
         go_roundg k1
         case measure=>have:=HK1.out;omega
         case rel=>exact⟨(wrap64 (aA+1)),zr,H',⟨by have:=HK1.out;omega⟩,⟨zb⟩⟩
        ·replace bM:=Bool.eq_false_iff.mpr bM;subst bM;rw[if_neg zNo] at H;obtain rfl:=zI H;have bC:=zT (0≤(aA:Int));have bB:=zT (aA<(l0.length:Int));obtain⟨aG,aX,aM,aK,aJ,aI⟩:=at_T76 bA.out aA zd zd;cases aX;replace aM:=zC HB aM;replace aK:=zC HB aK;replace aJ:=zC HB aJ;replace aI:=zC HB aI
         try go_wp2_with (first|((with_reducible refine zgd 4 rfl ?_);refine zbx 4 #[.int .i64 0,.int .i64 0,.int .i64 0,.bool false] 76 ?_;intro aD hg bT hbox hb;have aC:=zA hbox;have aZ:=zga (w:=w) hg;replace HB:=zbs hb;clear hb hbox hg;obtain⟨eN,eM,eL,eK,dH,dG,dF,dE⟩:=ze4 aC))
         have aW:Aside0 (((((bT.setCell ⟨aD,0,none⟩ (.int .i64 ((rd_T76 l0 aA).f0))).setCell ⟨aD,1,none⟩ (.int .i64 ((rd_T76 l0 aA).f1))).setCell ⟨aD,2,none⟩ (.int .i64 ((rd_T76 l0 aA).f2))).setCell ⟨aD,3,none⟩ (.bool ((rd_T76 l0 aA).f3))).heap[aD]?=some (.cells #[.int .i64 ((rd_T76 l0 aA).f0),.int .i64 ((rd_T76 l0 aA).f1),.int .i64 ((rd_T76 l0 aA).f2),.bool ((rd_T76 l0 aA).f3)] 76 (0,0))):=⟨zkp aC⟩;have aV:Aside0 (Below w.heap.size w ((((bT.setCell ⟨aD,0,none⟩ (.int .i64 ((rd_T76 l0 aA).f0))).setCell ⟨aD,1,none⟩ (.int .i64 ((rd_T76 l0 aA).f1))).setCell ⟨aD,2,none⟩ (.int .i64 ((rd_T76 l0 aA).f2))).setCell ⟨aD,3,none⟩ (.bool ((rd_T76 l0 aA).f3)))):=⟨zb⟩;(try clear aC HB);generalize ((((bT.setCell ⟨aD,0,none⟩ (.int .i64 ((rd_T76 l0 aA).f0))).setCell ⟨aD,1,none⟩ (.int .i64 ((rd_T76 l0 aA).f1))).setCell ⟨aD,2,none⟩ (.int .i64 ((rd_T76 l0 aA).f2))).setCell ⟨aD,3,none⟩ (.bool ((rd_T76 l0 aA).f3)))=fB at aW aV ⊢;have aC:=aW;have HB:=aV;clear aW aV;replace aC:=zA (blk_drew aC.out);replace HB:=zA (below_drew1 HB.out);have bJ:=zT (0≤((aH):Int));have bI:=zT ((aH)<(l0.length:Int));obtain⟨aY,bE,aU,aT,aQ,aN⟩:=at_T76 bA.out (aH) zd zd;obtain rfl:aG=aY:=(by injection bE);refine start_ (n:=31) (S:=fun w'=>w'.cell? ⟨aD,0,none⟩=some (.int .i64 ((rd_T76 l0 aA).f0))∧w'.cell? ⟨aD,1,none⟩=some (.int .i64 ((rd_T76 l0 aA).f1))∧w'.cell? ⟨aD,2,none⟩=some (.int .i64 ((rd_T76 l0 aA).f2))∧w'.cell? ⟨aD,3,none⟩=some (.bool ((rd_T76 l0 aA).f3))∧w'.cell? (aG.add (((aH)).toNat * 4))=some (.int .i64 ((rd_T76 l0 (aH)).f0))∧w'.cell? ⟨(aG.add (((aH)).toNat * 4)).block,(aG.add (((aH)).toNat * 4)).off+1,none⟩=some (.int .i64 ((rd_T76 l0 (aH)).f1))∧w'.cell? ⟨(aG.add (((aH)).toNat * 4)).block,(aG.add (((aH)).toNat * 4)).off+2,none⟩=some (.int .i64 ((rd_T76 l0 (aH)).f2))∧w'.cell? ⟨(aG.add (((aH)).toNat * 4)).block,(aG.add (((aH)).toNat * 4)).off+3,none⟩=some (.bool ((rd_T76 l0 (aH)).f3))) (ds:=[]) _ (by kernel_rfl) rfl rfl ⟨zq aC 0,zq aC 1,zq aC 2,zq aC 3,(zC HB aU),(zC HB aT),(zC HB aQ),(zC HB aN)⟩ (fun hHeld=>?_);refine with_tabW impl_AreCrew.tab4 impl_AreCrew.bits4 (fun HT_ HW_=>?_)
         generalize fB.drew=fR at aC HB hHeld ⊢;refine z_p 0 ?_;refine zt 1 13 HT_ HW_ hHeld ?_;refine zo 2 14 HT_ (fun K hK=>?_);refine zgo Try.func40 #[.int .i64 ((rd_T76 l0 aA).f0),.int .i64 1,.int .i64 99] ?_
         with_reducible refine(impl_InRange.calls ((rd_T76 l0 aA).f0) 1 99 true _ A5.out).mono ?_
         rintro e w' ⟨rfl,⟨nd,rfl⟩⟩;refine⟨_,rfl,?_⟩;refine hK.out _ _ ⟨zq aC 0,zq aC 1,zq aC 2,zq aC 3,(zC HB aU :),(zC HB aT :),(zC HB aQ :),(zC HB aN :)⟩ (fun hHeld=>?_);clear hK K;refine norm_ zV ?_;refine z_p 3 ?_;refine z_p 4 ?_;refine z_p 5 ?_;refine z_p 6 ?_;refine z_p 7 ?_;refine z_p 8 ?_;refine z_p 10 ?_;refine z_p 11 ?_;refine z_p 12 ?_;refine z_p 13 ?_;refine z_p 14 ?_;refine zt 9 21 HT_ HW_ hHeld ?_;refine zt 15 27 HT_ HW_ hHeld ?_;refine z_p 16 ?_;refine z_p 17 ?_;refine z_p 18 ?_;refine z_p 19 ?_;refine z_p 20 ?_;refine zt 21 33 HT_ HW_ hHeld ?_;refine zo 22 34 HT_ (fun K hK=>?_);refine zgo Try.func40 #[.int .i64 ((rd_T76 l0 aA).f1),.int .i64 0,.int .i64 100] ?_
         with_reducible refine(impl_InRange.calls ((rd_T76 l0 aA).f1) 0 100 true _ bX.out).mono ?_
         rintro e w' ⟨rfl,⟨nd,rfl⟩⟩;refine⟨_,rfl,?_⟩;refine hK.out _ _ ⟨zq aC 0,zq aC 1,zq aC 2,zq aC 3,(zC HB aU :),(zC HB aT :),(zC HB aQ :),(zC HB aN :)⟩ (fun hHeld=>?_);clear hK K;refine norm_ zV ?_;refine z_p 23 ?_;refine z_p 24 ?_;refine z_p 25 ?_;refine z_p 26 ?_;refine zt 27 39 HT_ HW_ hHeld ?_;refine zo 28 40 HT_ (fun K hK=>?_);refine zgo Try.func40 #[.int .i64 ((rd_T76 l0 aA).f2),.int .i64 1,.int .i64 10] ?_
         with_reducible refine(impl_InRange.calls ((rd_T76 l0 aA).f2) 1 10 false _ cD.out).mono ?_
         rintro e w' ⟨rfl,⟨nd,rfl⟩⟩;refine⟨_,rfl,?_⟩;refine hK.out _ _ ⟨zq aC 0,zq aC 1,zq aC 2,zq aC 3,(zC HB aU :),(zC HB aT :),(zC HB aQ :),(zC HB aN :)⟩ (fun hHeld=>?_);clear hK K;refine norm_ zV ?_;refine z_p 29 ?_;refine z_p 30 ?_;refine done_ (done_of HT_.out (by kernel_rfl)) ?_
         try go_wp2
         go_ret;exact⟨by first|rfl|(simp[errW_none,errW_some] <;> rfl)|(simp only[←bD];first|rfl|(simp[errW_none,errW_some] <;> rfl))|(simp[*,errW_none,errW_some] <;> rfl),zb⟩
       ·replace bN:=Bool.eq_false_iff.mpr bN;subst bN;rw[if_neg zNo] at H;obtain rfl:=zI H;have bC:=zT (0≤(aA:Int));have bB:=zT (aA<(l0.length:Int));obtain⟨aG,aX,aM,aK,aJ,aI⟩:=at_T76 bA.out aA zd zd;cases aX;replace aM:=zC HB aM;replace aK:=zC HB aK;replace aJ:=zC HB aJ;replace aI:=zC HB aI
        try go_wp2_with (first|((with_reducible refine zgd 4 rfl ?_);refine zbx 4 #[.int .i64 0,.int .i64 0,.int .i64 0,.bool false] 76 ?_;intro aD hg bS hbox hb;have aC:=zA hbox;have aZ:=zga (w:=w) hg;replace HB:=zbs hb;clear hb hbox hg;obtain⟨eJ,eI,eH,eG,dD,dC,dB,dA⟩:=ze4 aC))
        have aW:Aside0 (((((bS.setCell ⟨aD,0,none⟩ (.int .i64 ((rd_T76 l0 aA).f0))).setCell ⟨aD,1,none⟩ (.int .i64 ((rd_T76 l0 aA).f1))).setCell ⟨aD,2,none⟩ (.int .i64 ((rd_T76 l0 aA).f2))).setCell ⟨aD,3,none⟩ (.bool ((rd_T76 l0 aA).f3))).heap[aD]?=some (.cells #[.int .i64 ((rd_T76 l0 aA).f0),.int .i64 ((rd_T76 l0 aA).f1),.int .i64 ((rd_T76 l0 aA).f2),.bool ((rd_T76 l0 aA).f3)] 76 (0,0))):=⟨zkp aC⟩;have aV:Aside0 (Below w.heap.size w ((((bS.setCell ⟨aD,0,none⟩ (.int .i64 ((rd_T76 l0 aA).f0))).setCell ⟨aD,1,none⟩ (.int .i64 ((rd_T76 l0 aA).f1))).setCell ⟨aD,2,none⟩ (.int .i64 ((rd_T76 l0 aA).f2))).setCell ⟨aD,3,none⟩ (.bool ((rd_T76 l0 aA).f3)))):=⟨zb⟩;(try clear aC HB);generalize ((((bS.setCell ⟨aD,0,none⟩ (.int .i64 ((rd_T76 l0 aA).f0))).setCell ⟨aD,1,none⟩ (.int .i64 ((rd_T76 l0 aA).f1))).setCell ⟨aD,2,none⟩ (.int .i64 ((rd_T76 l0 aA).f2))).setCell ⟨aD,3,none⟩ (.bool ((rd_T76 l0 aA).f3)))=fA at aW aV ⊢;have aC:=aW;have HB:=aV;clear aW aV;replace aC:=zA (blk_drew aC.out);replace HB:=zA (below_drew1 HB.out);have bJ:=zT (0≤((aH):Int));have bI:=zT ((aH)<(l0.length:Int));obtain⟨aY,bE,aU,aT,aQ,aN⟩:=at_T76 bA.out (aH) zd zd;obtain rfl:aG=aY:=(by injection bE);refine start_ (n:=31) (S:=fun w'=>w'.cell? ⟨aD,0,none⟩=some (.int .i64 ((rd_T76 l0 aA).f0))∧w'.cell? ⟨aD,1,none⟩=some (.int .i64 ((rd_T76 l0 aA).f1))∧w'.cell? ⟨aD,2,none⟩=some (.int .i64 ((rd_T76 l0 aA).f2))∧w'.cell? ⟨aD,3,none⟩=some (.bool ((rd_T76 l0 aA).f3))∧w'.cell? (aG.add (((aH)).toNat * 4))=some (.int .i64 ((rd_T76 l0 (aH)).f0))∧w'.cell? ⟨(aG.add (((aH)).toNat * 4)).block,(aG.add (((aH)).toNat * 4)).off+1,none⟩=some (.int .i64 ((rd_T76 l0 (aH)).f1))∧w'.cell? ⟨(aG.add (((aH)).toNat * 4)).block,(aG.add (((aH)).toNat * 4)).off+2,none⟩=some (.int .i64 ((rd_T76 l0 (aH)).f2))∧w'.cell? ⟨(aG.add (((aH)).toNat * 4)).block,(aG.add (((aH)).toNat * 4)).off+3,none⟩=some (.bool ((rd_T76 l0 (aH)).f3))) (ds:=[]) _ (by kernel_rfl) rfl rfl ⟨zq aC 0,zq aC 1,zq aC 2,zq aC 3,(zC HB aU),(zC HB aT),(zC HB aQ),(zC HB aN)⟩ (fun hHeld=>?_);refine with_tabW impl_AreCrew.tab4 impl_AreCrew.bits4 (fun HT_ HW_=>?_)
        generalize fA.drew=fQ at aC HB hHeld ⊢;refine z_p 0 ?_;refine zt 1 13 HT_ HW_ hHeld ?_;refine zo 2 14 HT_ (fun K hK=>?_);refine zgo Try.func40 #[.int .i64 ((rd_T76 l0 aA).f0),.int .i64 1,.int .i64 99] ?_
        with_reducible refine(impl_InRange.calls ((rd_T76 l0 aA).f0) 1 99 true _ A5.out).mono ?_
        rintro e w' ⟨rfl,⟨nd,rfl⟩⟩;refine⟨_,rfl,?_⟩;refine hK.out _ _ ⟨zq aC 0,zq aC 1,zq aC 2,zq aC 3,(zC HB aU :),(zC HB aT :),(zC HB aQ :),(zC HB aN :)⟩ (fun hHeld=>?_);clear hK K;refine norm_ zV ?_;refine z_p 3 ?_;refine z_p 4 ?_;refine z_p 5 ?_;refine z_p 6 ?_;refine z_p 7 ?_;refine z_p 8 ?_;refine z_p 10 ?_;refine z_p 11 ?_;refine z_p 12 ?_;refine z_p 13 ?_;refine z_p 14 ?_;refine zt 9 21 HT_ HW_ hHeld ?_;refine zt 15 27 HT_ HW_ hHeld ?_;refine z_p 16 ?_;refine z_p 17 ?_;refine z_p 18 ?_;refine z_p 19 ?_;refine z_p 20 ?_;refine zt 21 33 HT_ HW_ hHeld ?_;refine zo 22 34 HT_ (fun K hK=>?_);refine zgo Try.func40 #[.int .i64 ((rd_T76 l0 aA).f1),.int .i64 0,.int .i64 100] ?_
        with_reducible refine(impl_InRange.calls ((rd_T76 l0 aA).f1) 0 100 false _ bX.out).mono ?_
        rintro e w' ⟨rfl,⟨nd,rfl⟩⟩;refine⟨_,rfl,?_⟩;refine hK.out _ _ ⟨zq aC 0,zq aC 1,zq aC 2,zq aC 3,(zC HB aU :),(zC HB aT :),(zC HB aQ :),(zC HB aN :)⟩ (fun hHeld=>?_);clear hK K;refine norm_ zV ?_;refine z_p 23 ?_;refine z_p 24 ?_;refine z_p 25 ?_;refine z_u 26 ?_;refine z_u 27 ?_;refine z_u 28 ?_;refine z_u 29 ?_;refine z_p 30 ?_;refine done_ (done_of HT_.out (by kernel_rfl)) ?_
        try go_wp2
        go_ret;exact⟨by first|rfl|(simp[errW_none,errW_some] <;> rfl)|(simp only[←bD];first|rfl|(simp[errW_none,errW_some] <;> rfl))|(simp[*,errW_none,errW_some] <;> rfl),zb⟩
     ·rw[if_neg c7] at H;have cI:decide (0<aA)=false:=decide_eq_false c7;clear c7;obtain⟨cF,bW,H⟩:=zB H
      by_cases bL:cF=true
      ·subst bL;rw[if_pos rfl] at H;obtain⟨cE,cC,H⟩:=zB H
       by_cases bK:cE=true
       ·subst bK;rw[if_pos rfl] at H;have H':=zA H;clear H;have bC:=zT (0≤(aA:Int));have bB:=zT (aA<(l0.length:Int));obtain⟨aG,aX,aM,aK,aJ,aI⟩:=at_T76 bA.out aA zd zd;cases aX;replace aM:=zC HB aM;replace aK:=zC HB aK;replace aJ:=zC HB aJ;replace aI:=zC HB aI
        try go_wp2_with (first|((with_reducible refine zgd 4 rfl ?_);refine zbx 4 #[.int .i64 0,.int .i64 0,.int .i64 0,.bool false] 76 ?_;intro aD hg bR hbox hb;have aC:=zA hbox;have aZ:=zga (w:=w) hg;replace HB:=zbs hb;clear hb hbox hg;obtain⟨eF,eE,eD,eC,cZ,cY,cX,cW⟩:=ze4 aC))
        have aW:Aside0 (((((bR.setCell ⟨aD,0,none⟩ (.int .i64 ((rd_T76 l0 aA).f0))).setCell ⟨aD,1,none⟩ (.int .i64 ((rd_T76 l0 aA).f1))).setCell ⟨aD,2,none⟩ (.int .i64 ((rd_T76 l0 aA).f2))).setCell ⟨aD,3,none⟩ (.bool ((rd_T76 l0 aA).f3))).heap[aD]?=some (.cells #[.int .i64 ((rd_T76 l0 aA).f0),.int .i64 ((rd_T76 l0 aA).f1),.int .i64 ((rd_T76 l0 aA).f2),.bool ((rd_T76 l0 aA).f3)] 76 (0,0))):=⟨zkp aC⟩;have aV:Aside0 (Below w.heap.size w ((((bR.setCell ⟨aD,0,none⟩ (.int .i64 ((rd_T76 l0 aA).f0))).setCell ⟨aD,1,none⟩ (.int .i64 ((rd_T76 l0 aA).f1))).setCell ⟨aD,2,none⟩ (.int .i64 ((rd_T76 l0 aA).f2))).setCell ⟨aD,3,none⟩ (.bool ((rd_T76 l0 aA).f3)))):=⟨zb⟩;(try clear aC HB);generalize ((((bR.setCell ⟨aD,0,none⟩ (.int .i64 ((rd_T76 l0 aA).f0))).setCell ⟨aD,1,none⟩ (.int .i64 ((rd_T76 l0 aA).f1))).setCell ⟨aD,2,none⟩ (.int .i64 ((rd_T76 l0 aA).f2))).setCell ⟨aD,3,none⟩ (.bool ((rd_T76 l0 aA).f3)))=eZ at aW aV ⊢;have aC:=aW;have HB:=aV;clear aW aV;replace aC:=zA (blk_drew aC.out);replace HB:=zA (below_drew1 HB.out);refine start_ (n:=31) (S:=fun w'=>w'.cell? ⟨aD,0,none⟩=some (.int .i64 ((rd_T76 l0 aA).f0))∧w'.cell? ⟨aD,1,none⟩=some (.int .i64 ((rd_T76 l0 aA).f1))∧w'.cell? ⟨aD,2,none⟩=some (.int .i64 ((rd_T76 l0 aA).f2))∧w'.cell? ⟨aD,3,none⟩=some (.bool ((rd_T76 l0 aA).f3))) (ds:=[]) _ (by kernel_rfl) rfl rfl ⟨zq aC 0,zq aC 1,zq aC 2,zq aC 3⟩ (fun hHeld=>?_);refine with_tabW impl_AreCrew.tab4 impl_AreCrew.bits4 (fun HT_ HW_=>?_);generalize eZ.drew=fP at aC HB hHeld ⊢;refine z_p 0 ?_;refine zt 1 13 HT_ HW_ hHeld ?_;refine zo 2 14 HT_ (fun K hK=>?_);refine zgo Try.func40 #[.int .i64 ((rd_T76 l0 aA).f0),.int .i64 1,.int .i64 99] ?_
        with_reducible refine(impl_InRange.calls ((rd_T76 l0 aA).f0) 1 99 true _ A5.out).mono ?_
        rintro e w' ⟨rfl,⟨nd,rfl⟩⟩;refine⟨_,rfl,?_⟩;refine hK.out _ _ ⟨zq aC 0,zq aC 1,zq aC 2,zq aC 3⟩ (fun hHeld=>?_);clear hK K;refine norm_ zV ?_;refine z_p 3 ?_;refine z_p 4 ?_;refine z_p 5 ?_;refine z_p 6 ?_;refine z_p 7 ?_;refine z_u 8 ?_;refine z_u 9 ?_;refine z_u 10 ?_;refine z_u 11 ?_;refine z_u 12 ?_;refine z_u 13 ?_;refine z_u 14 ?_;refine z_u 15 ?_;refine z_u 16 ?_;refine z_p 17 ?_;refine z_p 18 ?_;refine z_p 19 ?_;refine z_p 20 ?_;refine zt 21 33 HT_ HW_ hHeld ?_;refine zo 22 34 HT_ (fun K hK=>?_);refine zgo Try.func40 #[.int .i64 ((rd_T76 l0 aA).f1),.int .i64 0,.int .i64 100] ?_
        with_reducible refine(impl_InRange.calls ((rd_T76 l0 aA).f1) 0 100 true _ bW.out).mono ?_
        rintro e w' ⟨rfl,⟨nd,rfl⟩⟩;refine⟨_,rfl,?_⟩;refine hK.out _ _ ⟨zq aC 0,zq aC 1,zq aC 2,zq aC 3⟩ (fun hHeld=>?_);clear hK K;refine norm_ zV ?_;refine z_p 23 ?_;refine z_p 24 ?_;refine z_p 25 ?_;refine z_p 26 ?_;refine zt 27 39 HT_ HW_ hHeld ?_;refine zo 28 40 HT_ (fun K hK=>?_);refine zgo Try.func40 #[.int .i64 ((rd_T76 l0 aA).f2),.int .i64 1,.int .i64 10] ?_
        with_reducible refine(impl_InRange.calls ((rd_T76 l0 aA).f2) 1 10 true _ cC.out).mono ?_
        rintro e w' ⟨rfl,⟨nd,rfl⟩⟩;refine⟨_,rfl,?_⟩;refine hK.out _ _ ⟨zq aC 0,zq aC 1,zq aC 2,zq aC 3⟩ (fun hHeld=>?_);clear hK K;refine norm_ zV ?_;refine z_p 29 ?_;refine z_p 30 ?_;refine done_ (done_of HT_.out (by kernel_rfl)) ?_
        try go_wp2
        go_roundg k1
        case measure=>have:=HK1.out;omega
        case rel=>exact⟨(wrap64 (aA+1)),zr,H',⟨by have:=HK1.out;omega⟩,⟨zb⟩⟩
       ·replace bK:=Bool.eq_false_iff.mpr bK;subst bK;rw[if_neg zNo] at H;obtain rfl:=zI H;have bC:=zT (0≤(aA:Int));have bB:=zT (aA<(l0.length:Int));obtain⟨aG,aX,aM,aK,aJ,aI⟩:=at_T76 bA.out aA zd zd;cases aX;replace aM:=zC HB aM;replace aK:=zC HB aK;replace aJ:=zC HB aJ;replace aI:=zC HB aI
        try go_wp2_with (first|((with_reducible refine zgd 4 rfl ?_);refine zbx 4 #[.int .i64 0,.int .i64 0,.int .i64 0,.bool false] 76 ?_;intro aD hg bQ hbox hb;have aC:=zA hbox;have aZ:=zga (w:=w) hg;replace HB:=zbs hb;clear hb hbox hg;obtain⟨eB,eA,dZ,dY,cV,cU,cT,cS⟩:=ze4 aC))
        have aW:Aside0 (((((bQ.setCell ⟨aD,0,none⟩ (.int .i64 ((rd_T76 l0 aA).f0))).setCell ⟨aD,1,none⟩ (.int .i64 ((rd_T76 l0 aA).f1))).setCell ⟨aD,2,none⟩ (.int .i64 ((rd_T76 l0 aA).f2))).setCell ⟨aD,3,none⟩ (.bool ((rd_T76 l0 aA).f3))).heap[aD]?=some (.cells #[.int .i64 ((rd_T76 l0 aA).f0),.int .i64 ((rd_T76 l0 aA).f1),.int .i64 ((rd_T76 l0 aA).f2),.bool ((rd_T76 l0 aA).f3)] 76 (0,0))):=⟨zkp aC⟩;have aV:Aside0 (Below w.heap.size w ((((bQ.setCell ⟨aD,0,none⟩ (.int .i64 ((rd_T76 l0 aA).f0))).setCell ⟨aD,1,none⟩ (.int .i64 ((rd_T76 l0 aA).f1))).setCell ⟨aD,2,none⟩ (.int .i64 ((rd_T76 l0 aA).f2))).setCell ⟨aD,3,none⟩ (.bool ((rd_T76 l0 aA).f3)))):=⟨zb⟩;(try clear aC HB);generalize ((((bQ.setCell ⟨aD,0,none⟩ (.int .i64 ((rd_T76 l0 aA).f0))).setCell ⟨aD,1,none⟩ (.int .i64 ((rd_T76 l0 aA).f1))).setCell ⟨aD,2,none⟩ (.int .i64 ((rd_T76 l0 aA).f2))).setCell ⟨aD,3,none⟩ (.bool ((rd_T76 l0 aA).f3)))=eY at aW aV ⊢;have aC:=aW;have HB:=aV;clear aW aV;replace aC:=zA (blk_drew aC.out);replace HB:=zA (below_drew1 HB.out);refine start_ (n:=31) (S:=fun w'=>w'.cell? ⟨aD,0,none⟩=some (.int .i64 ((rd_T76 l0 aA).f0))∧w'.cell? ⟨aD,1,none⟩=some (.int .i64 ((rd_T76 l0 aA).f1))∧w'.cell? ⟨aD,2,none⟩=some (.int .i64 ((rd_T76 l0 aA).f2))∧w'.cell? ⟨aD,3,none⟩=some (.bool ((rd_T76 l0 aA).f3))) (ds:=[]) _ (by kernel_rfl) rfl rfl ⟨zq aC 0,zq aC 1,zq aC 2,zq aC 3⟩ (fun hHeld=>?_);refine with_tabW impl_AreCrew.tab4 impl_AreCrew.bits4 (fun HT_ HW_=>?_);generalize eY.drew=fO at aC HB hHeld ⊢;refine z_p 0 ?_;refine zt 1 13 HT_ HW_ hHeld ?_;refine zo 2 14 HT_ (fun K hK=>?_);refine zgo Try.func40 #[.int .i64 ((rd_T76 l0 aA).f0),.int .i64 1,.int .i64 99] ?_
        with_reducible refine(impl_InRange.calls ((rd_T76 l0 aA).f0) 1 99 true _ A5.out).mono ?_
        rintro e w' ⟨rfl,⟨nd,rfl⟩⟩;refine⟨_,rfl,?_⟩;refine hK.out _ _ ⟨zq aC 0,zq aC 1,zq aC 2,zq aC 3⟩ (fun hHeld=>?_);clear hK K;refine norm_ zV ?_;refine z_p 3 ?_;refine z_p 4 ?_;refine z_p 5 ?_;refine z_p 6 ?_;refine z_p 7 ?_;refine z_u 8 ?_;refine z_u 9 ?_;refine z_u 10 ?_;refine z_u 11 ?_;refine z_u 12 ?_;refine z_u 13 ?_;refine z_u 14 ?_;refine z_u 15 ?_;refine z_u 16 ?_;refine z_p 17 ?_;refine z_p 18 ?_;refine z_p 19 ?_;refine z_p 20 ?_;refine zt 21 33 HT_ HW_ hHeld ?_;refine zo 22 34 HT_ (fun K hK=>?_);refine zgo Try.func40 #[.int .i64 ((rd_T76 l0 aA).f1),.int .i64 0,.int .i64 100] ?_
        with_reducible refine(impl_InRange.calls ((rd_T76 l0 aA).f1) 0 100 true _ bW.out).mono ?_
        rintro e w' ⟨rfl,⟨nd,rfl⟩⟩;refine⟨_,rfl,?_⟩;refine hK.out _ _ ⟨zq aC 0,zq aC 1,zq aC 2,zq aC 3⟩ (fun hHeld=>?_);clear hK K;refine norm_ zV ?_;refine z_p 23 ?_;refine z_p 24 ?_;refine z_p 25 ?_;refine z_p 26 ?_;refine zt 27 39 HT_ HW_ hHeld ?_;refine zo 28 40 HT_ (fun K hK=>?_);refine zgo Try.func40 #[.int .i64 ((rd_T76 l0 aA).f2),.int .i64 1,.int .i64 10] ?_
        with_reducible refine(impl_InRange.calls ((rd_T76 l0 aA).f2) 1 10 false _ cC.out).mono ?_
        rintro e w' ⟨rfl,⟨nd,rfl⟩⟩;refine⟨_,rfl,?_⟩;refine hK.out _ _ ⟨zq aC 0,zq aC 1,zq aC 2,zq aC 3⟩ (fun hHeld=>?_);clear hK K;refine norm_ zV ?_;refine z_p 29 ?_;refine z_p 30 ?_;refine done_ (done_of HT_.out (by kernel_rfl)) ?_
        try go_wp2
        go_ret;exact⟨zE,zb⟩
      ·replace bL:=Bool.eq_false_iff.mpr bL;subst bL;rw[if_neg zNo] at H;obtain rfl:=zI H;have bC:=zT (0≤(aA:Int));have bB:=zT (aA<(l0.length:Int));obtain⟨aG,aX,aM,aK,aJ,aI⟩:=at_T76 bA.out aA zd zd;cases aX;replace aM:=zC HB aM;replace aK:=zC HB aK;replace aJ:=zC HB aJ;replace aI:=zC HB aI
       try go_wp2_with (first|((with_reducible refine zgd 4 rfl ?_);refine zbx 4 #[.int .i64 0,.int .i64 0,.int .i64 0,.bool false] 76 ?_;intro aD hg bP hbox hb;have aC:=zA hbox;have aZ:=zga (w:=w) hg;replace HB:=zbs hb;clear hb hbox hg;obtain⟨dX,dW,dV,dU,cR,cQ,cP,cO⟩:=ze4 aC))
       have aW:Aside0 (((((bP.setCell ⟨aD,0,none⟩ (.int .i64 ((rd_T76 l0 aA).f0))).setCell ⟨aD,1,none⟩ (.int .i64 ((rd_T76 l0 aA).f1))).setCell ⟨aD,2,none⟩ (.int .i64 ((rd_T76 l0 aA).f2))).setCell ⟨aD,3,none⟩ (.bool ((rd_T76 l0 aA).f3))).heap[aD]?=some (.cells #[.int .i64 ((rd_T76 l0 aA).f0),.int .i64 ((rd_T76 l0 aA).f1),.int .i64 ((rd_T76 l0 aA).f2),.bool ((rd_T76 l0 aA).f3)] 76 (0,0))):=⟨zkp aC⟩;have aV:Aside0 (Below w.heap.size w ((((bP.setCell ⟨aD,0,none⟩ (.int .i64 ((rd_T76 l0 aA).f0))).setCell ⟨aD,1,none⟩ (.int .i64 ((rd_T76 l0 aA).f1))).setCell ⟨aD,2,none⟩ (.int .i64 ((rd_T76 l0 aA).f2))).setCell ⟨aD,3,none⟩ (.bool ((rd_T76 l0 aA).f3)))):=⟨zb⟩;(try clear aC HB);generalize ((((bP.setCell ⟨aD,0,none⟩ (.int .i64 ((rd_T76 l0 aA).f0))).setCell ⟨aD,1,none⟩ (.int .i64 ((rd_T76 l0 aA).f1))).setCell ⟨aD,2,none⟩ (.int .i64 ((rd_T76 l0 aA).f2))).setCell ⟨aD,3,none⟩ (.bool ((rd_T76 l0 aA).f3)))=eX at aW aV ⊢;have aC:=aW;have HB:=aV;clear aW aV;replace aC:=zA (blk_drew aC.out);replace HB:=zA (below_drew1 HB.out);refine start_ (n:=31) (S:=fun w'=>w'.cell? ⟨aD,0,none⟩=some (.int .i64 ((rd_T76 l0 aA).f0))∧w'.cell? ⟨aD,1,none⟩=some (.int .i64 ((rd_T76 l0 aA).f1))∧w'.cell? ⟨aD,2,none⟩=some (.int .i64 ((rd_T76 l0 aA).f2))∧w'.cell? ⟨aD,3,none⟩=some (.bool ((rd_T76 l0 aA).f3))) (ds:=[]) _ (by kernel_rfl) rfl rfl ⟨zq aC 0,zq aC 1,zq aC 2,zq aC 3⟩ (fun hHeld=>?_);refine with_tabW impl_AreCrew.tab4 impl_AreCrew.bits4 (fun HT_ HW_=>?_);generalize eX.drew=fN at aC HB hHeld ⊢;refine z_p 0 ?_;refine zt 1 13 HT_ HW_ hHeld ?_;refine zo 2 14 HT_ (fun K hK=>?_);refine zgo Try.func40 #[.int .i64 ((rd_T76 l0 aA).f0),.int .i64 1,.int .i64 99] ?_
       with_reducible refine(impl_InRange.calls ((rd_T76 l0 aA).f0) 1 99 true _ A5.out).mono ?_
       rintro e w' ⟨rfl,⟨nd,rfl⟩⟩;refine⟨_,rfl,?_⟩;refine hK.out _ _ ⟨zq aC 0,zq aC 1,zq aC 2,zq aC 3⟩ (fun hHeld=>?_);clear hK K;refine norm_ zV ?_;refine z_p 3 ?_;refine z_p 4 ?_;refine z_p 5 ?_;refine z_p 6 ?_;refine z_p 7 ?_;refine z_u 8 ?_;refine z_u 9 ?_;refine z_u 10 ?_;refine z_u 11 ?_;refine z_u 12 ?_;refine z_u 13 ?_;refine z_u 14 ?_;refine z_u 15 ?_;refine z_u 16 ?_;refine z_p 17 ?_;refine z_p 18 ?_;refine z_p 19 ?_;refine z_p 20 ?_;refine zt 21 33 HT_ HW_ hHeld ?_;refine zo 22 34 HT_ (fun K hK=>?_);refine zgo Try.func40 #[.int .i64 ((rd_T76 l0 aA).f1),.int .i64 0,.int .i64 100] ?_
       with_reducible refine(impl_InRange.calls ((rd_T76 l0 aA).f1) 0 100 false _ bW.out).mono ?_
       rintro e w' ⟨rfl,⟨nd,rfl⟩⟩;refine⟨_,rfl,?_⟩;refine hK.out _ _ ⟨zq aC 0,zq aC 1,zq aC 2,zq aC 3⟩ (fun hHeld=>?_);clear hK K;refine norm_ zV ?_;refine z_p 23 ?_;refine z_p 24 ?_;refine z_p 25 ?_;refine z_u 26 ?_;refine z_u 27 ?_;refine z_u 28 ?_;refine z_u 29 ?_;refine z_p 30 ?_;refine done_ (done_of HT_.out (by kernel_rfl)) ?_
       try go_wp2
       go_ret;exact⟨zE,zb⟩
    ·replace c6:=Bool.eq_false_iff.mpr c6;subst c6;rw[if_neg zNo] at H;obtain rfl:=zI H;have bC:=zT (0≤(aA:Int));have bB:=zT (aA<(l0.length:Int));obtain⟨aG,aX,aM,aK,aJ,aI⟩:=at_T76 bA.out aA zd zd;cases aX;replace aM:=zC HB aM;replace aK:=zC HB aK;replace aJ:=zC HB aJ;replace aI:=zC HB aI
     try go_wp2_with (first|((with_reducible refine zgd 4 rfl ?_);refine zbx 4 #[.int .i64 0,.int .i64 0,.int .i64 0,.bool false] 76 ?_;intro aD hg bO hbox hb;have aC:=zA hbox;have aZ:=zga (w:=w) hg;replace HB:=zbs hb;clear hb hbox hg;obtain⟨dT,dS,dR,dQ,cN,cM,cL,cK⟩:=ze4 aC))
     have aW:Aside0 (((((bO.setCell ⟨aD,0,none⟩ (.int .i64 ((rd_T76 l0 aA).f0))).setCell ⟨aD,1,none⟩ (.int .i64 ((rd_T76 l0 aA).f1))).setCell ⟨aD,2,none⟩ (.int .i64 ((rd_T76 l0 aA).f2))).setCell ⟨aD,3,none⟩ (.bool ((rd_T76 l0 aA).f3))).heap[aD]?=some (.cells #[.int .i64 ((rd_T76 l0 aA).f0),.int .i64 ((rd_T76 l0 aA).f1),.int .i64 ((rd_T76 l0 aA).f2),.bool ((rd_T76 l0 aA).f3)] 76 (0,0))):=⟨zkp aC⟩;have aV:Aside0 (Below w.heap.size w ((((bO.setCell ⟨aD,0,none⟩ (.int .i64 ((rd_T76 l0 aA).f0))).setCell ⟨aD,1,none⟩ (.int .i64 ((rd_T76 l0 aA).f1))).setCell ⟨aD,2,none⟩ (.int .i64 ((rd_T76 l0 aA).f2))).setCell ⟨aD,3,none⟩ (.bool ((rd_T76 l0 aA).f3)))):=⟨zb⟩;(try clear aC HB);generalize ((((bO.setCell ⟨aD,0,none⟩ (.int .i64 ((rd_T76 l0 aA).f0))).setCell ⟨aD,1,none⟩ (.int .i64 ((rd_T76 l0 aA).f1))).setCell ⟨aD,2,none⟩ (.int .i64 ((rd_T76 l0 aA).f2))).setCell ⟨aD,3,none⟩ (.bool ((rd_T76 l0 aA).f3)))=eW at aW aV ⊢;have aC:=aW;have HB:=aV;clear aW aV;replace aC:=zA (blk_drew aC.out);replace HB:=zA (below_drew1 HB.out);refine start_ (n:=31) (S:=fun w'=>w'.cell? ⟨aD,0,none⟩=some (.int .i64 ((rd_T76 l0 aA).f0))∧w'.cell? ⟨aD,1,none⟩=some (.int .i64 ((rd_T76 l0 aA).f1))∧w'.cell? ⟨aD,2,none⟩=some (.int .i64 ((rd_T76 l0 aA).f2))∧w'.cell? ⟨aD,3,none⟩=some (.bool ((rd_T76 l0 aA).f3))) (ds:=[]) _ (by kernel_rfl) rfl rfl ⟨zq aC 0,zq aC 1,zq aC 2,zq aC 3⟩ (fun hHeld=>?_);refine with_tabW impl_AreCrew.tab4 impl_AreCrew.bits4 (fun HT_ HW_=>?_);generalize eW.drew=fM at aC HB hHeld ⊢;refine z_p 0 ?_;refine zt 1 13 HT_ HW_ hHeld ?_;refine zo 2 14 HT_ (fun K hK=>?_);refine zgo Try.func40 #[.int .i64 ((rd_T76 l0 aA).f0),.int .i64 1,.int .i64 99] ?_
     with_reducible refine(impl_InRange.calls ((rd_T76 l0 aA).f0) 1 99 false _ A5.out).mono ?_
     rintro e w' ⟨rfl,⟨nd,rfl⟩⟩;refine⟨_,rfl,?_⟩;refine hK.out _ _ ⟨zq aC 0,zq aC 1,zq aC 2,zq aC 3⟩ (fun hHeld=>?_);clear hK K;refine norm_ zV ?_;refine z_p 3 ?_;refine z_p 4 ?_;refine z_u 5 ?_;refine z_u 6 ?_;refine z_u 7 ?_;refine z_u 8 ?_;refine z_u 9 ?_;refine z_u 10 ?_;refine z_u 11 ?_;refine z_u 12 ?_;refine z_u 13 ?_;refine z_u 14 ?_;refine z_u 15 ?_;refine z_u 16 ?_;refine z_u 17 ?_;refine z_p 18 ?_;refine z_p 19 ?_;refine z_u 20 ?_;refine z_u 21 ?_;refine z_u 22 ?_;refine z_u 23 ?_;refine z_p 24 ?_;refine z_p 25 ?_;refine z_u 26 ?_;refine z_u 27 ?_;refine z_u 28 ?_;refine z_u 29 ?_;refine z_p 30 ?_;refine done_ (done_of HT_.out (by kernel_rfl)) ?_
     try go_wp2
     go_ret;exact⟨zE,zb⟩
   ·rw[if_neg c2] at H;have cJ:=decide_eq_false c2;clear c2;obtain⟨cH,fF,H⟩:=zB H;obtain rfl:=zI H
    go_wp2_with (first|((with_reducible refine zgf 40 rfl ?_);refine zgl 46 Try.func40 #[.int .i64 (l0.length:Int),.int .i64 1,.int .i64 8] ?_;(with_reducible refine(impl_InRange.calls (l0.length:Int) 1 8 cH _ fF.out).mono ?_);rintro e w' ⟨rfl,⟨nd,rfl⟩⟩;refine⟨_,rfl,?_⟩))
    go_ret;exact⟨zE,zb⟩

def impl_IsParty.f (k:Nat) (a0_0:Int) (a0_1:Int) (l0_2:List Int) (a1_0:Int) (a1_1:Int) (l1_2:List (S76)) (l1_3:List Bool):Option (Bool):=(impl_IsOpen.f k a0_0 a0_1 l0_2 a1_0).bind fun t596=>(if t596=true then((impl_AreCrew.f k l1_2).bind fun t597=>(if t597=true then((impl_InRange.f a1_1 0 10000).bind fun t598=>(if t598=true then(some (decide ((l1_3.length:Int)≤10))) else(some false))) else(some false))) else(some false))
theorem impl_IsParty.calls (k:Nat) (aJ:Int) (aI:Int) (aN:Option Addr) (aM:Nat) (aD:List Int) (aH:Int) (aT:Int) (aX:Option Addr) (aV:Nat) (aK:List (S76)) (aW:Option Addr) (aU:Nat) (aQ:List Bool) (r:Bool) (w:World) (bI:Kd.C (Kd.int .i64) w aN aD.length aD) (bL:aD.length≤aM) (bH:Kd.C k76 w aX aK.length aK) (bK:aK.length≤aV) (bG:Kd.C Kd.bool w aW aQ.length aQ) (bJ:aQ.length≤aU) (h:impl_IsParty.f k aJ aI aD aH aT aK aQ=some r) :
  Calls Try.prog 38 #[.agg #[.int .i64 aJ,.int .i64 aI,.slice aN aD.length aM],.agg #[.int .i64 aH,.int .i64 aT,.slice aX aK.length aV,.slice aW aQ.length aU]] w fun e w'=>e=.returned (.bool r)∧Below w.heap.size w w':=by
 have hu26:=Try.underlying26;have hu33:=Try.underlying33;have aY:=zA bI;have aZ:=zA bL;clear bI bL;have bC:=zA bH;have bD:=zA bK;clear bH bK;have fV:=zA bG;have fW:=zA bJ;clear bG bJ;have HB:=zA (Below.refl w.heap.size w);have H:=h;clear h;unfold impl_IsParty.f at H;obtain⟨bS,A3,H⟩:=zB H
 by_cases c4:bS=true
 ·subst c4;rw[if_pos rfl] at H;obtain⟨bR,A5,H⟩:=zB H
  by_cases c6:bR=true
  ·subst c6;rw[if_pos rfl] at H;obtain⟨bQ,A7,H⟩:=zB H
   by_cases c8:bQ=true
   ·subst c8;rw[if_pos rfl] at H;obtain rfl:=zI H;go_enter Try.func38,Try.ntmps38
    go_wp2_with (first|((with_reducible refine zgd 2 rfl ?_);(try (refine gate_guard (by rfl) ?_;dsimp only));refine zbx 2 #[.int .i64 aJ,.int .i64 aI,.slice aN aD.length aM] 26 ?_;intro bB hg w9 hbox hb;have aA:=zA hbox;have bF:=zga (w:=w) hg;replace HB:=zbs hb;clear hb hbox hg)|((with_reducible refine zgd 3 rfl ?_);(try (refine gate_guard (by rfl) ?_;dsimp only));refine zbx 3 #[.int .i64 aH,.int .i64 aT,.slice aX aK.length aV,.slice aW aQ.length aU] 33 ?_;intro bA hg gK hbox hb;have aC:=zA hbox;have bE:=zga (w:=w) hg;replace HB:=zbs hb;replace aA:=zlh aA hg hb;obtain⟨aG,aE,aA⟩:=aA;clear hb hbox hg;have fU:=aG.out;have fQ:=aE.out;obtain⟨fL,fK,fJ,dP,dO,dN⟩:=ze3 aA;obtain⟨fI,fH,fG,fF,dM,dL,dK,dJ⟩:=ze4 aC)|((with_reducible refine zgf 34 rfl ?_);refine zgl 8 Try.func34 #[.agg #[.int .i64 aJ,.int .i64 aI,.slice aN aD.length aM],.int .i64 aH] ?_;(with_reducible refine(impl_IsOpen.calls k aJ aI _ _ aD aH true _ ?s1 ?s2 A3.out).mono ?_);(case s1=>exact zCb aY);(case s2=>exact aZ.out);rintro e gJ ⟨rfl,hb⟩;refine⟨_,rfl,?_⟩;replace aA:=zkb aA hb;replace aC:=zkb aC hb;replace HB:=zbs hb;(try clear hb);obtain⟨fE,fD,fC,fB,dI,dH,dG,dF⟩:=ze4 aC)|(go_at_call 33;(with_reducible refine(impl_AreCrew.calls k _ _ aK true _ ?s1 ?s2 A5.out).mono ?_);(case s1=>exact zCb bC);(case s2=>exact bD.out);rintro e gI ⟨rfl,hb⟩;replace aA:=zkb aA hb;replace aC:=zkb aC hb;replace HB:=zbs hb;(try clear hb);obtain⟨fA,eZ,eY,eX,dE,dD,dC,dB⟩:=ze4 aC)|(go_at_call 40;(with_reducible refine(impl_InRange.calls aT 0 10000 true _ A7.out).mono ?_);rintro e w' ⟨rfl,⟨nd,rfl⟩⟩))
    go_ret;exact⟨zE,zb⟩
   ·replace c8:=Bool.eq_false_iff.mpr c8;subst c8;rw[if_neg zNo] at H;obtain rfl:=zI H;go_enter Try.func38,Try.ntmps38
    go_wp2_with (first|((with_reducible refine zgd 2 rfl ?_);(try (refine gate_guard (by rfl) ?_;dsimp only));refine zbx 2 #[.int .i64 aJ,.int .i64 aI,.slice aN aD.length aM] 26 ?_;intro bB hg gH hbox hb;have aA:=zA hbox;have bF:=zga (w:=w) hg;replace HB:=zbs hb;clear hb hbox hg)|((with_reducible refine zgd 3 rfl ?_);(try (refine gate_guard (by rfl) ?_;dsimp only));refine zbx 3 #[.int .i64 aH,.int .i64 aT,.slice aX aK.length aV,.slice aW aQ.length aU] 33 ?_;intro bA hg gG hbox hb;have aC:=zA hbox;have bE:=zga (w:=w) hg;replace HB:=zbs hb;replace aA:=zlh aA hg hb;obtain⟨aG,aE,aA⟩:=aA;clear hb hbox hg;have fT:=aG.out;have fP:=aE.out;obtain⟨eW,eV,eU,dA,cZ,cY⟩:=ze3 aA;obtain⟨eT,eS,eR,eQ,cX,cW,cV,cU⟩:=ze4 aC)|((with_reducible refine zgf 34 rfl ?_);refine zgl 8 Try.func34 #[.agg #[.int .i64 aJ,.int .i64 aI,.slice aN aD.length aM],.int .i64 aH] ?_;(with_reducible refine(impl_IsOpen.calls k aJ aI _ _ aD aH true _ ?s1 ?s2 A3.out).mono ?_);(case s1=>exact zCb aY);(case s2=>exact aZ.out);rintro e gF ⟨rfl,hb⟩;refine⟨_,rfl,?_⟩;replace aA:=zkb aA hb;replace aC:=zkb aC hb;replace HB:=zbs hb;(try clear hb);obtain⟨eP,eO,eN,eM,cT,cS,cR,cQ⟩:=ze4 aC)|(go_at_call 33;(with_reducible refine(impl_AreCrew.calls k _ _ aK true _ ?s1 ?s2 A5.out).mono ?_);(case s1=>exact zCb bC);(case s2=>exact bD.out);rintro e gE ⟨rfl,hb⟩;replace aA:=zkb aA hb;replace aC:=zkb aC hb;replace HB:=zbs hb;(try clear hb);obtain⟨eL,eK,eJ,eI,cP,cO,cN,cM⟩:=ze4 aC)|(go_at_call 40;(with_reducible refine(impl_InRange.calls aT 0 10000 false _ A7.out).mono ?_);rintro e w' ⟨rfl,⟨nd,rfl⟩⟩))
    go_ret;exact⟨zE,zb⟩
  ·replace c6:=Bool.eq_false_iff.mpr c6;subst c6;rw[if_neg zNo] at H;obtain rfl:=zI H;go_enter Try.func38,Try.ntmps38
   go_wp2_with (first|((with_reducible refine zgd 2 rfl ?_);(try (refine gate_guard (by rfl) ?_;dsimp only));refine zbx 2 #[.int .i64 aJ,.int .i64 aI,.slice aN aD.length aM] 26 ?_;intro bB hg gD hbox hb;have aA:=zA hbox;have bF:=zga (w:=w) hg;replace HB:=zbs hb;clear hb hbox hg)|((with_reducible refine zgd 3 rfl ?_);(try (refine gate_guard (by rfl) ?_;dsimp only));refine zbx 3 #[.int .i64 aH,.int .i64 aT,.slice aX aK.length aV,.slice aW aQ.length aU] 33 ?_;intro bA hg gC hbox hb;have aC:=zA hbox;have bE:=zga (w:=w) hg;replace HB:=zbs hb;replace aA:=zlh aA hg hb;obtain⟨aG,aE,aA⟩:=aA;clear hb hbox hg;have fS:=aG.out;have fO:=aE.out;obtain⟨eH,eG,eF,cL,cK,cJ⟩:=ze3 aA;obtain⟨eE,eD,eC,eB,cI,cH,cG,cF⟩:=ze4 aC)|((with_reducible refine zgf 34 rfl ?_);refine zgl 8 Try.func34 #[.agg #[.int .i64 aJ,.int .i64 aI,.slice aN aD.length aM],.int .i64 aH] ?_;(with_reducible refine(impl_IsOpen.calls k aJ aI _ _ aD aH true _ ?s1 ?s2 A3.out).mono ?_);(case s1=>exact zCb aY);(case s2=>exact aZ.out);rintro e gB ⟨rfl,hb⟩;refine⟨_,rfl,?_⟩;replace aA:=zkb aA hb;replace aC:=zkb aC hb;replace HB:=zbs hb;(try clear hb);obtain⟨eA,dZ,dY,dX,cE,cD,cC,cB⟩:=ze4 aC)|(go_at_call 33;(with_reducible refine(impl_AreCrew.calls k _ _ aK false _ ?s1 ?s2 A5.out).mono ?_);(case s1=>exact zCb bC);(case s2=>exact bD.out);rintro e gA ⟨rfl,hb⟩;replace aA:=zkb aA hb;replace aC:=zkb aC hb;replace HB:=zbs hb;(try clear hb)))
   go_ret;exact⟨zE,zb⟩
 ·replace c4:=Bool.eq_false_iff.mpr c4;subst c4;rw[if_neg zNo] at H;obtain rfl:=zI H;go_enter Try.func38,Try.ntmps38
  go_wp2_with (first|((with_reducible refine zgd 2 rfl ?_);(try (refine gate_guard (by rfl) ?_;dsimp only));refine zbx 2 #[.int .i64 aJ,.int .i64 aI,.slice aN aD.length aM] 26 ?_;intro bB hg fZ hbox hb;have aA:=zA hbox;have bF:=zga (w:=w) hg;replace HB:=zbs hb;clear hb hbox hg)|((with_reducible refine zgd 3 rfl ?_);(try (refine gate_guard (by rfl) ?_;dsimp only));refine zbx 3 #[.int .i64 aH,.int .i64 aT,.slice aX aK.length aV,.slice aW aQ.length aU] 33 ?_;intro bA hg fY hbox hb;have aC:=zA hbox;have bE:=zga (w:=w) hg;replace HB:=zbs hb;replace aA:=zlh aA hg hb;obtain⟨aG,aE,aA⟩:=aA;clear hb hbox hg;have fR:=aG.out;have fN:=aE.out;obtain⟨dW,dV,dU,cA,bZ,bY⟩:=ze3 aA;obtain⟨dT,dS,dR,dQ,bX,bW,bV,bU⟩:=ze4 aC)|((with_reducible refine zgf 34 rfl ?_);refine zgl 8 Try.func34 #[.agg #[.int .i64 aJ,.int .i64 aI,.slice aN aD.length aM],.int .i64 aH] ?_;(with_reducible refine(impl_IsOpen.calls k aJ aI _ _ aD aH false _ ?s1 ?s2 A3.out).mono ?_);(case s1=>exact zCb aY);(case s2=>exact aZ.out);rintro e fX ⟨rfl,hb⟩;refine⟨_,rfl,?_⟩;replace aA:=zkb aA hb;replace aC:=zkb aC hb;replace HB:=zbs hb;(try clear hb)))
  go_ret;exact⟨zE,zb⟩

def impl_home.f (k:Nat) (a0_0:Int) (a0_1:Int) (l0_2:List Int) (a1:Int) (a2_0:Int) (a2_1:Int) (l3:List (S73)) (a4_0:Int) (a4_1:Int) (l4_2:List (S76)) (l4_3:List Bool):Option (List Int):=(impl_IsRule.f a2_0 a2_1).bind fun t602=>(if t602=true then((impl_AreDepots.f k a0_0 a0_1 l0_2 l3).bind fun t603=>(if t603=true then((impl_IsParty.f k a0_0 a0_1 l0_2 a4_0 a4_1 l4_2 l4_3).bind fun t604=>(if t604=true then((impl_WayTo.f k a0_0 a0_1 l0_2 a4_0 a1).bind fun t605=>(some t605)) else(some ([]:List Int)))) else(some ([]:List Int)))) else(some ([]:List Int)))
theorem impl_home.calls (k:Nat) (aU:Int) (aT:Int) (bC:Option Addr) (bB:Nat) (aJ:List Int) (a1:Int) (aQ:Int) (aN:Int) (A3:Option Addr) (c3:Nat) (l3:List (S73)) (aX:Int) (aY:Int) (bG:Option Addr) (bE:Nat) (aW:List (S76)) (bF:Option Addr) (bD:Nat) (aV:List Bool) (r:List Int) (w:World) (bQ:Kd.C (Kd.int .i64) w bC aJ.length aJ) (bT:aJ.length≤bB) (cG:Kd.C k73 w A3 l3.length l3) (cH:l3.length≤c3) (bP:Kd.C k76 w bG aW.length aW) (bS:aW.length≤bE) (bO:Kd.C Kd.bool w bF aV.length aV) (bR:aV.length≤bD) (h:impl_home.f k aU aT aJ a1 aQ aN l3 aX aY aW aV=some r) :
  Calls Try.prog 21 #[.agg #[.int .i64 aU,.int .i64 aT,.slice bC aJ.length bB],.int .i64 a1,.agg #[.int .i64 aQ,.int .i64 aN],.slice A3 l3.length c3,.agg #[.int .i64 aX,.int .i64 aY,.slice bG aW.length bE,.slice bF aV.length bD]] w fun e w'=>∃ v0_:Value,e=.returned (v0_)∧Kd.R (Kd.int .i64) 3 w' w.heap.size (fun _=>True) v0_ r∧Below w.heap.size w w':=by
 have hu26:=Try.underlying26;have hu28:=Try.underlying28;have hu33:=Try.underlying33;have aZ:=zA bQ;have bA:=zA bT;clear bQ bT;have bZ:=zA cG;have cA:=zA cH;clear cG cH;have bW:=zA bP;have bY:=zA bS;clear bP bS;have bV:=zA bO;have bX:=zA bR;clear bO bR;have HB:=zA (Below.refl w.heap.size w);have H:=h;clear h;unfold impl_home.f at H;obtain⟨cM,A6,H⟩:=zB H
 by_cases c7:cM=true
 ·subst c7;rw[if_pos rfl] at H;obtain⟨cL,A8,H⟩:=zB H
  by_cases c9:cL=true
  ·subst c9;rw[if_pos rfl] at H;obtain⟨cK,cI,H⟩:=zB H
   by_cases bU:cK=true
   ·subst bU;rw[if_pos rfl] at H;obtain⟨cJ,fO,H⟩:=zB H;obtain rfl:=zI H;go_enter Try.func21,Try.ntmps21
    go_wp2_with (first|((with_reducible refine zgd 5 rfl ?_);refine zbx 5 #[.int .i64 aU,.int .i64 aT,.slice bC aJ.length bB] 26 ?_;intro bJ hg hH hbox hb;have aA:=zA hbox;have bM:=zga (w:=w) hg;replace HB:=zbs hb;clear hb hbox hg)|((with_reducible refine zgd 7 rfl ?_);refine zbx 7 #[.int .i64 aQ,.int .i64 aN] 28 ?_;intro bI hg hG hbox hb;have aC:=zA hbox;have bL:=zga (w:=w) hg;replace HB:=zbs hb;replace aA:=zlh aA hg hb;obtain⟨aI,aH,aA⟩:=aA;clear hb hbox hg)|((with_reducible refine zgd 9 rfl ?_);refine zbx 9 #[.int .i64 aX,.int .i64 aY,.slice bG aW.length bE,.slice bF aV.length bD] 33 ?_;intro bH hg hF hbox hb;have aD:=zA hbox;have bK:=zga (w:=w) hg;replace HB:=zbs hb;replace aA:=zlh aA hg hb;obtain⟨aM,aK,aA⟩:=aA;replace aC:=zlh aC hg hb;obtain⟨aG,aE,aC⟩:=aC;clear hb hbox hg;have gK:=aH.out;have fZ:=aI.out;have gJ:=aG.out;have fY:=aE.out;obtain⟨fL,fK,dZ,dY⟩:=ze2 aC)|((with_reducible refine zgf 30 rfl ?_);refine zgl 12 Try.func30 #[.agg #[.int .i64 aQ,.int .i64 aN]] ?_;(with_reducible refine(impl_IsRule.calls aQ aN true _ A6.out).mono ?_);rintro e hE ⟨rfl,hb⟩;refine⟨_,rfl,?_⟩;replace aA:=zkb aA hb;replace aC:=zkb aC hb;replace aD:=zkb aD hb;replace HB:=zbs hb;(try clear hb);have gI:=aM.out;have fX:=aK.out;obtain⟨fJ,fI,fH,dX,dW,dV⟩:=ze3 aA)|(go_at_call 17;(with_reducible refine(impl_AreDepots.calls k aU aT _ _ aJ _ _ l3 true _ ?s1 ?s2 ?s3 ?s4 A8.out).mono ?_);(case s1=>exact zCb aZ);(case s2=>exact bA.out);(case s3=>exact zCb bZ);(case s4=>exact cA.out);rintro e hD ⟨rfl,hb⟩;replace aA:=zkb aA hb;replace aC:=zkb aC hb;replace aD:=zkb aD hb;replace HB:=zbs hb;(try clear hb);obtain⟨fG,fF,fE,dU,dT,dS⟩:=ze3 aA;obtain⟨fD,fC,fB,fA,dR,dQ,dP,dO⟩:=ze4 aD)|(go_at_call 38;(with_reducible refine(impl_IsParty.calls k aU aT _ _ aJ aX aY _ _ aW _ _ aV true _ ?s1 ?s2 ?s3 ?s4 ?s5 ?s6 cI.out).mono ?_);(case s1=>exact zCb aZ);(case s2=>exact bA.out);(case s3=>exact zCb bW);(case s4=>exact bY.out);(case s5=>exact zCb bV);(case s6=>exact bX.out);rintro e hC ⟨rfl,hb⟩;replace aA:=zkb aA hb;replace aC:=zkb aC hb;replace aD:=zkb aD hb;replace HB:=zbs hb;(try clear hb);obtain⟨eZ,eY,eX,dN,dM,dL⟩:=ze3 aA;obtain⟨eW,eV,eU,eT,dK,dJ,dI,dH⟩:=ze4 aD)|((with_reducible refine zgf 28 rfl ?_);refine zgl 30 Try.func28 #[.agg #[.int .i64 aU,.int .i64 aT,.slice bC aJ.length bB],.int .i64 aX,.int .i64 a1] ?_;(with_reducible refine(impl_WayTo.calls k aU aT _ _ aJ aX a1 cJ _ ?s1 ?s2 fO.out).mono ?_);(case s1=>exact zCb aZ);(case s2=>exact bA.out);rintro e hA ⟨v606,rfl,ho0,hb⟩;refine⟨_,rfl,?_⟩;have cE:=zA (Kd.R_lower ho0 (below_size zb));replace aA:=zkb aA hb;replace aC:=zkb aC hb;replace aD:=zkb aD hb;replace HB:=zbs hb;(try clear hb);(try clear ho0)))
    go_ret;exact⟨_,zE,zR cE,zb⟩
   ·replace bU:=Bool.eq_false_iff.mpr bU;subst bU;rw[if_neg zNo] at H;obtain rfl:=zI H;go_enter Try.func21,Try.ntmps21
    go_wp2_with (first|((with_reducible refine zgd 5 rfl ?_);refine zbx 5 #[.int .i64 aU,.int .i64 aT,.slice bC aJ.length bB] 26 ?_;intro bJ hg gZ hbox hb;have aA:=zA hbox;have bM:=zga (w:=w) hg;replace HB:=zbs hb;clear hb hbox hg)|((with_reducible refine zgd 7 rfl ?_);refine zbx 7 #[.int .i64 aQ,.int .i64 aN] 28 ?_;intro bI hg gY hbox hb;have aC:=zA hbox;have bL:=zga (w:=w) hg;replace HB:=zbs hb;replace aA:=zlh aA hg hb;obtain⟨aI,aH,aA⟩:=aA;clear hb hbox hg)|((with_reducible refine zgd 9 rfl ?_);refine zbx 9 #[.int .i64 aX,.int .i64 aY,.slice bG aW.length bE,.slice bF aV.length bD] 33 ?_;intro bH hg gX hbox hb;have aD:=zA hbox;have bK:=zga (w:=w) hg;replace HB:=zbs hb;replace aA:=zlh aA hg hb;obtain⟨aM,aK,aA⟩:=aA;replace aC:=zlh aC hg hb;obtain⟨aG,aE,aC⟩:=aC;clear hb hbox hg;have gH:=aH.out;have fW:=aI.out;have gG:=aG.out;have fV:=aE.out;obtain⟨eS,eR,dG,dF⟩:=ze2 aC)|((with_reducible refine zgf 30 rfl ?_);refine zgl 12 Try.func30 #[.agg #[.int .i64 aQ,.int .i64 aN]] ?_;(with_reducible refine(impl_IsRule.calls aQ aN true _ A6.out).mono ?_);rintro e gW ⟨rfl,hb⟩;refine⟨_,rfl,?_⟩;replace aA:=zkb aA hb;replace aC:=zkb aC hb;replace aD:=zkb aD hb;replace HB:=zbs hb;(try clear hb);have gF:=aM.out;have fU:=aK.out;obtain⟨eQ,eP,eO,dE,dD,dC⟩:=ze3 aA)|(go_at_call 17;(with_reducible refine(impl_AreDepots.calls k aU aT _ _ aJ _ _ l3 true _ ?s1 ?s2 ?s3 ?s4 A8.out).mono ?_);(case s1=>exact zCb aZ);(case s2=>exact bA.out);(case s3=>exact zCb bZ);(case s4=>exact cA.out);rintro e gV ⟨rfl,hb⟩;replace aA:=zkb aA hb;replace aC:=zkb aC hb;replace aD:=zkb aD hb;replace HB:=zbs hb;(try clear hb);obtain⟨eN,eM,eL,dB,dA,cZ⟩:=ze3 aA;obtain⟨eK,eJ,eI,eH,cY,cX,cW,cV⟩:=ze4 aD)|(go_at_call 38;(with_reducible refine(impl_IsParty.calls k aU aT _ _ aJ aX aY _ _ aW _ _ aV false _ ?s1 ?s2 ?s3 ?s4 ?s5 ?s6 cI.out).mono ?_);(case s1=>exact zCb aZ);(case s2=>exact bA.out);(case s3=>exact zCb bW);(case s4=>exact bY.out);(case s5=>exact zCb bV);(case s6=>exact bX.out);rintro e gU ⟨rfl,hb⟩;replace aA:=zkb aA hb;replace aC:=zkb aC hb;replace aD:=zkb aD hb;replace HB:=zbs hb;(try clear hb)))
    go_ret;exact⟨_,zE,by first|exact Kd.R_nil _ _ _ _ _|exact Kd.N_nil _ _ _ _ _|exact Kd.V_nil _ _ _ _ _|exact Kd.Q_nil _ _ _ _ _|exact Kd.S_nil _ _ _ _ _,zb⟩
  ·replace c9:=Bool.eq_false_iff.mpr c9;subst c9;rw[if_neg zNo] at H;obtain rfl:=zI H;go_enter Try.func21,Try.ntmps21
   go_wp2_with (first|((with_reducible refine zgd 5 rfl ?_);refine zbx 5 #[.int .i64 aU,.int .i64 aT,.slice bC aJ.length bB] 26 ?_;intro bJ hg gT hbox hb;have aA:=zA hbox;have bM:=zga (w:=w) hg;replace HB:=zbs hb;clear hb hbox hg)|((with_reducible refine zgd 7 rfl ?_);refine zbx 7 #[.int .i64 aQ,.int .i64 aN] 28 ?_;intro bI hg gS hbox hb;have aC:=zA hbox;have bL:=zga (w:=w) hg;replace HB:=zbs hb;replace aA:=zlh aA hg hb;obtain⟨aI,aH,aA⟩:=aA;clear hb hbox hg)|((with_reducible refine zgd 9 rfl ?_);refine zbx 9 #[.int .i64 aX,.int .i64 aY,.slice bG aW.length bE,.slice bF aV.length bD] 33 ?_;intro bH hg gR hbox hb;have aD:=zA hbox;have bK:=zga (w:=w) hg;replace HB:=zbs hb;replace aA:=zlh aA hg hb;obtain⟨aM,aK,aA⟩:=aA;replace aC:=zlh aC hg hb;obtain⟨aG,aE,aC⟩:=aC;clear hb hbox hg;have gE:=aH.out;have fT:=aI.out;have gD:=aG.out;have fS:=aE.out;obtain⟨eG,eF,cU,cT⟩:=ze2 aC)|((with_reducible refine zgf 30 rfl ?_);refine zgl 12 Try.func30 #[.agg #[.int .i64 aQ,.int .i64 aN]] ?_;(with_reducible refine(impl_IsRule.calls aQ aN true _ A6.out).mono ?_);rintro e gQ ⟨rfl,hb⟩;refine⟨_,rfl,?_⟩;replace aA:=zkb aA hb;replace aC:=zkb aC hb;replace aD:=zkb aD hb;replace HB:=zbs hb;(try clear hb);have gC:=aM.out;have fR:=aK.out;obtain⟨eE,eD,eC,cS,cR,cQ⟩:=ze3 aA)|(go_at_call 17;(with_reducible refine(impl_AreDepots.calls k aU aT _ _ aJ _ _ l3 false _ ?s1 ?s2 ?s3 ?s4 A8.out).mono ?_);(case s1=>exact zCb aZ);(case s2=>exact bA.out);(case s3=>exact zCb bZ);(case s4=>exact cA.out);rintro e gP ⟨rfl,hb⟩;replace aA:=zkb aA hb;replace aC:=zkb aC hb;replace aD:=zkb aD hb;replace HB:=zbs hb;(try clear hb)))
   go_ret;exact⟨_,zE,by first|exact Kd.R_nil _ _ _ _ _|exact Kd.N_nil _ _ _ _ _|exact Kd.V_nil _ _ _ _ _|exact Kd.Q_nil _ _ _ _ _|exact Kd.S_nil _ _ _ _ _,zb⟩
 ·replace c7:=Bool.eq_false_iff.mpr c7;subst c7;rw[if_neg zNo] at H;obtain rfl:=zI H;go_enter Try.func21,Try.ntmps21
  go_wp2_with (first|((with_reducible refine zgd 5 rfl ?_);refine zbx 5 #[.int .i64 aU,.int .i64 aT,.slice bC aJ.length bB] 26 ?_;intro bJ hg gO hbox hb;have aA:=zA hbox;have bM:=zga (w:=w) hg;replace HB:=zbs hb;clear hb hbox hg)|((with_reducible refine zgd 7 rfl ?_);refine zbx 7 #[.int .i64 aQ,.int .i64 aN] 28 ?_;intro bI hg gN hbox hb;have aC:=zA hbox;have bL:=zga (w:=w) hg;replace HB:=zbs hb;replace aA:=zlh aA hg hb;obtain⟨aI,aH,aA⟩:=aA;clear hb hbox hg)|((with_reducible refine zgd 9 rfl ?_);refine zbx 9 #[.int .i64 aX,.int .i64 aY,.slice bG aW.length bE,.slice bF aV.length bD] 33 ?_;intro bH hg gM hbox hb;have aD:=zA hbox;have bK:=zga (w:=w) hg;replace HB:=zbs hb;replace aA:=zlh aA hg hb;obtain⟨aM,aK,aA⟩:=aA;replace aC:=zlh aC hg hb;obtain⟨aG,aE,aC⟩:=aC;clear hb hbox hg;have gB:=aH.out;have fQ:=aI.out;have gA:=aG.out;have fP:=aE.out;obtain⟨eB,eA,cP,cO⟩:=ze2 aC)|((with_reducible refine zgf 30 rfl ?_);refine zgl 12 Try.func30 #[.agg #[.int .i64 aQ,.int .i64 aN]] ?_;(with_reducible refine(impl_IsRule.calls aQ aN false _ A6.out).mono ?_);rintro e gL ⟨rfl,hb⟩;refine⟨_,rfl,?_⟩;replace aA:=zkb aA hb;replace aC:=zkb aC hb;replace aD:=zkb aD hb;replace HB:=zbs hb;(try clear hb)))
  go_ret;exact⟨_,zE,by first|exact Kd.R_nil _ _ _ _ _|exact Kd.N_nil _ _ _ _ _|exact Kd.V_nil _ _ _ _ _|exact Kd.Q_nil _ _ _ _ _|exact Kd.S_nil _ _ _ _ _,zb⟩

def impl_CountStorms.l0:Nat→Int→List Bool→Int→Int→Option (Int)
  |0,_,_,_,_=>none
  |k+1,x3,x6,x7,x8=>if x8<x7 then(if 0≤x8 then(if x8<(x6.length:Int) then(if rdOf false x6 x8=true then(impl_CountStorms.l0 k (wrap64 (x3+1)) x6 x7 (wrap64 (x8+1))) else(impl_CountStorms.l0 k x3 x6 x7 (wrap64 (x8+1)))) else(none)) else(none)) else(some x3)
def impl_CountStorms.f (k:Nat) (l0:List Bool):Option (Int):=impl_CountStorms.l0 k 0 l0 (l0.length:Int) 0
theorem impl_CountStorms.calls (k:Nat) (A0:Option Addr) (c0:Nat) (l0:List Bool) (r:Int) (w:World) (aM:Kd.C Kd.bool w A0 l0.length l0) (aN:l0.length≤c0) (h:impl_CountStorms.f k l0=some r) :
  Calls Try.prog 31 #[.slice A0 l0.length c0] w fun e w'=>e=.returned (.int .i64 r)∧Drawn0 w w':=by
 have aQ:=zA aM;have aY:=zA aN;clear aM aN;have H:=h;clear h;unfold impl_CountStorms.f at H;have H':=zA H;clear H;go_enter Try.func31,Try.ntmps31;go_wp2
 go_loopg [3,8] k (fun kq v3 v8 w'=>∃ (aC:Int) (aA:Int),v3=.int .i64 aC∧v8=.int .i64 aA∧Aside0 (impl_CountStorms.l0 kq aC l0 (l0.length:Int) aA=some r)∧Aside0 (kq≤k)∧Drawn0 w w')
 case atStart=>exact⟨(0),(0),zr,zr,H',⟨Nat.le_refl _⟩,by repeat (first|exact Drawn0.refl _|apply Drawn0.step)⟩
 case round =>
  clear H';obtain⟨aC,aA,rfl,rfl,HA,HK1,⟨m1,rfl⟩⟩:=hrel
  cases gk with
  |zero=>exact absurd HA.out (by simp[impl_CountStorms.l0])
  |succ k1 =>
   have H:=HA.out;clear HA;simp only[impl_CountStorms.l0] at H
   by_cases c2:aA<(l0.length:Int)
   ·rw[if_pos c2] at H;have aT:=decide_eq_true c2;clear c2;obtain⟨aX,H⟩:=zifD H;obtain⟨aW,H⟩:=zifD H;obtain⟨bq5,hbq5⟩:∃ b_:Bool,b_=(rdOf false l0 aA):=⟨_,rfl⟩
    replace H:(if bq5=true then(impl_CountStorms.l0 k1 (wrap64 (aC+1)) l0 (l0.length:Int) (wrap64 (aA+1))) else(impl_CountStorms.l0 k1 aC l0 (l0.length:Int) (wrap64 (aA+1))))=some r:=by rw[←hbq5] at H;exact H
    have Nbq5:=zA hbq5;clear hbq5
    by_cases c6:bq5=true
    ·subst c6;rw[if_pos rfl] at H;have H':=zA H;clear H;have aE:0≤(aA:Int):=zd;have aD:aA<(l0.length:Int):=zd;obtain⟨aK,aI,aH⟩:=Kd.at_bool aQ.out aA aE aD;(try rw[←Nbq5.out] at aH);cases aI;replace aE:=eq_true aE;replace aD:=eq_true aD;go_wp2
     go_roundg k1
     case measure=>have:=HK1.out;omega
     case rel=>exact⟨(wrap64 (aC+1)),(wrap64 (aA+1)),zr,zr,H',⟨by have:=HK1.out;omega⟩,by repeat (first|exact Drawn0.refl _|apply Drawn0.step)⟩
    ·replace c6:=Bool.eq_false_iff.mpr c6;subst c6;rw[if_neg zNo] at H;have H':=zA H;clear H;have aE:0≤(aA:Int):=zd;have aD:aA<(l0.length:Int):=zd;obtain⟨aK,aI,aH⟩:=Kd.at_bool aQ.out aA aE aD;(try rw[←Nbq5.out] at aH);cases aI;replace aE:=eq_true aE;replace aD:=eq_true aD;go_wp2
     go_roundg k1
     case measure=>have:=HK1.out;omega
     case rel=>exact⟨(aC),(wrap64 (aA+1)),zr,zr,H',⟨by have:=HK1.out;omega⟩,by repeat (first|exact Drawn0.refl _|apply Drawn0.step)⟩
   ·rw[if_neg c2] at H;have aT:=decide_eq_false c2;clear c2;obtain rfl:=zI H;go_wp2;go_ret;exact⟨by first|rfl|(simp;done)|(simp[*];done),by repeat (first|exact Drawn0.refl _|apply Drawn0.step)⟩

def impl_last.f (l0:List Bool) (a1:Int):Option (List Bool):=if 0≤(mx (wrap64 ((l0.length:Int)-a1)) 0) then(if (mx (wrap64 ((l0.length:Int)-a1)) 0)≤(l0.length:Int) then(some (l0.drop ((mx (wrap64 ((l0.length:Int)-a1)) 0):Int).toNat)) else(none)) else(none)
theorem impl_last.calls (P0_:Nat→Prop) (u9000_:Value) (l0:List Bool) (a1:Int) (r:List Bool) (w0 w:World) (hB:Below w0.heap.size w0 w) (ho0:Kd.R Kd.bool 4 w w0.heap.size P0_ u9000_ l0) (h:impl_last.f l0 a1=some r) :
  Calls Try.prog 32 #[u9000_,.int .i64 a1] w fun e w'=>∃ v0_:Value,e=.returned (v0_)∧Kd.Q Kd.bool 4 w' w0.heap.size (fun k_=>(P0_ k_∨w.heap.size≤k_)) v0_ r∧Below w0.heap.size w0 w'∧Kept w w' (fun k_=>P0_ k_):=by
 have aM:=zA (show Kd.R Kd.bool 4 w w0.heap.size (fun k_=>(P0_ k_∨w.heap.size≤k_)) u9000_ l0 from Kd.R_mono ho0 (fun k_ hk=>(.inl hk)));have HK:=zA (Kept.refl w (fun k_=>P0_ k_));have HW0:=zA hB.size;have HB:=zA hB;clear hB;have H:=h;clear h;unfold impl_last.f at H;obtain⟨aA,aE⟩:∃ j_:Int,(mx (wrap64 ((l0.length:Int)-a1)) 0)=j_:=⟨_,rfl⟩
 replace H:(if 0≤(aA) then(if (aA)≤(l0.length:Int) then(some (l0.drop ((aA):Int).toNat)) else(none)) else(none))=some r:=by first|(rw[aE] at H;exact H)|(simp only[aE] at H ⊢;exact H)
 (try (have hji3l:0≤aA:=by(rw[←aE];unfold mx;(repeat' split) <;> omega)));(try (have hji3m:0≤aA:=by omega));have aY:(if (wrap64 ((l0.length:Int)-a1))<0 then 0 else(wrap64 ((l0.length:Int)-a1)))=aA:=aE;obtain⟨c4,H⟩:=zif H;have bC:=eq_true c4;have bB:=decide_eq_true c4;clear c4;obtain⟨c5,H⟩:=zif H;have bA:=eq_true c5;have aZ:=decide_eq_true c5;clear c5;obtain⟨aD,aG⟩:∃ y_:List Bool,y_=(l0.drop ((aA):Int).toNat):=⟨_,rfl⟩
 replace H:(some aD)=some r:=zY aG H
 have Ny609:=zA aG;clear aG;obtain rfl:=zI H;obtain⟨aH,aI,aV⟩:=Kd.R_slice aM.out;subst aV;have q7:((aA):Int)≤((l0.length:Int):Int):=zd;obtain⟨i07,hi07,_,hsz7,_⟩:=info_parts info4;have hcut7:=cut_from (P:=Try.prog) 31 4 .i64 Try.underlying31 hi07 1 hsz7 aH l0.length aI (aA) zd q7;have hr7:=Kd.Q_drop (k:=((aA):Int).toNat) (Kd.Q_of_R aM.out) (by omega);obtain⟨A7,hA7⟩:∃ A1,A1=(if aI=((aA):Int).toNat then aH else(aH:Option Addr).map (·.add (((aA):Int).toNat * 1))):=⟨_,rfl⟩;obtain⟨c7,hc7⟩:∃ c1,c1=aI-((aA):Int).toNat:=⟨_,rfl⟩;have aJ:aD.length=l0.length-((aA):Int).toNat:=(by rw[Ny609.out,List.length_drop]);rw[←Ny609.out] at hr7;rw[←aJ,←hA7,←hc7] at hcut7;replace hr7:Kd.Q Kd.bool 4 w w0.heap.size (fun k_=>(P0_ k_∨w.heap.size≤k_)) (.slice A7 aD.length c7) aD:=(by rw[hA7,hc7,aJ];exact hr7);have HE7:Aside0 ((Value.slice A7 aD.length c7).ownBlock=(.slice aH l0.length aI:Value).ownBlock):=⟨by rw[hA7];split <;> (cases (aH:Option Addr) <;> first|rfl|(simp[Value.ownBlock,Addr.add];done)|(simp only[Option.map,Value.ownBlock,Addr.add];split <;> rfl))⟩;clear aJ hi07 hsz7 aM hA7 hc7;have aN:=zA hr7;clear hr7;replace q7:=eq_true q7;go_enter Try.func32,Try.ntmps32;go_wp2;go_ret;exact⟨_,by first|rfl|(simp[errW_none,errW_some] <;> rfl)|(simp only[←aE];first|rfl|(simp[errW_none,errW_some] <;> rfl))|(simp[*,errW_none,errW_some] <;> rfl),zQ aN,zb,by repeat (first|(with_reducible first|exact HK.out|apply Kept.alloc|apply Kept.drewN|apply Kept.drew)|exact HK.out)⟩

theorem impl_last.callsC (A0:Option Addr) (c0:Nat) (l0:List Bool) (a1:Int) (r:List Bool) (w:World) (aJ:Kd.C Kd.bool w A0 l0.length l0) (aI:l0.length≤c0) (h:impl_last.f l0 a1=some r) :
  Calls Try.prog 32 #[.slice A0 l0.length c0,.int .i64 a1] w fun e w'=>∃ A' c',e=.returned (.slice A' r.length c')∧r.length≤c'∧(∀ w2:World,Kd.C Kd.bool w2 A0 l0.length l0→Kd.C Kd.bool w2 A' r.length r)∧w'=w:=by
 unfold impl_last.f at h
 obtain⟨aC,aD⟩:∃ j_:Int,(mx (wrap64 ((l0.length:Int)-a1)) 0)=j_:=⟨_,rfl⟩
 rw[aD] at h
 have hji3_:(if (wrap64 ((l0.length:Int)-a1))<0 then 0 else(wrap64 ((l0.length:Int)-a1)))=aC:=aD
 obtain⟨c4,h⟩:=zif h
 obtain⟨c5,h⟩:=zif h
 obtain rfl:=Option.some.inj h
 obtain⟨i07,hi07,_,hsz7,_⟩:=info_parts info4
 obtain⟨A7,hcut7,hrd7,hc7⟩:=print_drop_of (P:=Try.prog) Value.bool false 31 4 .i64 Try.underlying31 hi07 hsz7 A0 c0 l0 aC c4 c5 aI
 go_enter Try.func32,Try.ntmps32
 go_wp2
 go_ret
 exact⟨A7,c0-aC.toNat,by first|rfl|(simp;done),by have h_:=hc7;first|exact h_|(rw[List.length_drop] at h_;first|exact h_|omega),fun w2 h2=>by have h_:=Kd.C_of_reads (h1:=fun _=>rfl) (hrd7 w2 (Kd.reads_of_C h2));first|exact h_|(rw[List.length_drop] at h_;exact h_),rfl⟩
def impl_MayStorm.f (k:Nat) (a0_0:Int) (a0_1:Int) (l1:List Bool):Option (Bool):=(impl_IsRule.f a0_0 a0_1).bind fun t519=>(if t519=true then((impl_last.f l1 (wrap64 (a0_1-1))).bind fun t520=>((impl_CountStorms.f k t520).bind fun t521=>(some (decide (t521<a0_0))))) else(some false))
def impl_MayStorm.T1:Bool × List (List Nat × List Nat):=(true,[([],[]),([0],[0]),([1,1],[1]),([2],[2]),([2],[2]),([4,2],[2,4]),([5,2],[2,5]),([3,6,2,2],[2,3,6]),([7,7,2],[2,7]),([2],[2]),([9,2],[2,9]),([8,10,2],[2,8,10]),([2,11],[2,11]),([12,8,0,1,2,3,4,5,6,7,8,9,10,11,12],[12])])
def impl_MayStorm.B1:List Nat:=[0,1,3,7,7,23,55,127,255,7,519,2047,4095,8191]
theorem impl_MayStorm.tab1:rtab .any (opsOf Try.f9 1)=impl_MayStorm.T1:=by kernel_rfl
theorem impl_MayStorm.bits1:waitsOk impl_MayStorm.T1.2 impl_MayStorm.B1=true:=by kernel_rfl
theorem impl_MayStorm.calls (k:Nat) (aD:Int) (aC:Int) (A1:Option Addr) (c1:Nat) (l1:List Bool) (r:Bool) (w:World) (aZ:Kd.C Kd.bool w A1 l1.length l1) (bA:l1.length≤c1) (h:impl_MayStorm.f k aD aC l1=some r) :
  Calls Try.prog 9 #[.agg #[.int .i64 aD,.int .i64 aC],.slice A1 l1.length c1] w fun e w'=>e=.returned (.bool r)∧Below w.heap.size w w':=by
 have hu38:=Try.underlying28
 have HR1:=zA aZ
 have HC1:=zA bA
 clear aZ bA
 have HB:=zA (Below.refl w.heap.size w)
 have H:((impl_IsRule.f aD aC).bind fun t519=>(if t519=true then((impl_last.f l1 (wrap64 (aC-1))).bind fun t520=>((impl_CountStorms.f k t520).bind fun t521=>(some (decide (t521<aD))))) else(some false)))=some r:=h
 clear h
 replace H:=Option.bind_eq_some_iff.mp H
 obtain⟨t519,A30,H⟩:=H
 replace H:(if t519=true then((impl_last.f l1 (wrap64 (aC-1))).bind fun t520=>((impl_CountStorms.f k t520).bind fun t521=>(some (decide (t521<aD))))) else(some false))=some r:=H
 have A3:=zA A30
 clear A30
 by_cases c4:t519=true
 ·subst c4
  have H1:((impl_last.f l1 (wrap64 (aC-1))).bind fun t520=>((impl_CountStorms.f k t520).bind fun t521=>(some (decide (t521<aD)))))=some r:=by rw[if_pos rfl] at H;exact H
  clear H
  have H:=H1
  clear H1
  obtain⟨aN,hji5⟩:∃ j_:Int,(wrap64 (aC-1))=j_:=⟨_,rfl⟩
  replace H:((impl_last.f l1 (aN)).bind fun t520=>((impl_CountStorms.f k t520).bind fun t521=>(some (decide (t521<aD)))))=some r:=by first|(rw[hji5] at H;exact H)|(simp only[hji5] at H ⊢;exact H)
  (try rw[hji5] at A3)
  have aQ:(IntKind.i64.wrap (aC-1))=aN:=(i64_w _).trans hji5
  obtain⟨t520,A7,H⟩:=zB H
  replace H:=Option.bind_eq_some_iff.mp H
  obtain⟨t521,A80,H⟩:=H
  replace H:(some (decide (t521<aD)))=some r:=H
  have A8:=zA A80
  clear A80
  obtain rfl:=zI H
  go_enter Try.func9,Try.ntmps9
  try go_wp2_with (first|((with_reducible refine zgd 2 rfl ?_);refine box_event ?hg (N:=2) ?hd (cs:=#[.int .i64 aD,.int .i64 aC]) (t:=28) ?hr ?_;(case hd=>rfl);(case hg=>rfl);(case hr=>first|(go_simp;done)|(go_simp;rfl));intro aE hg w9 hbox hb;have aH:=zA (below_step (zb) hb);have aG:=zA hbox;have aM:=zA ((by rw[hg];exact(below_size (zb)):w.heap.size≤aE));have aK:=zA ((by rw[hg];exact(below_size (zb)):w.heap.size≤aE));clear HB;have HB:=aH;have aA:=aG;have aX:=aM;have aI:=aK;clear aH aG aM aK;clear hb hbox hg))
  have aH:=zA (blk_drew aA.out)
  have aG:=zA (below_drew1 HB.out)
  clear aA
  clear HB
  have aA:=aH
  have HB:=aG
  clear aH aG
  refine start_ (n:=14) (S:=fun w'=>w'.cell? ⟨aE,0,none⟩=some (.int .i64 aD)∧w'.cell? ⟨aE,1,none⟩=some (.int .i64 aC)) (ds:=[]) #[false,false,false,false,false,false,false,false,false,false,false,false,false,false] (by kernel_rfl) rfl rfl ⟨(blk_cell aA.out 0).trans rfl,(blk_cell aA.out 1).trans rfl⟩ (fun hHeld=>?_);refine with_tabW impl_MayStorm.tab1 impl_MayStorm.bits1 (fun HT_ HW_=>?_)
  generalize w9.drew=bI at aA HB hHeld ⊢
  refine take_ (i:=0) (N:=some 5) (v:=?_) (a':=?_) #[true,false,false,false,false,false,false,false,false,false,false,false,false,false] rfl rfl (take_ofW HT_.out HW_.out (by kernel_rfl)) (fun _ _ _ h=>h) (Or.inl ⟨by rfl,?_⟩) hHeld ?_ ?_
  rotate_left
  ·rintro w' ⟨s0,s1⟩
   go_simp
   with_reducible rfl
  rotate_left
  ·simp only[Act.put,z_L,i64_w,i32_w]
   rfl
  refine one_ (i:=1) (N:=some 6) #[true,true,false,false,false,false,false,false,false,false,false,false,false,false] rfl rfl (one_of HT_.out (by kernel_rfl)) (by decide) (fun K hK=>?_)
  refine goes_ Try.func30 (by kernel_rfl) rfl #[.agg #[.int .i64 aD,.int .i64 aC]] (by rfl) rfl rfl (by(try simp only[List.map_toArray,List.map_cons,List.map_nil]);first|done|rfl|(simp only[List.length_drop,List.length_take];rfl)) ?_
  with_reducible refine(impl_IsRule.calls aD aC true _ A3.out).mono ?_
  rintro e bH ⟨rfl,hb⟩
  refine⟨_,rfl,?_⟩
  have aH:=zA (blk_below (g:=aE) (o:=.cells #[.int .i64 aD,.int .i64 aC] 28 (0,0)) (by(with_reducible repeat (first|refine blk_drewN ?_ _|refine blk_drew ?_|refine blk_alloc ?_ _));exact aA.out) hb)
  have aG:=zA (below_step (zb) hb)
  clear aA
  clear HB
  have aA:=aH
  have HB:=aG
  clear aH aG
  (try clear hb)
  (try clear hb2)
  (try clear hk)
  (try clear hi)
  refine hK.out _ _ ⟨(blk_cell aA.out 0).trans rfl,(blk_cell aA.out 1).trans rfl⟩ (fun hHeld=>?_)
  clear hK K
  refine norm_ (a':=?_) ?_ ?_
  rotate_left
  ·show Act.put _ (some 6) _=_
   simp only[Act.put,z_L,i64_w,i32_w]
   rfl
  refine pure_ (i:=2) (N:=some 7) (v:=?_) (a':=?_) #[true,true,true,false,false,false,false,false,false,false,false,false,false,false] rfl rfl (any_of HT_.out (by kernel_rfl)) (fun _ _ _ h=>h) (Or.inl ⟨by rfl,?_⟩) ?_ ?_
  rotate_left
  ·intro w'
   go_simp
   with_reducible rfl
  rotate_left
  ·simp only[Act.put,z_L,i64_w,i32_w]
   rfl
  refine pure_ (i:=3) (N:=some 8) (v:=?_) (a':=?_) #[true,true,true,true,false,false,false,false,false,false,false,false,false,false] rfl rfl (any_of HT_.out (by kernel_rfl)) (fun _ _ _ h=>h) (Or.inl ⟨by rfl,?_⟩) ?_ ?_
  rotate_left
  ·intro w'
   go_simp
   with_reducible rfl
  rotate_left
  ·simp only[Act.put,z_L,i64_w,i32_w]
   rfl
  refine pure_ (i:=4) (N:=some 9) (v:=?_) (a':=?_) #[true,true,true,true,true,false,false,false,false,false,false,false,false,false] rfl rfl (any_of HT_.out (by kernel_rfl)) (fun _ _ _ h=>h) (Or.inl ⟨by rfl,?_⟩) ?_ ?_
  rotate_left
  ·intro w'
   go_simp
   with_reducible rfl
  rotate_left
  ·simp only[Act.put,z_L,i64_w,i32_w]
   rfl
  refine pure_ (i:=9) (N:=some 14) (v:=?_) (a':=?_) #[true,true,true,true,true,false,false,false,false,true,false,false,false,false] rfl rfl (any_of HT_.out (by kernel_rfl)) (fun _ _ _ h=>h) (Or.inl ⟨by rfl,?_⟩) ?_ ?_
  rotate_left
  ·intro w'
   go_simp
   with_reducible rfl
  rotate_left
  ·simp only[Act.put,z_L,i64_w,i32_w]
   rfl
  refine take_ (i:=5) (N:=some 10) (v:=?_) (a':=?_) #[true,true,true,true,true,true,false,false,false,true,false,false,false,false] rfl rfl (take_ofW HT_.out HW_.out (by kernel_rfl)) (fun _ _ _ h=>h) (Or.inl ⟨by rfl,?_⟩) hHeld ?_ ?_
  rotate_left
  ·rintro w' ⟨s0,s1⟩
   go_simp
   with_reducible rfl
  rotate_left
  ·simp only[Act.put,z_L,i64_w,i32_w]
   rfl
  refine pure_ (i:=6) (N:=some 11) (v:=?_) (a':=?_) #[true,true,true,true,true,true,true,false,false,true,false,false,false,false] rfl rfl (any_of HT_.out (by kernel_rfl)) (fun _ _ _ h=>h) (Or.inl ⟨by rfl,?_⟩) ?_ ?_
  rotate_left
  ·intro w'
   go_simp
   with_reducible rfl
  rotate_left
  ·simp only[Act.put,z_L,i64_w,i32_w]
   rfl
  refine take_ (i:=10) (N:=some 15) (v:=?_) (a':=?_) #[true,true,true,true,true,true,true,false,false,true,true,false,false,false] rfl rfl (take_ofW HT_.out HW_.out (by kernel_rfl)) (fun _ _ _ h=>h) (Or.inl ⟨by rfl,?_⟩) hHeld ?_ ?_
  rotate_left
  ·rintro w' ⟨s0,s1⟩
   go_simp
   with_reducible rfl
  rotate_left
  ·simp only[Act.put,z_L,i64_w,i32_w]
   rfl
  refine one_ (i:=7) (N:=some 12) #[true,true,true,true,true,true,true,true,false,true,true,false,false,false] rfl rfl (one_of HT_.out (by kernel_rfl)) (by decide) (fun K hK=>?_)
  refine goes_ Try.func32 (by kernel_rfl) rfl #[.slice A1 l1.length c1,.int .i64 aN] (by rfl) rfl rfl (by(try simp only[List.map_toArray,List.map_cons,List.map_nil]);first|done|rfl|(simp only[hji5];rfl)|(simp only[aQ];rfl)) ?_
  with_reducible refine(impl_last.callsC A1 c1 l1 aN t520 _ (Kd.C_below HR1.out HB.out) HC1.out A7.out).mono ?_
  rintro e w' ⟨bD,bC,rfl,hc12,hrd12,rfl⟩
  refine⟨_,rfl,?_⟩
  have aV:=zA (hrd12 _ HR1.out);have aW:=zA hc12;clear hrd12 hc12
  refine hK.out _ _ ⟨(blk_cell aA.out 0).trans rfl,(blk_cell aA.out 1).trans rfl⟩ (fun hHeld=>?_)
  clear hK K
  refine norm_ (a':=?_) ?_ ?_
  rotate_left
  ·show Act.put _ (some 12) _=_
   simp only[Act.put,z_L,i64_w,i32_w]
   rfl
  refine one_ (i:=8) (N:=some 13) #[true,true,true,true,true,true,true,true,true,true,true,false,false,false] rfl rfl (one_of HT_.out (by kernel_rfl)) (by decide) (fun K hK=>?_)
  refine goes_ Try.func31 (by kernel_rfl) rfl #[.slice bD t520.length bC] (by rfl) rfl rfl (by(try simp only[List.map_toArray,List.map_cons,List.map_nil]);first|done|(rw[show t520.length=(l1.length-(aN).toNat) from List.length_drop] <;> rfl)|(simp only[hji5];rfl)|rfl|(simp only[List.length_drop,List.length_take];rfl)) ?_
  with_reducible refine(impl_CountStorms.calls k _ _ t520 t521 _ ?s1 ?s2 A8.out).mono ?_
  (case s1=>repeat (first|exact(Kd.C_below aV.out HB.out)|(with_reducible refine Kd.C_alloc ?_ _)|(with_reducible refine Kd.C_drewN ?_ _)|(with_reducible refine Kd.C_drew ?_)))
  (case s2=>exact aW.out)
  rintro e w' ⟨rfl,⟨nd,rfl⟩⟩
  refine⟨_,rfl,?_⟩
  refine hK.out _ _ ⟨(blk_cell aA.out 0).trans rfl,(blk_cell aA.out 1).trans rfl⟩ (fun hHeld=>?_)
  clear hK K
  refine norm_ (a':=?_) ?_ ?_
  rotate_left
  ·show Act.put _ (some 13) _=_
   simp only[Act.put,z_L,i64_w,i32_w]
   rfl
  refine pure_ (i:=11) (N:=some 16) (v:=?_) (a':=?_) #[true,true,true,true,true,true,true,true,true,true,true,true,false,false] rfl rfl (any_of HT_.out (by kernel_rfl)) (fun _ _ _ h=>h) (Or.inl ⟨by rfl,?_⟩) ?_ ?_
  rotate_left
  ·intro w'
   go_simp
   with_reducible rfl
  rotate_left
  ·simp only[Act.put,z_L,i64_w,i32_w]
   rfl
  refine pure_ (i:=12) (N:=some 17) (v:=?_) (a':=?_) #[true,true,true,true,true,true,true,true,true,true,true,true,true,false] rfl rfl (any_of HT_.out (by kernel_rfl)) (fun _ _ _ h=>h) (Or.inl ⟨by rfl,?_⟩) ?_ ?_
  rotate_left
  ·intro w'
   go_simp
   with_reducible rfl
  rotate_left
  ·simp only[Act.put,z_L,i64_w,i32_w]
   rfl
  refine pure_ (i:=13) (N:=some 4) (v:=?_) (a':=?_) #[true,true,true,true,true,true,true,true,true,true,true,true,true,true] rfl rfl (any_of HT_.out (by kernel_rfl)) (fun _ _ _ h=>h) (Or.inl ⟨by rfl,?_⟩) ?_ ?_
  rotate_left
  ·intro w'
   go_simp
   with_reducible rfl
  rotate_left
  ·simp only[Act.put,z_L,i64_w,i32_w]
   rfl
  refine done_ (done_of HT_.out (by kernel_rfl)) ?_
  try go_wp2
  go_ret
  exact⟨by first|rfl|(simp[errW_none,errW_some] <;> rfl)|(simp only[←hji5];first|rfl|(simp[errW_none,errW_some] <;> rfl))|(simp[*,errW_none,errW_some] <;> rfl),zb⟩
 ·replace c4:=Bool.eq_false_iff.mpr c4
  subst c4
  have H1:(some false)=some r:=by rw[if_neg zNo] at H;exact H
  clear H
  have H:=H1
  clear H1
  obtain rfl:=zI H
  go_enter Try.func9,Try.ntmps9
  try go_wp2_with (first|((with_reducible refine zgd 2 rfl ?_);refine box_event ?hg (N:=2) ?hd (cs:=#[.int .i64 aD,.int .i64 aC]) (t:=28) ?hr ?_;(case hd=>rfl);(case hg=>rfl);(case hr=>first|(go_simp;done)|(go_simp;rfl));intro aE hg bB hbox hb;have aH:=zA (below_step (zb) hb);have aG:=zA hbox;have aM:=zA ((by rw[hg];exact(below_size (zb)):w.heap.size≤aE));have aK:=zA ((by rw[hg];exact(below_size (zb)):w.heap.size≤aE));clear HB;have HB:=aH;have aA:=aG;have aX:=aM;have aI:=aK;clear aH aG aM aK;clear hb hbox hg))
  have aH:=zA (blk_drew aA.out)
  have aG:=zA (below_drew1 HB.out)
  clear aA
  clear HB
  have aA:=aH
  have HB:=aG
  clear aH aG
  refine start_ (n:=14) (S:=fun w'=>w'.cell? ⟨aE,0,none⟩=some (.int .i64 aD)∧w'.cell? ⟨aE,1,none⟩=some (.int .i64 aC)) (ds:=[]) #[false,false,false,false,false,false,false,false,false,false,false,false,false,false] (by kernel_rfl) rfl rfl ⟨(blk_cell aA.out 0).trans rfl,(blk_cell aA.out 1).trans rfl⟩ (fun hHeld=>?_);refine with_tabW impl_MayStorm.tab1 impl_MayStorm.bits1 (fun HT_ HW_=>?_)
  generalize bB.drew=bG at aA HB hHeld ⊢
  refine take_ (i:=0) (N:=some 5) (v:=?_) (a':=?_) #[true,false,false,false,false,false,false,false,false,false,false,false,false,false] rfl rfl (take_ofW HT_.out HW_.out (by kernel_rfl)) (fun _ _ _ h=>h) (Or.inl ⟨by rfl,?_⟩) hHeld ?_ ?_
  rotate_left
  ·rintro w' ⟨s0,s1⟩
   go_simp
   with_reducible rfl
  rotate_left
  ·simp only[Act.put,z_L,i64_w,i32_w]
   rfl
  refine one_ (i:=1) (N:=some 6) #[true,true,false,false,false,false,false,false,false,false,false,false,false,false] rfl rfl (one_of HT_.out (by kernel_rfl)) (by decide) (fun K hK=>?_)
  refine goes_ Try.func30 (by kernel_rfl) rfl #[.agg #[.int .i64 aD,.int .i64 aC]] (by rfl) rfl rfl (by(try simp only[List.map_toArray,List.map_cons,List.map_nil]);first|done|rfl|(simp only[List.length_drop,List.length_take];rfl)) ?_
  with_reducible refine(impl_IsRule.calls aD aC false _ A3.out).mono ?_
  rintro e bF ⟨rfl,hb⟩
  refine⟨_,rfl,?_⟩
  have aH:=zA (blk_below (g:=aE) (o:=.cells #[.int .i64 aD,.int .i64 aC] 28 (0,0)) (by(with_reducible repeat (first|refine blk_drewN ?_ _|refine blk_drew ?_|refine blk_alloc ?_ _));exact aA.out) hb)
  have aG:=zA (below_step (zb) hb)
  clear aA
  clear HB
  have aA:=aH
  have HB:=aG
  clear aH aG
  (try clear hb)
  (try clear hb2)
  (try clear hk)
  (try clear hi)
  refine hK.out _ _ ⟨(blk_cell aA.out 0).trans rfl,(blk_cell aA.out 1).trans rfl⟩ (fun hHeld=>?_)
  clear hK K
  refine norm_ (a':=?_) ?_ ?_
  rotate_left
  ·show Act.put _ (some 6) _=_
   simp only[Act.put,z_L,i64_w,i32_w]
   rfl
  refine pure_ (i:=2) (N:=some 7) (v:=?_) (a':=?_) #[true,true,true,false,false,false,false,false,false,false,false,false,false,false] rfl rfl (any_of HT_.out (by kernel_rfl)) (fun _ _ _ h=>h) (Or.inl ⟨by rfl,?_⟩) ?_ ?_
  rotate_left
  ·intro w'
   go_simp
   with_reducible rfl
  rotate_left
  ·simp only[Act.put,z_L,i64_w,i32_w]
   rfl
  refine pure_ (i:=3) (N:=some 8) (v:=undef) (a':=?_) #[true,true,true,true,false,false,false,false,false,false,false,false,false,false] rfl rfl (any_of HT_.out (by kernel_rfl)) (fun _ _ _ h=>h) (Or.inr ⟨by rfl,rfl⟩) ?_ ?_
  rotate_left
  ·simp only[Act.put,z_L,i64_w,i32_w]
   rfl
  refine pure_ (i:=4) (N:=some 9) (v:=undef) (a':=?_) #[true,true,true,true,true,false,false,false,false,false,false,false,false,false] rfl rfl (any_of HT_.out (by kernel_rfl)) (fun _ _ _ h=>h) (Or.inr ⟨by rfl,rfl⟩) ?_ ?_
  rotate_left
  ·simp only[Act.put,z_L,i64_w,i32_w]
   rfl
  refine pure_ (i:=5) (N:=some 10) (v:=undef) (a':=?_) #[true,true,true,true,true,true,false,false,false,false,false,false,false,false] rfl rfl (any_of HT_.out (by kernel_rfl)) (fun _ _ _ h=>h) (Or.inr ⟨by rfl,rfl⟩) ?_ ?_
  rotate_left
  ·simp only[Act.put,z_L,i64_w,i32_w]
   rfl
  refine pure_ (i:=6) (N:=some 11) (v:=undef) (a':=?_) #[true,true,true,true,true,true,true,false,false,false,false,false,false,false] rfl rfl (any_of HT_.out (by kernel_rfl)) (fun _ _ _ h=>h) (Or.inr ⟨by rfl,rfl⟩) ?_ ?_
  rotate_left
  ·simp only[Act.put,z_L,i64_w,i32_w]
   rfl
  refine pure_ (i:=7) (N:=some 12) (v:=undef) (a':=?_) #[true,true,true,true,true,true,true,true,false,false,false,false,false,false] rfl rfl (any_of HT_.out (by kernel_rfl)) (fun _ _ _ h=>h) (Or.inr ⟨by rfl,rfl⟩) ?_ ?_
  rotate_left
  ·simp only[Act.put,z_L,i64_w,i32_w]
   rfl
  refine pure_ (i:=8) (N:=some 13) (v:=undef) (a':=?_) #[true,true,true,true,true,true,true,true,true,false,false,false,false,false] rfl rfl (any_of HT_.out (by kernel_rfl)) (fun _ _ _ h=>h) (Or.inr ⟨by rfl,rfl⟩) ?_ ?_
  rotate_left
  ·simp only[Act.put,z_L,i64_w,i32_w]
   rfl
  refine pure_ (i:=9) (N:=some 14) (v:=undef) (a':=?_) #[true,true,true,true,true,true,true,true,true,true,false,false,false,false] rfl rfl (any_of HT_.out (by kernel_rfl)) (fun _ _ _ h=>h) (Or.inr ⟨by rfl,rfl⟩) ?_ ?_
  rotate_left
  ·simp only[Act.put,z_L,i64_w,i32_w]
   rfl
  refine pure_ (i:=10) (N:=some 15) (v:=undef) (a':=?_) #[true,true,true,true,true,true,true,true,true,true,true,false,false,false] rfl rfl (any_of HT_.out (by kernel_rfl)) (fun _ _ _ h=>h) (Or.inr ⟨by rfl,rfl⟩) ?_ ?_
  rotate_left
  ·simp only[Act.put,z_L,i64_w,i32_w]
   rfl
  refine pure_ (i:=11) (N:=some 16) (v:=undef) (a':=?_) #[true,true,true,true,true,true,true,true,true,true,true,true,false,false] rfl rfl (any_of HT_.out (by kernel_rfl)) (fun _ _ _ h=>h) (Or.inr ⟨by rfl,rfl⟩) ?_ ?_
  rotate_left
  ·simp only[Act.put,z_L,i64_w,i32_w]
   rfl
  refine pure_ (i:=12) (N:=some 17) (v:=?_) (a':=?_) #[true,true,true,true,true,true,true,true,true,true,true,true,true,false] rfl rfl (any_of HT_.out (by kernel_rfl)) (fun _ _ _ h=>h) (Or.inl ⟨by rfl,?_⟩) ?_ ?_
  rotate_left
  ·intro w'
   go_simp
   with_reducible rfl
  rotate_left
  ·simp only[Act.put,z_L,i64_w,i32_w]
   rfl
  refine pure_ (i:=13) (N:=some 4) (v:=?_) (a':=?_) #[true,true,true,true,true,true,true,true,true,true,true,true,true,true] rfl rfl (any_of HT_.out (by kernel_rfl)) (fun _ _ _ h=>h) (Or.inl ⟨by rfl,?_⟩) ?_ ?_
  rotate_left
  ·intro w'
   go_simp
   with_reducible rfl
  rotate_left
  ·simp only[Act.put,z_L,i64_w,i32_w]
   rfl
  refine done_ (done_of HT_.out (by kernel_rfl)) ?_
  try go_wp2
  go_ret
  exact⟨zE,zb⟩

def impl_copyCrew.f (l0:List (S76)):Option ((List (S76))):=(some (([]:List (S76)):List (S76))).bind fun y616=>(if y616.length+l0.length<4398046511104 then(some (y616++l0)) else(none))
theorem impl_copyCrew.calls (A0:Option Addr) (c0:Nat) (l0:List (S76)) (r:List (S76)) (w:World) (aI:Kd.C k76 w A0 l0.length l0) (aJ:l0.length≤c0) (h:impl_copyCrew.f l0=some r) :
  Calls Try.prog 49 #[.slice A0 l0.length c0] w fun e w'=>∃ v0_:Value,e=.returned (v0_)∧Kd.R k76 76 w' w.heap.size (fun _=>True) v0_ r∧Below w.heap.size w w':=by
 have aQ:=zA aI;have aU:=zA aJ;clear aI aJ;have HB:=zA (Below.refl w.heap.size w);have H:=h;clear h;unfold impl_copyCrew.f at H;obtain⟨aA,aE⟩:∃ y_:List (S76),y_=(([]:List (S76))):=⟨_,rfl⟩
 replace H:(if aA.length+l0.length<4398046511104 then(some (aA++l0)) else(none))=some r:=zY aE H
 have Ny616:=zA aE;clear aE;obtain⟨aM,H⟩:=zifA H;obtain⟨aK,aD⟩:∃ y_:List (S76),y_=(aA++l0):=⟨_,rfl⟩
 replace H:(some aK)=some r:=zY aD H
 have Ny619:=zA aD;clear aD;obtain rfl:=zI H;go_enter Try.func49,Try.ntmps49
 go_wp2_with (first|((with_reducible refine zgd 3 rfl ?_);refine Kd.R_lit k76 _ 76 ?hg (N:=3) ?hd (xs:=([]:List (S76))) (inner:=[]) (ok:=fun _=>True) (okp:=fun _=>True) ?hr ?hp (fun _ hk=>hk) trivial (Below.refl _ _) (Nat.le_refl _) (by simp) ?_;(case hd=>rfl);(case hg=>rfl);(case hr=>first|(go_simp;done)|(go_simp;rfl));(case hp=>exact(Reps.none _ _));intro v617 w3 ho4 hb hg_ hnew_;clear hg_ hnew_;(first|rw[←Ny616.out] at ho4|(simp only[Int.reduceToNat] at ho4;rw[←Ny616.out] at ho4));have aG:=zA (Kd.R_lower ho4 (below_size zb));replace HB:=zbs hb;clear hb ho4)|((with_reducible refine gate_builtin (b:=.append) (xs:=#[.tmp 3,.tmp 4]) rfl ?_);at_builtin;refine Kd.R_append_rows k76 (w0:=w) w.heap.size rfl (.tmp 3) (.tmp 4) 30 76 (.agg #[(.int .i64 0),(.int .i64 0),(.int .i64 0),(.bool false)]) 32 rfl Try.underlying30 info76 rfl (by decide) (by omega) v617 aA l0 _ _ _ (fun _=>True) (fun _=>False) rfl rfl ?aO ?aR (fun _ _ h=>h) (fun _ h=>h.elim) ?aF ?aB ?aS ?aL ?_;(case aR=>repeat (first|exact(Kd.C_below aQ.out HB.out)|(with_reducible refine Kd.C_alloc ?_ _)|(with_reducible refine Kd.C_drewN ?_ _)|(with_reducible refine Kd.C_drew ?_)));(case aB=>exact zb);(case aF=>exact(fun _ _=>trivial));(case aO=>exact(zR aG));(case aS=>exact(below_size zb));(case aL=>have:=aM.out;omega);intro v620 w5 ho hb hg hat;rw[←Ny619.out] at ho;replace HB:=zA hb;have aH:=zA ho;clear aG;clear ho hb hg hat))
 go_ret;exact⟨_,zE,zR aH,zb⟩

def impl_Party_copied.f (a0_0:Int) (a0_1:Int) (l0_2:List (S76)) (l0_3:List Bool):Option (Int × Int × (List (S76)) × List Bool):=(impl_copyCrew.f l0_2).bind fun t624=>((some (([]:List Bool):List Bool)).bind fun y627=>(if y627.length+l0_3.length<140737488355328 then(some (a0_0,a0_1,t624,(y627++l0_3))) else(none)))
def impl_Party_copied.T1:Bool × List (List Nat × List Nat):=(true,[([],[]),([0],[0]),([],[]),([2],[2]),([],[]),([4],[4]),([5],[5]),([],[]),([],[]),([8],[8]),([7,9,6],[7,9]),([1,3,6,10],[1,3,6,10]),([11,10,0,1,2,3,4,5,6,7,8,9,10,11],[11])])
def impl_Party_copied.B1:List Nat:=[0,1,0,4,0,16,48,0,0,256,1008,2047,4095]
theorem impl_Party_copied.tab1:rtab .any (opsOf Try.f23 1)=impl_Party_copied.T1:=by kernel_rfl
theorem impl_Party_copied.bits1:waitsOk impl_Party_copied.T1.2 impl_Party_copied.B1=true:=by kernel_rfl
theorem impl_Party_copied.calls (aN:Int) (aM:Int) (aU:Option Addr) (aT:Nat) (aI:List (S76)) (aW:Option Addr) (aV:Nat) (aH:List Bool) (r1:Int) (r2:Int) (r3:List (S76)) (r4:List Bool) (w:World) (bE:Kd.C k76 w aU aI.length aI) (bG:aI.length≤aT) (bD:Kd.C Kd.bool w aW aH.length aH) (bF:aH.length≤aV) (h:impl_Party_copied.f aN aM aI aH=some (r1,r2,r3,r4)) :
  Calls Try.prog 23 #[.agg #[.int .i64 aN,.int .i64 aM,.slice aU aI.length aT,.slice aW aH.length aV]] w fun e w'=>∃ v2_ v3_:Value,e=.returned (.agg #[.int .i64 r1,.int .i64 r2,v2_,v3_])∧Kd.R k76 76 w' w.heap.size (fun _=>True) v2_ r3∧Kd.R Kd.bool 4 w' w.heap.size (fun _=>True) v3_ r4∧Below w.heap.size w w':=by
 have hu33:=Try.underlying33;have bH:=zA bE;have bJ:=zA bG;clear bE bG;have bN:=zA bD;have cL:=zA bF;clear bD bF;have HB:=zA (Below.refl w.heap.size w);have H:=h;clear h;unfold impl_Party_copied.f at H;obtain⟨aX,A2,H⟩:=zB H;obtain⟨aZ,bB⟩:∃ y_:List Bool,y_=(([]:List Bool)):=⟨_,rfl⟩
 replace H:(if aZ.length+aH.length<140737488355328 then(some (aN,aM,aX,(aZ++aH))) else(none))=some (r1,r2,r3,r4):=zY bB H
 have Ny627:=zA bB;clear bB;obtain⟨bV,H⟩:=zifA H;obtain⟨bK,bA⟩:∃ y_:List Bool,y_=(aZ++aH):=⟨_,rfl⟩
 replace H:(some (aN,aM,aX,bK))=some (r1,r2,r3,r4):=zY bA H
 have Ny630:=zA bA;clear bA;simp only[Option.some.injEq,Prod.mk.injEq] at H;obtain⟨rfl,rfl,rfl,rfl⟩:=H;go_enter Try.func23,Try.ntmps23
 try go_wp2_with (first|((with_reducible refine zgd 1 rfl ?_);refine zbx 1 #[.int .i64 aN,.int .i64 aM,.slice aU aI.length aT,.slice aW aH.length aV] 33 ?_;intro aG hg w4 hbox hb;have aA:=zA hbox;have cN:=zga (w:=w) hg;replace HB:=zbs hb;clear hb hbox hg)|((with_reducible refine zgd 2 rfl ?_);refine zbx 2 #[.int .i64 0,.int .i64 0,.slice none 0 0,.slice none 0 0] 33 ?_;intro aE hg w5 hbox hb;have aD:=zA hbox;have cM:=zga (w:=w) hg;replace HB:=zbs hb;replace aA:=zlh aA hg hb;obtain⟨aC,aQ,aA⟩:=aA;clear hb hbox hg))
 replace aA:=zA (blk_drew aA.out);replace aD:=zA (blk_drew aD.out);replace HB:=zA (below_drew1 HB.out);refine start_ (n:=13) (S:=fun w'=>w'.cell? ⟨aG,0,none⟩=some (.int .i64 aN)∧w'.cell? ⟨aG,1,none⟩=some (.int .i64 aM)∧w'.cell? ⟨aG,2,none⟩=some (.slice aU aI.length aT)∧w'.cell? ⟨aG,3,none⟩=some (.slice aW aH.length aV)) (ds:=[]) _ (by kernel_rfl) rfl rfl ⟨zq aA 0,zq aA 1,zq aA 2,zq aA 3⟩ (fun hHeld=>?_);refine with_tabW impl_Party_copied.tab1 impl_Party_copied.bits1 (fun HT_ HW_=>?_);generalize w5.drew=w6 at aA aD HB hHeld ⊢;refine z_p 0 ?_;refine z_p 2 ?_;refine z_p 4 ?_;refine z_p 8 ?_;refine zt 1 4 HT_ HW_ hHeld ?_;refine zt 3 6 HT_ HW_ hHeld ?_;refine zt 5 8 HT_ HW_ hHeld ?_;refine zt 9 12 HT_ HW_ hHeld ?_;refine join_ (σ:=Value × Value) 3 #[true,true,true,true,true,true,true,true,true,true,false,false,false] (fun s_=>[(9,s_.1),(10,s_.2)]) (fun s_ w'=>(w'.cell? ⟨aG,0,none⟩=some (.int .i64 aN)∧w'.cell? ⟨aG,1,none⟩=some (.int .i64 aM)∧w'.cell? ⟨aG,2,none⟩=some (.slice aU aI.length aT)∧w'.cell? ⟨aG,3,none⟩=some (.slice aW aH.length aV))∧(Kd.R k76 76 w' w.heap.size (fun _=>True) s_.1 aX)∧(Kd.R Kd.bool 4 w' w.heap.size (fun _=>True) s_.2 aZ)∧(w'.heap[aG]?=some (.cells #[.int .i64 aN,.int .i64 aM,.slice aU aI.length aT,.slice aW aH.length aV] 33 (0,0)))∧(w'.heap[aE]?=some (.cells #[.int .i64 0,.int .i64 0,.slice none 0 0,.slice none 0 0] 33 (0,0)))∧(Below w.heap.size w w')) ?_ ?_;rotate_left
 ·intro hCont;refine two_ (i:=6) (j:=7) (Ni:=some 9) (Nj:=some 10) #[true,true,true,true,true,true,true,false,true,true,false,false,false] #[true,true,true,true,true,true,false,true,true,true,false,false,false] rfl rfl rfl rfl (two_of HT_.out (by kernel_rfl)) (by decide) (by decide) (fun K hK=>?_) (fun K hK=>?_)
  ·skip
   refine zgo Try.func49 #[.slice aU aI.length aT] ?_
   with_reducible refine(impl_copyCrew.calls _ _ aI aX _ ?s1 ?s2 A2.out).mono ?_
   (case s1=>exact zCb bH);(case s2=>exact bJ.out);rintro e w7 ⟨v625,rfl,ho0,hb⟩;refine⟨_,rfl,?_⟩;have aK:=zA (Kd.R_lower ho0 (below_size zb));replace aA:=zkb aA hb;replace aD:=zkb aD hb;replace HB:=zbs hb;(try clear hb);(try clear ho0);refine hK.out _ _ ⟨zq aA 0,zq aA 1,zq aA 2,zq aA 3⟩ (fun hHeld=>?_);clear hK K;refine norm_ zV ?_;refine zo 7 10 HT_ (fun K hK=>?_);refine Kd.R_lit_step Kd.bool _ 4 ?hg (N:=10) ?hd (xs:=([]:List Bool)) (inner:=[]) (ok:=fun _=>True) (okp:=fun _=>True) ?hr ?hp (fun _ hk=>hk) trivial (Below.refl _ _) (Nat.le_refl _) (by simp) ?_;(case hd=>rfl);(case hg=>rfl);(case hr=>first|(go_simp;done)|(go_simp;rfl));(case hp=>exact(Reps.none _ _));intro v628 w8 ho9 hb hg_ hnew_;clear hg_ hnew_;(first|rw[←Ny627.out] at ho9|(simp only[Int.reduceToNat] at ho9;rw[←Ny627.out] at ho9));replace aK:=zRb aK hb;have aJ:=zA (Kd.R_lower ho9 (below_size zb));replace aA:=zkb aA hb;replace aD:=zkb aD hb;replace HB:=zbs hb;clear hb ho9;refine hK.out _ _ ⟨zq aA 0,zq aA 1,zq aA 2,zq aA 3⟩ (fun hHeld=>?_);clear hK K;refine norm_ (a':=?_) ?_ ?_;rotate_left
   ·show Act.put _ (some 10) _=_
    simp only[Act.put,z_L,i64_w,i32_w];rfl
   exact norm_ (by simp only[putAll,Act.put,z_L]) (hCont (v625,v628) _ ⟨hHeld,(zR aK),(zR aJ),(zk aA),(zk aD),zb⟩)
  ·skip
   refine Kd.R_lit_step Kd.bool _ 4 ?hg (N:=10) ?hd (xs:=([]:List Bool)) (inner:=[]) (ok:=fun _=>True) (okp:=fun _=>True) ?hr ?hp (fun _ hk=>hk) trivial (Below.refl _ _) (Nat.le_refl _) (by simp) ?_;(case hd=>rfl);(case hg=>rfl);(case hr=>first|(go_simp;done)|(go_simp;rfl));(case hp=>exact(Reps.none _ _));intro v628 w7 ho8 hb hg_ hnew_;clear hg_ hnew_;(first|rw[←Ny627.out] at ho8|(simp only[Int.reduceToNat] at ho8;rw[←Ny627.out] at ho8));have aJ:=zA (Kd.R_lower ho8 (below_size zb));replace aA:=zkb aA hb;replace aD:=zkb aD hb;replace HB:=zbs hb;clear hb ho8;refine hK.out _ _ ⟨zq aA 0,zq aA 1,zq aA 2,zq aA 3⟩ (fun hHeld=>?_);clear hK K;refine norm_ zV ?_;refine zo 6 9 HT_ (fun K hK=>?_);refine zgo Try.func49 #[.slice aU aI.length aT] ?_
   with_reducible refine(impl_copyCrew.calls _ _ aI aX _ ?s1 ?s2 A2.out).mono ?_
   (case s1=>exact zCb bH);(case s2=>exact bJ.out);rintro e w9 ⟨v625,rfl,ho0,hb⟩;refine⟨_,rfl,?_⟩;replace aJ:=zRb aJ hb;have aK:=zA (Kd.R_lower ho0 (below_size zb));replace aA:=zkb aA hb;replace aD:=zkb aD hb;replace HB:=zbs hb;(try clear hb);(try clear ho0);refine hK.out _ _ ⟨zq aA 0,zq aA 1,zq aA 2,zq aA 3⟩ (fun hHeld=>?_);clear hK K;refine norm_ (a':=?_) ?_ ?_;rotate_left
   ·show Act.put _ (some 9) _=_
    simp only[Act.put,z_L,i64_w,i32_w];rfl
   exact norm_ (by simp only[putAll,Act.put,z_L]) (hCont (v625,v628) _ ⟨hHeld,(zR aK),(zR aJ),(zk aA),(zk aD),zb⟩)
 rintro⟨v625,v628⟩ aY ⟨hS_,h0_,h1_,h2_,h3_,h4_⟩;have bS:Aside0 (Kd.R k76 76 aY w.heap.size (fun _=>True) v625 aX):=⟨h0_⟩;have bR:Aside0 (Kd.R Kd.bool 4 aY w.heap.size (fun _=>True) v628 aZ):=⟨h1_⟩;have bQ:Aside0 (aY.heap[aG]?=some (.cells #[.int .i64 aN,.int .i64 aM,.slice aU aI.length aT,.slice aW aH.length aV] 33 (0,0))):=⟨h2_⟩;have bP:Aside0 (aY.heap[aE]?=some (.cells #[.int .i64 0,.int .i64 0,.slice none 0 0,.slice none 0 0] 33 (0,0))):=⟨h3_⟩;have bO:Aside0 (Below w.heap.size w aY):=⟨h4_⟩;clear aA;clear aD;clear HB;clear h0_ h1_ h2_ h3_ h4_;have aK:=bS;have aJ:=bR;have aA:=bQ;have aD:=bP;have HB:=bO;clear bS bR bQ bP bO;have hHeld:aY.cell? ⟨aG,0,none⟩=some (.int .i64 aN)∧aY.cell? ⟨aG,1,none⟩=some (.int .i64 aM)∧aY.cell? ⟨aG,2,none⟩=some (.slice aU aI.length aT)∧aY.cell? ⟨aG,3,none⟩=some (.slice aW aH.length aV):=hS_;refine norm_ (a':=?_) ?_ ?_;rotate_left
 ·simp only[putAll,Act.put,z_L];rfl
 refine zo 10 13 HT_ (fun K hK=>?_);refine Kd.R_append_rows_step Kd.bool (w0:=w) w.heap.size (by rfl) (.tmp 10) (.tmp 12) 31 4 (.bool false) 1 rfl Try.underlying31 info4 rfl (by decide) (by omega) v628 aZ aH _ _ _ (fun _=>True) (fun _=>False) rfl rfl ?aO ?aR (fun _ _ h=>h) (fun _ h=>h.elim) ?aF ?aB ?aS ?aL ?_;(case aR=>repeat (first|exact(Kd.C_below bN.out HB.out)|(with_reducible refine Kd.C_alloc ?_ _)|(with_reducible refine Kd.C_drewN ?_ _)|(with_reducible refine Kd.C_drew ?_)));(case aB=>exact zb);(case aF=>exact(fun _ _=>trivial));(case aO=>exact(zR aJ));(case aS=>exact(below_size zb));(case aL=>have:=bV.out;omega);intro v631 bC ho hb hg hat;rw[←Ny630.out] at ho;replace aA:=zgr aA hg (Kd.R_ne aJ.out aA.out (by decide));replace aD:=zgr aD hg (Kd.R_ne aJ.out aD.out (by decide));replace aK:=zA (Kd.R_over' (zR aK) (Kd.R_typed (zR aJ)) (by decide) hg);replace HB:=zA hb;have bI:=zA ho;clear aJ;clear ho hb hg hat;obtain⟨bX,bU,bM⟩:=Kd.R_slice bI.out;(first|subst bM|(injection bM with f1_ f2_ f3_;have f4_:=f1_.symm;have f5_:=f3_.symm;clear f1_ f2_ f3_;subst f4_;subst f5_));obtain⟨bW,bT,bL⟩:=Kd.R_slice aK.out;(first|subst bL|(injection bL with f1_ f2_ f3_;have f4_:=f1_.symm;have f5_:=f3_.symm;clear f1_ f2_ f3_;subst f4_;subst f5_));refine hK.out _ _ ⟨zq aA 0,zq aA 1,zq aA 2,zq aA 3⟩ (fun hHeld=>?_);clear hK K;refine norm_ zV ?_;refine z_p 11 ?_;refine zon 12 HT_ (fun K hK=>?_);have cT:bC.cell? ⟨aE,0,none⟩=some (.int .i64 0):=zq aD 0;have cK:=blk_frozen aD.out 0;have cB:=aC.out;have cF:=aQ.out;have cS:bC.cell? ⟨aE,1,none⟩=some (.int .i64 0):=zq aD 1;have cJ:=blk_frozen aD.out 1;have cA:=aC.out;have cE:=aQ.out;have cR:bC.cell? ⟨aE,2,none⟩=some (.slice none 0 0):=zq aD 2;have cI:=blk_frozen aD.out 2;have bZ:=aC.out;have cD:=aQ.out;have cQ:bC.cell? ⟨aE,3,none⟩=some (.slice none 0 0):=zq aD 3;have cH:=blk_frozen aD.out 3;have bY:=aC.out;have cC:=aQ.out;refine skip_ (w1:=?_) (by rfl) rfl ?_ ?_;rotate_left
 ·go_simp
  rfl
 refine hK.out _ _ ⟨(zCF hHeld.1),(zCF hHeld.2.1),(zCF hHeld.2.2.1),(zCF hHeld.2.2.2)⟩ (fun hHeld=>?_);clear hK K;refine done_ (done_of HT_.out (by kernel_rfl)) ?_
 try go_wp2
 refine bodyPost_ret (results_cell_row rfl _ _ aE 33 #[.int .i64 aN,.int .i64 aM,.slice bW aX.length bT,.slice bX bK.length bU] (0,0) _ rfl (zkp aD) Try.underlying33 rfl (by kernel_rfl)) rfl ?_;exact⟨_,_,zE,zF1 aK aD,zF1 bI aD,zb⟩

def impl_CapOf.l0:Nat→Int→List (S76)→Int→Int→Option (Int)
  |0,_,_,_,_=>none
  |k+1,x3,x9,x10,x11=>if x11<x10 then(if 0≤x11 then(if x11<(x9.length:Int) then(if ((rd_T76 x9 x11).f3=true) then(impl_CapOf.l0 k x3 x9 x10 (wrap64 (x11+1))) else(impl_CapOf.l0 k (wrap64 (x3+((rd_T76 x9 x11).f1))) x9 x10 (wrap64 (x11+1)))) else(none)) else(none)) else(some x3)
def impl_CapOf.f (k:Nat) (l0:List (S76)):Option (Int):=(impl_AreCrew.f k l0).bind fun t633=>(if t633=true then(impl_CapOf.l0 k 0 l0 (l0.length:Int) 0) else(some 0))
theorem impl_CapOf.calls (k:Nat) (A0:Option Addr) (c0:Nat) (l0:List (S76)) (r:Int) (w:World) (aY:Kd.C k76 w A0 l0.length l0) (aZ:l0.length≤c0) (h:impl_CapOf.f k l0=some r) :
  Calls Try.prog 61 #[.slice A0 l0.length c0] w fun e w'=>e=.returned (.int .i64 r)∧Below w.heap.size w w':=by
 have hu76:=Try.underlying76;have aM:=zA aY;have bA:=zA aZ;clear aY aZ;have HB:=zA (Below.refl w.heap.size w);have H:=h;clear h;unfold impl_CapOf.f at H;obtain⟨bB,A2,H⟩:=zB H
 by_cases c3:bB=true
 ·subst c3;rw[if_pos rfl] at H;have H':=zA H;clear H;go_enter Try.func61,Try.ntmps61
  go_wp2_with (first|((with_reducible refine zgf 33 rfl ?_);refine zgl 7 Try.func33 #[.slice A0 l0.length c0] ?_;(with_reducible refine(impl_AreCrew.calls k _ _ l0 true _ ?s1 ?s2 A2.out).mono ?_);(case s1=>exact zCx aM.out);(case s2=>exact bA.out);rintro e w4 ⟨rfl,hb⟩;refine⟨_,rfl,?_⟩;replace HB:=zbs hb;(try clear hb)))
  go_loopg [3,11] k (fun kq v3 v11 w'=>∃ (aI:Int) (aA:Int),v3=.int .i64 aI∧v11=.int .i64 aA∧Aside0 (impl_CapOf.l0 kq aI l0 (l0.length:Int) aA=some r)∧Aside0 (kq≤k)∧Aside0 (Below w.heap.size w w'))
  case atStart=>exact⟨(0),(0),zr,zr,H',⟨Nat.le_refl _⟩,⟨zb⟩⟩
  case round =>
   clear H';(try clear c3);obtain⟨aI,aA,rfl,rfl,HA,HK1,HB⟩:=hrel
   cases gk with
   |zero=>exact absurd HA.out (by simp[impl_CapOf.l0])
   |succ k1 =>
    have H:=HA.out;clear HA;simp only[impl_CapOf.l0] at H
    by_cases c5:aA<(l0.length:Int)
    ·rw[if_pos c5] at H;have bE:=decide_eq_true c5;clear c5;obtain⟨bX,H⟩:=zifD H;obtain⟨bW,H⟩:=zifD H;obtain⟨bq8,hbq8⟩:∃ b_:Bool,b_=((rd_T76 l0 aA).f3):=⟨_,rfl⟩
     replace H:(if (bq8=true) then(impl_CapOf.l0 k1 aI l0 (l0.length:Int) (wrap64 (aA+1))) else(impl_CapOf.l0 k1 (wrap64 (aI+((rd_T76 l0 aA).f1))) l0 (l0.length:Int) (wrap64 (aA+1))))=some r:=by rw[←hbq8] at H;exact H
     have Nbq8:=zA hbq8;clear hbq8
     by_cases c9:(bq8=true)
     ·subst c9;rw[if_pos rfl] at H;have H':=zA H;clear H;have bD:=zT (0≤(aA:Int));have bC:=zT (aA<(l0.length:Int));obtain⟨aV,aK,aH,aG,aE,aC⟩:=at_T76 aM.out aA zd zd;(try rw[←Nbq8.out] at aC);cases aK;replace aH:=zC HB aH;replace aG:=zC HB aG;replace aE:=zC HB aE;replace aC:=zC HB aC
      go_wp2_with (first|((with_reducible refine zgd 5 rfl ?_);refine zbx 5 #[.int .i64 0,.int .i64 0,.int .i64 0,.bool false] 76 ?_;intro aQ hg cA hbox hb;have aJ:=zA hbox;have aW:=zga (w:=w) hg;replace HB:=zbs hb;clear hb hbox hg;obtain⟨bU,bT,bS,bR,bM,bL,bK,bJ⟩:=ze4 aJ))
      go_roundg k1
      case measure=>have:=HK1.out;omega
      case rel=>exact⟨(aI),(wrap64 (aA+1)),zr,zr,H',⟨by have:=HK1.out;omega⟩,⟨zb⟩⟩
     ·replace c9:=Bool.eq_false_iff.mpr c9;subst c9;rw[if_neg zNo] at H;have H':=zA H;clear H;have bD:=zT (0≤(aA:Int));have bC:=zT (aA<(l0.length:Int));obtain⟨aV,aK,aH,aG,aE,aC⟩:=at_T76 aM.out aA zd zd;(try rw[←Nbq8.out] at aC);cases aK;replace aH:=zC HB aH;replace aG:=zC HB aG;replace aE:=zC HB aE;replace aC:=zC HB aC
      go_wp2_with (first|((with_reducible refine zgd 5 rfl ?_);refine zbx 5 #[.int .i64 0,.int .i64 0,.int .i64 0,.bool false] 76 ?_;intro aQ hg bZ hbox hb;have aJ:=zA hbox;have aW:=zga (w:=w) hg;replace HB:=zbs hb;clear hb hbox hg;obtain⟨bQ,bP,bO,bN,bI,bH,bG,bF⟩:=ze4 aJ))
      go_roundg k1
      case measure=>have:=HK1.out;omega
      case rel=>exact⟨(wrap64 (aI+((rd_T76 l0 aA).f1))),(wrap64 (aA+1)),zr,zr,H',⟨by have:=HK1.out;omega⟩,⟨zb⟩⟩
    ·rw[if_neg c5] at H;have bE:=decide_eq_false c5;clear c5;obtain rfl:=zI H;go_wp2;go_ret;exact⟨zE,zb⟩
 ·replace c3:=Bool.eq_false_iff.mpr c3;subst c3;rw[if_neg zNo] at H;obtain rfl:=zI H;go_enter Try.func61,Try.ntmps61
  go_wp2_with (first|((with_reducible refine zgf 33 rfl ?_);refine zgl 7 Try.func33 #[.slice A0 l0.length c0] ?_;(with_reducible refine(impl_AreCrew.calls k _ _ l0 false _ ?s1 ?s2 A2.out).mono ?_);(case s1=>exact zCx aM.out);(case s2=>exact bA.out);rintro e bY ⟨rfl,hb⟩;refine⟨_,rfl,?_⟩;replace HB:=zbs hb;(try clear hb)))
  go_ret;exact⟨zE,zb⟩

def impl_RoomFor.f (k:Nat) (a0_0:Int) (a0_1:Int) (l0_2:List (S76)) (l0_3:List Bool):Option (Int):=if a0_1<0 then(some 0) else((impl_CapOf.f k l0_2).bind fun t637=>(if a0_1≥t637 then(some 0) else((impl_CapOf.f k l0_2).bind fun t638=>(some (wrap64 (t638-a0_1))))))
def impl_RoomFor.T1:Bool × List (List Nat × List Nat):=(true,[([],[]),([0],[0]),([1],[1]),([2],[2]),([3],[3]),([4,3],[3,4]),([3],[3]),([6,3],[3,6]),([7,3,3],[3,7]),([5,8,3],[3,5,8]),([3,9],[3,9])])
def impl_RoomFor.B1:List Nat:=[0,1,3,7,15,31,15,79,207,511,1023]
theorem impl_RoomFor.tab1:rtab .any (opsOf Try.f50 1)=impl_RoomFor.T1:=by kernel_rfl
theorem impl_RoomFor.bits1:waitsOk impl_RoomFor.T1.2 impl_RoomFor.B1=true:=by kernel_rfl
theorem impl_RoomFor.calls (k:Nat) (aK:Int) (aE:Int) (aI:Option Addr) (aH:Nat) (aD:List (S76)) (aM:Option Addr) (aJ:Nat) (aG:List Bool) (r:Int) (w:World) (aV:Kd.C k76 w aI aD.length aD) (aX:aD.length≤aH) (aU:Kd.C Kd.bool w aM aG.length aG) (aW:aG.length≤aJ) (h:impl_RoomFor.f k aK aE aD aG=some r) :
  Calls Try.prog 50 #[.agg #[.int .i64 aK,.int .i64 aE,.slice aI aD.length aH,.slice aM aG.length aJ]] w fun e w'=>e=.returned (.int .i64 r)∧Below w.heap.size w w':=by
 have hu33:=Try.underlying33;have aQ:=zA aV;have aT:=zA aX;clear aV aX;have bG:=zA aU;have bH:=zA aW;clear aU aW;have HB:=zA (Below.refl w.heap.size w);have H:=h;clear h;unfold impl_RoomFor.f at H
 by_cases c2:aE<0
 ·rw[if_pos c2] at H;have bB:=decide_eq_true c2;clear c2;obtain rfl:=zI H;go_enter Try.func50,Try.ntmps50
  try go_wp2_with (first|((with_reducible refine zgd 1 rfl ?_);refine zbx 1 #[.int .i64 aK,.int .i64 aE,.slice aI aD.length aH,.slice aM aG.length aJ] 33 ?_;intro aC hg w3 hbox hb;have aA:=zA hbox;have aY:=zga (w:=w) hg;replace HB:=zbs hb;clear hb hbox hg))
  replace aA:=zA (blk_drew aA.out);replace HB:=zA (below_drew1 HB.out);refine start_ (n:=11) (S:=fun w'=>w'.cell? ⟨aC,0,none⟩=some (.int .i64 aK)∧w'.cell? ⟨aC,1,none⟩=some (.int .i64 aE)∧w'.cell? ⟨aC,2,none⟩=some (.slice aI aD.length aH)∧w'.cell? ⟨aC,3,none⟩=some (.slice aM aG.length aJ)) (ds:=[]) _ (by kernel_rfl) rfl rfl ⟨zq aA 0,zq aA 1,zq aA 2,zq aA 3⟩ (fun hHeld=>?_);refine with_tabW impl_RoomFor.tab1 impl_RoomFor.bits1 (fun HT_ HW_=>?_);generalize w3.drew=w4 at aA HB hHeld ⊢;refine z_p 0 ?_;refine zt 1 4 HT_ HW_ hHeld ?_;refine z_p 2 ?_;refine z_p 3 ?_;refine z_u 4 ?_;refine z_u 5 ?_;refine z_u 6 ?_;refine z_u 7 ?_;refine z_u 8 ?_;refine z_u 9 ?_;refine z_p 10 ?_;refine done_ (done_of HT_.out (by kernel_rfl)) ?_
  try go_wp2
  go_ret;exact⟨zE,zb⟩
 ·rw[if_neg c2] at H;have bB:=decide_eq_false c2;clear c2;obtain⟨aN,A5,H⟩:=zB H
  by_cases c6:aE≥aN
  ·rw[if_pos c6] at H;have bA:decide (aN≤aE)=true:=decide_eq_true c6;clear c6;obtain rfl:=zI H;go_enter Try.func50,Try.ntmps50
   try go_wp2_with (first|((with_reducible refine zgd 1 rfl ?_);refine zbx 1 #[.int .i64 aK,.int .i64 aE,.slice aI aD.length aH,.slice aM aG.length aJ] 33 ?_;intro aC hg w7 hbox hb;have aA:=zA hbox;have aY:=zga (w:=w) hg;replace HB:=zbs hb;clear hb hbox hg))
   replace aA:=zA (blk_drew aA.out);replace HB:=zA (below_drew1 HB.out);refine start_ (n:=11) (S:=fun w'=>w'.cell? ⟨aC,0,none⟩=some (.int .i64 aK)∧w'.cell? ⟨aC,1,none⟩=some (.int .i64 aE)∧w'.cell? ⟨aC,2,none⟩=some (.slice aI aD.length aH)∧w'.cell? ⟨aC,3,none⟩=some (.slice aM aG.length aJ)) (ds:=[]) _ (by kernel_rfl) rfl rfl ⟨zq aA 0,zq aA 1,zq aA 2,zq aA 3⟩ (fun hHeld=>?_);refine with_tabW impl_RoomFor.tab1 impl_RoomFor.bits1 (fun HT_ HW_=>?_);generalize w7.drew=w8 at aA HB hHeld ⊢;refine z_p 0 ?_;refine zt 1 4 HT_ HW_ hHeld ?_;refine z_p 2 ?_;refine z_p 3 ?_;refine z_p 4 ?_;refine z_p 6 ?_;refine zt 5 8 HT_ HW_ hHeld ?_;refine zt 7 10 HT_ HW_ hHeld ?_;refine zo 8 11 HT_ (fun K hK=>?_);refine zgo Try.func61 #[.slice aI aD.length aH] ?_
   with_reducible refine(impl_CapOf.calls k _ _ aD aN _ ?s1 ?s2 A5.out).mono ?_
   (case s1=>exact zCb aQ);(case s2=>exact aT.out);rintro e w9 ⟨rfl,hb⟩;refine⟨_,rfl,?_⟩;replace aA:=zkb aA hb;replace HB:=zbs hb;(try clear hb);refine hK.out _ _ ⟨zq aA 0,zq aA 1,zq aA 2,zq aA 3⟩ (fun hHeld=>?_);clear hK K;refine norm_ zV ?_;refine z_p 9 ?_;refine z_p 10 ?_;refine done_ (done_of HT_.out (by kernel_rfl)) ?_
   try go_wp2
   go_ret;exact⟨zE,zb⟩
  ·rw[if_neg c6] at H;have bA:decide (aN≤aE)=false:=decide_eq_false c6;clear c6;obtain⟨aZ,bF,H⟩:=zB H;obtain rfl:=zI H;go_enter Try.func50,Try.ntmps50
   try go_wp2_with (first|((with_reducible refine zgd 1 rfl ?_);refine zbx 1 #[.int .i64 aK,.int .i64 aE,.slice aI aD.length aH,.slice aM aG.length aJ] 33 ?_;intro aC hg bD hbox hb;have aA:=zA hbox;have aY:=zga (w:=w) hg;replace HB:=zbs hb;clear hb hbox hg))
   replace aA:=zA (blk_drew aA.out);replace HB:=zA (below_drew1 HB.out);refine start_ (n:=11) (S:=fun w'=>w'.cell? ⟨aC,0,none⟩=some (.int .i64 aK)∧w'.cell? ⟨aC,1,none⟩=some (.int .i64 aE)∧w'.cell? ⟨aC,2,none⟩=some (.slice aI aD.length aH)∧w'.cell? ⟨aC,3,none⟩=some (.slice aM aG.length aJ)) (ds:=[]) _ (by kernel_rfl) rfl rfl ⟨zq aA 0,zq aA 1,zq aA 2,zq aA 3⟩ (fun hHeld=>?_);refine with_tabW impl_RoomFor.tab1 impl_RoomFor.bits1 (fun HT_ HW_=>?_);generalize bD.drew=bM at aA HB hHeld ⊢;refine z_p 0 ?_;refine zt 1 4 HT_ HW_ hHeld ?_;refine z_p 2 ?_;refine z_p 3 ?_;refine z_p 4 ?_;refine z_p 6 ?_;refine zt 5 8 HT_ HW_ hHeld ?_;refine zt 7 10 HT_ HW_ hHeld ?_;refine zo 8 11 HT_ (fun K hK=>?_);refine zgo Try.func61 #[.slice aI aD.length aH] ?_
   with_reducible refine(impl_CapOf.calls k _ _ aD aN _ ?s1 ?s2 A5.out).mono ?_
   (case s1=>exact zCb aQ);(case s2=>exact aT.out);rintro e bC ⟨rfl,hb⟩;refine⟨_,rfl,?_⟩;replace aA:=zkb aA hb;replace HB:=zbs hb;(try clear hb);refine hK.out _ _ ⟨zq aA 0,zq aA 1,zq aA 2,zq aA 3⟩ (fun hHeld=>?_);clear hK K;refine norm_ zV ?_;refine z_p 9 ?_;refine z_p 10 ?_;refine done_ (done_of HT_.out (by kernel_rfl)) ?_
   try go_wp2
   replace aA:=zA (blk_drew aA.out);replace HB:=zA (below_drew1 HB.out);refine start_ (n:=7) (S:=fun w'=>w'.cell? ⟨aC,0,none⟩=some (.int .i64 aK)∧w'.cell? ⟨aC,1,none⟩=some (.int .i64 aE)∧w'.cell? ⟨aC,2,none⟩=some (.slice aI aD.length aH)∧w'.cell? ⟨aC,3,none⟩=some (.slice aM aG.length aJ)) (ds:=[]) _ (by kernel_rfl) rfl rfl ⟨zq aA 0,zq aA 1,zq aA 2,zq aA 3⟩ (fun hHeld=>?_);generalize bC.drew=bL at aA HB hHeld ⊢;refine pure_ (i:=0) (N:=some 14) (v:=?_) (a':=?_) #[true,false,false,false,false,false,false] rfl rfl (by kernel_rfl) (fun _ _ _ h=>h) (Or.inl ⟨by rfl,?_⟩) ?_ ?_;rotate_left
   ·intro w'
    go_simp
    with_reducible rfl
   rotate_left
   ·exact zW
   refine pure_ (i:=3) (N:=some 17) (v:=?_) (a':=?_) #[true,false,false,true,false,false,false] rfl rfl (by kernel_rfl) (fun _ _ _ h=>h) (Or.inl ⟨by rfl,?_⟩) ?_ ?_;rotate_left
   ·intro w'
    go_simp
    with_reducible rfl
   rotate_left
   ·exact zW
   refine take_ (i:=1) (N:=some 15) (v:=?_) (a':=?_) #[true,true,false,true,false,false,false] rfl rfl (by kernel_rfl) (fun _ _ _ h=>h) (Or.inl ⟨by rfl,?_⟩) hHeld ?_ ?_;rotate_left
   ·rintro w' ⟨s0,s1,s2,s3⟩
    go_simp
    with_reducible rfl
   rotate_left
   ·exact zW
   refine take_ (i:=4) (N:=some 18) (v:=?_) (a':=?_) #[true,true,false,true,true,false,false] rfl rfl (by kernel_rfl) (fun _ _ _ h=>h) (Or.inl ⟨by rfl,?_⟩) hHeld ?_ ?_;rotate_left
   ·rintro w' ⟨s0,s1,s2,s3⟩
    go_simp
    with_reducible rfl
   rotate_left
   ·exact zW
   refine one_ (i:=2) (N:=some 16) #[true,true,true,true,true,false,false] rfl rfl (by kernel_rfl) (by decide) (fun K hK=>?_);refine zgo Try.func61 #[.slice aI aD.length aH] ?_
   with_reducible refine(impl_CapOf.calls k _ _ aD aZ _ ?s1 ?s2 bF.out).mono ?_
   (case s1=>exact zCb aQ);(case s2=>exact aT.out);rintro e bK ⟨rfl,hb⟩;refine⟨_,rfl,?_⟩;replace aA:=zkb aA hb;replace HB:=zbs hb;(try clear hb);refine hK.out _ _ ⟨zq aA 0,zq aA 1,zq aA 2,zq aA 3⟩ (fun hHeld=>?_);clear hK K;refine norm_ zV ?_;refine pure_ (i:=5) (N:=some 19) (v:=?_) (a':=?_) #[true,true,true,true,true,true,false] rfl rfl (by kernel_rfl) (fun _ _ _ h=>h) (Or.inl ⟨by rfl,?_⟩) ?_ ?_;rotate_left
   ·intro w'
    go_simp
    with_reducible rfl
   rotate_left
   ·exact zW
   refine pure_ (i:=6) (N:=some 2) (v:=?_) (a':=?_) #[true,true,true,true,true,true,true] rfl rfl (by kernel_rfl) (fun _ _ _ h=>h) (Or.inl ⟨by rfl,?_⟩) ?_ ?_;rotate_left
   ·intro w'
    go_simp
    with_reducible rfl
   rotate_left
   ·exact zW
   refine done_ (by kernel_rfl) ?_
   try go_wp2
   go_ret;exact⟨zE,zb⟩

def impl_PickUp.f (k:Nat) (a0_0:Int) (a0_1:Int) (l0_2:List (S76)) (l0_3:List Bool) (a1:Int):Option (Int × Int × (List (S76)) × List Bool × Int):=(impl_Party_copied.f a0_0 a0_1 l0_2 l0_3).bind fun bt641=>(if a1<0 then(some (bt641.1,bt641.2.1,bt641.2.2.1,bt641.2.2.2,0)) else((impl_RoomFor.f k a0_0 a0_1 l0_2 l0_3).bind fun t650=>(some (bt641.1,wrap64 (bt641.2.1+(mn a1 t650)),bt641.2.2.1,bt641.2.2.2,mn a1 t650))))
theorem impl_PickUp.calls (k:Nat) (aK:Int) (aJ:Int) (bA:Option Addr) (aY:Nat) (aI:List (S76)) (aZ:Option Addr) (aX:Nat) (aH:List Bool) (a1:Int) (r1:Int) (r2:Int) (r3:List (S76)) (r4:List Bool) (r5:Int) (w:World) (bN:Kd.C k76 w bA aI.length aI) (bP:aI.length≤aY) (bM:Kd.C Kd.bool w aZ aH.length aH) (bO:aH.length≤aX) (h:impl_PickUp.f k aK aJ aI aH a1=some (r1,r2,r3,r4,r5)) :
  Calls Try.prog 25 #[.agg #[.int .i64 aK,.int .i64 aJ,.slice bA aI.length aY,.slice aZ aH.length aX],.int .i64 a1] w fun e w'=>∃ v2_ v3_:Value,e=.returned (.tuple #[.agg #[.int .i64 r1,.int .i64 r2,v2_,v3_],.int .i64 r5])∧Kd.R k76 76 w' w.heap.size (fun _=>True) v2_ r3∧Kd.R Kd.bool 4 w' w.heap.size (fun _=>True) v3_ r4∧Below w.heap.size w w':=by
 have hu33:=Try.underlying33;have bJ:=zA bN;have bL:=zA bP;clear bN bP;have bI:=zA bM;have bK:=zA bO;clear bM bO;have HB:=zA (Below.refl w.heap.size w);have H:=h;clear h;unfold impl_PickUp.f at H;obtain⟨⟨bE,bD,bC,bB⟩,A3,H⟩:=zB H
 by_cases c4:a1<0
 ·rw[if_pos c4] at H;have cH:=decide_eq_true c4;clear c4;simp only[Option.some.injEq,Prod.mk.injEq] at H;obtain⟨rfl,rfl,rfl,rfl,rfl⟩:=H;go_enter Try.func25,Try.ntmps25
  go_wp2_with (first|((with_reducible refine zgd 2 rfl ?_);refine zbx 2 #[.int .i64 aK,.int .i64 aJ,.slice bA aI.length aY,.slice aZ aH.length aX] 33 ?_;intro bW hg w5 hbox hb;have aA:=zA hbox;have bZ:=zga (w:=w) hg;replace HB:=zbs hb;clear hb hbox hg)|((with_reducible refine zgd 4 rfl ?_);refine zbx 4 #[.int .i64 0,.int .i64 0,.slice none 0 0,.slice none 0 0] 33 ?_;intro bH hg w6 hbox hb;have aC:=zA hbox;have bY:=zga (w:=w) hg;replace HB:=zbs hb;replace aA:=zlh aA hg hb;obtain⟨aV,aT,aA⟩:=aA;clear hb hbox hg;have fJ:=aV.out;have fI:=aT.out;obtain⟨eX,eW,eV,eU,eT,eS,eR,eQ⟩:=ze4 aA)|((with_reducible refine zgf 23 rfl ?_);refine zgl 8 Try.func23 #[.agg #[.int .i64 aK,.int .i64 aJ,.slice bA aI.length aY,.slice aZ aH.length aX]] ?_;(with_reducible refine(impl_Party_copied.calls aK aJ _ _ aI _ _ aH bE bD bC bB _ ?s1 ?s2 ?s3 ?s4 A3.out).mono ?_);(case s1=>exact zCb bJ);(case s2=>exact bL.out);(case s3=>exact zCb bI);(case s4=>exact bK.out);rintro e w9 ⟨v644,v647,rfl,ho0,ho1,hb⟩;refine⟨_,rfl,?_⟩;have aG:=zA (Kd.R_lower ho0 (below_size zb));have aE:=zA (Kd.R_lower ho1 (below_size zb));replace aA:=zkb aA hb;replace aC:=zkb aC hb;replace HB:=zbs hb;(try clear hb);(try clear ho0);(try clear ho1))|((with_reducible refine zgd 6 rfl ?_);refine zbx 6 #[.int .i64 0,.int .i64 0,.slice none 0 0,.slice none 0 0] 33 ?_;intro bQ hg fP hbox hb;replace aG:=zRb aG hb;replace aE:=zRb aE hb;have aD:=zA hbox;have bX:=zga (w:=w) hg;replace HB:=zbs hb;replace aA:=zlh aA hg hb;obtain⟨aU,aN,aA⟩:=aA;replace aC:=zlh aC hg hb;obtain⟨aQ,aM,aC⟩:=aC;clear hb hbox hg;have fH:=aN.out;have fC:=aU.out;have fG:=aM.out;have fB:=aQ.out;obtain⟨eO,eN,eM,eL,dM,dL,dK,dJ⟩:=ze4 aD;obtain⟨cJ,cG,cE⟩:=Kd.R_slice aG.out;subst cE;obtain⟨cI,cF,cD⟩:=Kd.R_slice aE.out;subst cD;obtain⟨eK,eJ,eI,eH,dI,dH,dG,dF⟩:=ze4 aC))
  refine bodyPost_ret (results_ct rfl _ _ bH 33 #[.int .i64 bE,.int .i64 bD,.slice cJ bC.length cG,.slice cI bB.length cF] (0,0) _ rfl (zkp aC) Try.underlying33 rfl (by kernel_rfl)) rfl ?_;exact⟨_,_,zE,zF2 aG aD aC,zF2 aE aD aC,zb⟩
 ·rw[if_neg c4] at H;have cH:=decide_eq_false c4;clear c4;obtain⟨bF,cA,H⟩:=zB H;obtain⟨bG,aW⟩:∃ j_:Int,(mn a1 bF)=j_:=⟨_,rfl⟩
  replace H:(some (bE,wrap64 (bD+(bG)),bC,bB,bG))=some (r1,r2,r3,r4,r5):=by first|(rw[aW] at H;exact H)|(simp only[aW] at H ⊢;exact H)
  (try rw[aW] at A3);(try rw[aW] at cA);have eP:(if bF<a1 then bF else a1)=bG:=aW;simp only[Option.some.injEq,Prod.mk.injEq] at H;obtain⟨rfl,rfl,rfl,rfl,rfl⟩:=H;go_enter Try.func25,Try.ntmps25
  go_wp2_with (first|((with_reducible refine zgd 2 rfl ?_);refine zbx 2 #[.int .i64 aK,.int .i64 aJ,.slice bA aI.length aY,.slice aZ aH.length aX] 33 ?_;intro bW hg fO hbox hb;have aA:=zA hbox;have bZ:=zga (w:=w) hg;replace HB:=zbs hb;clear hb hbox hg)|((with_reducible refine zgd 4 rfl ?_);refine zbx 4 #[.int .i64 0,.int .i64 0,.slice none 0 0,.slice none 0 0] 33 ?_;intro bH hg fN hbox hb;have aC:=zA hbox;have bY:=zga (w:=w) hg;replace HB:=zbs hb;replace aA:=zlh aA hg hb;obtain⟨aV,aT,aA⟩:=aA;clear hb hbox hg;have fF:=aV.out;have fA:=aT.out;obtain⟨eG,eF,eE,eD,dE,dD,dC,dB⟩:=ze4 aA)|((with_reducible refine zgf 23 rfl ?_);refine zgl 8 Try.func23 #[.agg #[.int .i64 aK,.int .i64 aJ,.slice bA aI.length aY,.slice aZ aH.length aX]] ?_;(with_reducible refine(impl_Party_copied.calls aK aJ _ _ aI _ _ aH bE bD bC bB _ ?s1 ?s2 ?s3 ?s4 A3.out).mono ?_);(case s1=>exact zCb bJ);(case s2=>exact bL.out);(case s3=>exact zCb bI);(case s4=>exact bK.out);rintro e fM ⟨v644,v647,rfl,ho0,ho1,hb⟩;refine⟨_,rfl,?_⟩;have aG:=zA (Kd.R_lower ho0 (below_size zb));have aE:=zA (Kd.R_lower ho1 (below_size zb));replace aA:=zkb aA hb;replace aC:=zkb aC hb;replace HB:=zbs hb;(try clear hb);(try clear ho0);(try clear ho1))|((with_reducible refine zgd 6 rfl ?_);refine zbx 6 #[.int .i64 0,.int .i64 0,.slice none 0 0,.slice none 0 0] 33 ?_;intro bQ hg fL hbox hb;replace aG:=zRb aG hb;replace aE:=zRb aE hb;have aD:=zA hbox;have bX:=zga (w:=w) hg;replace HB:=zbs hb;replace aA:=zlh aA hg hb;obtain⟨aU,aN,aA⟩:=aA;replace aC:=zlh aC hg hb;obtain⟨aQ,aM,aC⟩:=aC;clear hb hbox hg;have fE:=aN.out;have eZ:=aU.out;have fD:=aM.out;have eY:=aQ.out;obtain⟨eC,eB,eA,dZ,dA,cZ,cY,cX⟩:=ze4 aD;obtain⟨bV,bT,cC⟩:=Kd.R_slice aG.out;subst cC;obtain⟨bU,bS,cB⟩:=Kd.R_slice aE.out;subst cB;obtain⟨dY,dX,dW,dV,cW,cV,cU,cT⟩:=ze4 aA)|((with_reducible refine zgf 50 rfl ?_);refine zgl 14 Try.func50 #[.agg #[.int .i64 aK,.int .i64 aJ,.slice bA aI.length aY,.slice aZ aH.length aX]] ?_;(with_reducible refine(impl_RoomFor.calls k aK aJ _ _ aI _ _ aH bF _ ?s1 ?s2 ?s3 ?s4 cA.out).mono ?_);(case s1=>exact Kd.C_below bJ.out zb);(case s2=>exact bL.out);(case s3=>exact Kd.C_below bI.out zb);(case s4=>exact bK.out);rintro e fK ⟨rfl,hb⟩;refine⟨_,rfl,?_⟩;replace aG:=zA (Kd.R_below (zF1 aG aD) hb);replace aE:=zA (Kd.R_below (zF1 aE aD) hb);replace aA:=zbf aA hb;replace aC:=zbf aC hb;replace aD:=zA (blk_below (g:=bQ) (o:=.cells #[.int .i64 bE,.int .i64 bD,.slice bV bC.length bT,.slice bU bB.length bS] 33 (0,0)) (zkp aD) hb);replace HB:=zbs hb;(try clear hb);obtain⟨dU,dT,dS,dR,cS,cR,cQ,cP⟩:=ze4 aD;obtain⟨dQ,dP,dO,dN,cO,cN,cM,cL⟩:=ze4 aC))
  refine bodyPost_ret (results_ct rfl _ _ bH 33 #[.int .i64 bE,.int .i64 (wrap64 (bD+(bG))),.slice bV bC.length bT,.slice bU bB.length bS] (0,0) _ rfl (zkp aC) Try.underlying33 rfl (by kernel_rfl)) rfl ?_;exact⟨_,_,by first|rfl|(simp[errW_none,errW_some] <;> rfl)|(simp only[←aW];first|rfl|(simp[errW_none,errW_some] <;> rfl))|(simp[*,errW_none,errW_some] <;> rfl),zF2 aG aD aC,zF2 aE aD aC,zb⟩

def impl_FoodAt.l0:Nat→Int→List (S73)→Int→Int→Option (Int)
  |0,_,_,_,_=>none
  |k+1,x1,x7,x8,x9=>if x9<x8 then(if 0≤x9 then(if x9<(x7.length:Int) then(if ((rd_T73 x7 x9).f0)=x1 then(some ((rd_T73 x7 x9).f1)) else(impl_FoodAt.l0 k x1 x7 x8 (wrap64 (x9+1)))) else(none)) else(none)) else(some 0)
def impl_FoodAt.f (k:Nat) (l0:List (S73)) (a1:Int):Option (Int):=impl_FoodAt.l0 k a1 l0 (l0.length:Int) 0
theorem impl_FoodAt.calls (k:Nat) (A0:Option Addr) (c0:Nat) (l0:List (S73)) (a1:Int) (r:Int) (w:World) (aN:Kd.C k73 w A0 l0.length l0) (aQ:l0.length≤c0) (h:impl_FoodAt.f k l0 a1=some r) :
  Calls Try.prog 26 #[.slice A0 l0.length c0,.int .i64 a1] w fun e w'=>e=.returned (.int .i64 r)∧Below w.heap.size w w':=by
 have hu73:=Try.underlying73;have aT:=zA aN;have bL:=zA aQ;clear aN aQ;have HB:=zA (Below.refl w.heap.size w);have H:=h;clear h;unfold impl_FoodAt.f at H;have H':=zA H;clear H;go_enter Try.func26,Try.ntmps26;go_wp2
 go_loopg [9] k (fun kq v9 w'=>∃ (aA:Int),v9=.int .i64 aA∧Aside0 (impl_FoodAt.l0 kq a1 l0 (l0.length:Int) aA=some r)∧Aside0 (kq≤k)∧Aside0 (Below w.heap.size w w'))
 case atStart=>exact⟨(0),zr,H',⟨Nat.le_refl _⟩,⟨zb⟩⟩
 case round =>
  clear H';obtain⟨aA,rfl,HA,HK1,HB⟩:=hrel
  cases gk with
  |zero=>exact absurd HA.out (by simp[impl_FoodAt.l0])
  |succ k1 =>
   have H:=HA.out;clear HA;simp only[impl_FoodAt.l0] at H
   by_cases c3:aA<(l0.length:Int)
   ·rw[if_pos c3] at H;have aY:=decide_eq_true c3;clear c3;obtain⟨bK,H⟩:=zifD H;obtain⟨bJ,H⟩:=zifD H
    by_cases c6:((rd_T73 l0 aA).f0)=a1
    ·rw[if_pos c6] at H;have aX:(((rd_T73 l0 aA).f0)==a1)=true:=beq_iff_eq.mpr c6;have aW:(((rd_T73 l0 aA).f0) != a1)=false:=bne_eq_false_iff_eq.mpr c6;clear c6;obtain rfl:=zI H;have aV:=zT (0≤(aA:Int));have aU:=zT (aA<(l0.length:Int));obtain⟨aK,aI,aD,aC⟩:=at_T73 aT.out aA zd zd;cases aI;replace aD:=zC HB aD;replace aC:=zC HB aC
     go_wp2_with (first|((with_reducible refine zgd 6 rfl ?_);refine zbx 6 #[.int .i64 0,.int .i64 0] 73 ?_;intro aJ hg w7 hbox hb;have aG:=zA hbox;have aM:=zga (w:=w) hg;replace HB:=zbs hb;clear hb hbox hg;obtain⟨bG,bF,bE,bD⟩:=ze2 aG))
     go_ret;exact⟨zE,zb⟩
    ·rw[if_neg c6] at H;have aX:(((rd_T73 l0 aA).f0)==a1)=false:=beq_eq_false_iff_ne.mpr c6;have aW:(((rd_T73 l0 aA).f0) != a1)=true:=bne_iff_ne.mpr c6;have H':=zA H;clear H;have aV:=zT (0≤(aA:Int));have aU:=zT (aA<(l0.length:Int));obtain⟨aK,aI,aD,aC⟩:=at_T73 aT.out aA zd zd;cases aI;replace aD:=zC HB aD;replace aC:=zC HB aC
     go_wp2_with (first|((with_reducible refine zgd 6 rfl ?_);refine zbx 6 #[.int .i64 0,.int .i64 0] 73 ?_;intro aJ hg w9 hbox hb;have aG:=zA hbox;have aM:=zga (w:=w) hg;replace HB:=zbs hb;clear hb hbox hg;obtain⟨bC,bB,bA,aZ⟩:=ze2 aG))
     go_roundg k1
     case measure=>have:=HK1.out;omega
     case rel=>exact⟨(wrap64 (aA+1)),zr,H',⟨by have:=HK1.out;omega⟩,⟨zb⟩⟩
   ·rw[if_neg c3] at H;have aY:=decide_eq_false c3;clear c3;obtain rfl:=zI H;go_wp2;go_ret;exact⟨zE,zb⟩

def impl_NeedOf.l0:Nat→Int→List (S76)→Int→Int→Option (Int)
  |0,_,_,_,_=>none
  |k+1,x3,x9,x10,x11=>if x11<x10 then(if 0≤x11 then(if x11<(x9.length:Int) then(impl_NeedOf.l0 k (wrap64 (x3+((rd_T76 x9 x11).f2))) x9 x10 (wrap64 (x11+1))) else(none)) else(none)) else(some x3)
def impl_NeedOf.f (k:Nat) (l0:List (S76)):Option (Int):=(impl_AreCrew.f k l0).bind fun t653=>(if t653=true then(impl_NeedOf.l0 k 0 l0 (l0.length:Int) 0) else(some 0))
theorem impl_NeedOf.calls (k:Nat) (A0:Option Addr) (c0:Nat) (l0:List (S76)) (r:Int) (w:World) (aT:Kd.C k76 w A0 l0.length l0) (aU:l0.length≤c0) (h:impl_NeedOf.f k l0=some r) :
  Calls Try.prog 11 #[.slice A0 l0.length c0] w fun e w'=>e=.returned (.int .i64 r)∧Below w.heap.size w w':=by
 have hu76:=Try.underlying76;have aK:=zA aT;have aV:=zA aU;clear aT aU;have HB:=zA (Below.refl w.heap.size w);have H:=h;clear h;unfold impl_NeedOf.f at H;obtain⟨aW,A2,H⟩:=zB H
 by_cases c3:aW=true
 ·subst c3;rw[if_pos rfl] at H;have H':=zA H;clear H;go_enter Try.func11,Try.ntmps11
  go_wp2_with (first|((with_reducible refine zgf 33 rfl ?_);refine zgl 7 Try.func33 #[.slice A0 l0.length c0] ?_;(with_reducible refine(impl_AreCrew.calls k _ _ l0 true _ ?s1 ?s2 A2.out).mono ?_);(case s1=>exact zCx aK.out);(case s2=>exact aV.out);rintro e w4 ⟨rfl,hb⟩;refine⟨_,rfl,?_⟩;replace HB:=zbs hb;(try clear hb)))
  go_loopg [3,11] k (fun kq v3 v11 w'=>∃ (aI:Int) (aA:Int),v3=.int .i64 aI∧v11=.int .i64 aA∧Aside0 (impl_NeedOf.l0 kq aI l0 (l0.length:Int) aA=some r)∧Aside0 (kq≤k)∧Aside0 (Below w.heap.size w w'))
  case atStart=>exact⟨(0),(0),zr,zr,H',⟨Nat.le_refl _⟩,⟨zb⟩⟩
  case round =>
   clear H';(try clear c3);obtain⟨aI,aA,rfl,rfl,HA,HK1,HB⟩:=hrel
   cases gk with
   |zero=>exact absurd HA.out (by simp[impl_NeedOf.l0])
   |succ k1 =>
    have H:=HA.out;clear HA;simp only[impl_NeedOf.l0] at H
    by_cases c5:aA<(l0.length:Int)
    ·rw[if_pos c5] at H;have aY:=decide_eq_true c5;clear c5;obtain⟨bO,H⟩:=zifD H;obtain⟨bN,H⟩:=zifD H;have H':=zA H;clear H;have bM:=zT (0≤(aA:Int));have bL:=zT (aA<(l0.length:Int));obtain⟨bJ,aX,aH,aG,aE,aD⟩:=at_T76 aK.out aA zd zd;cases aX;replace aH:=zC HB aH;replace aG:=zC HB aG;replace aE:=zC HB aE;replace aD:=zC HB aD
     go_wp2_with (first|((with_reducible refine zgd 5 rfl ?_);refine zbx 5 #[.int .i64 0,.int .i64 0,.int .i64 0,.bool false] 76 ?_;intro bI hg w8 hbox hb;have aN:=zA hbox;have bK:=zga (w:=w) hg;replace HB:=zbs hb;clear hb hbox hg;obtain⟨bG,bF,bE,bD,bC,bB,bA,aZ⟩:=ze4 aN))
     go_roundg k1
     case measure=>have:=HK1.out;omega
     case rel=>exact⟨(wrap64 (aI+((rd_T76 l0 aA).f2))),(wrap64 (aA+1)),zr,zr,H',⟨by have:=HK1.out;omega⟩,⟨zb⟩⟩
    ·rw[if_neg c5] at H;have aY:=decide_eq_false c5;clear c5;obtain rfl:=zI H;go_wp2;go_ret;exact⟨zE,zb⟩
 ·replace c3:=Bool.eq_false_iff.mpr c3;subst c3;rw[if_neg zNo] at H;obtain rfl:=zI H;go_enter Try.func11,Try.ntmps11
  go_wp2_with (first|((with_reducible refine zgf 33 rfl ?_);refine zgl 7 Try.func33 #[.slice A0 l0.length c0] ?_;(with_reducible refine(impl_AreCrew.calls k _ _ l0 false _ ?s1 ?s2 A2.out).mono ?_);(case s1=>exact zCx aK.out);(case s2=>exact aV.out);rintro e bP ⟨rfl,hb⟩;refine⟨_,rfl,?_⟩;replace HB:=zbs hb;(try clear hb)))
  go_ret;exact⟨zE,zb⟩

def impl_Eat.f (k:Nat) (a0_0:Int) (a0_1:Int) (l0_2:List (S76)) (l0_3:List Bool):Option (Int × Int × (List (S76)) × List Bool × Bool):=(impl_Party_copied.f a0_0 a0_1 l0_2 l0_3).bind fun bt658=>((impl_AreCrew.f k l0_2).bind fun t667=>(if t667=true then((impl_NeedOf.f k l0_2).bind fun t668=>(if a0_1<t668 then(some (bt658.1,bt658.2.1,bt658.2.2.1,bt658.2.2.2,false)) else((impl_NeedOf.f k l0_2).bind fun t669=>(some (bt658.1,wrap64 (bt658.2.1-t669),bt658.2.2.1,bt658.2.2.2,true))))) else(some (bt658.1,bt658.2.1,bt658.2.2.1,bt658.2.2.2,false))))
def impl_Eat.T2:Bool × List (List Nat × List Nat):=(true,[([],[]),([0],[0]),([1],[1]),([2],[2]),([3,2],[3]),([4],[4]),([5,4],[4,5]),([4],[4]),([7,4],[4,7]),([8,4,4],[4,8]),([6,9,4],[4,6,9]),([4,10],[4,10])])
def impl_Eat.B2:List Nat:=[0,1,3,7,15,31,63,31,159,415,1023,2047]
theorem impl_Eat.tab2:rtab .any (opsOf Try.f47 2)=impl_Eat.T2:=by kernel_rfl
theorem impl_Eat.bits2:waitsOk impl_Eat.T2.2 impl_Eat.B2=true:=by kernel_rfl
def impl_Eat.T4:Bool × List (List Nat × List Nat):=(true,[([],[]),([0],[0]),([],[]),([2],[2]),([3],[3]),([1,4],[1,4]),([0,1,2,3,4,5],[]),([6,5,4,0,1,2,3,4,5],[5,6])])
def impl_Eat.B4:List Nat:=[0,1,0,4,12,31,63,127]
theorem impl_Eat.tab4:rtab .any (opsOf Try.f47 4)=impl_Eat.T4:=by kernel_rfl
theorem impl_Eat.bits4:waitsOk impl_Eat.T4.2 impl_Eat.B4=true:=by kernel_rfl
theorem impl_Eat.calls (k:Nat) (aX:Int) (aW:Int) (aV:Option Addr) (aU:Nat) (aK:List (S76)) (aZ:Option Addr) (aY:Nat) (aT:List Bool) (r1:Int) (r2:Int) (r3:List (S76)) (r4:List Bool) (r5:Bool) (w:World) (cI:Kd.C k76 w aV aK.length aK) (cK:aK.length≤aU) (cH:Kd.C Kd.bool w aZ aT.length aT) (cJ:aT.length≤aY) (h:impl_Eat.f k aX aW aK aT=some (r1,r2,r3,r4,r5)) :
  Calls Try.prog 47 #[.agg #[.int .i64 aX,.int .i64 aW,.slice aV aK.length aU,.slice aZ aT.length aY]] w fun e w'=>∃ v2_ v3_:Value,e=.returned (.tuple #[.agg #[.int .i64 r1,.int .i64 r2,v2_,v3_],.bool r5])∧Kd.R k76 76 w' w.heap.size (fun _=>True) v2_ r3∧Kd.R Kd.bool 4 w' w.heap.size (fun _=>True) v3_ r4∧Below w.heap.size w w':=by
 have hu33:=Try.underlying33;have bG:=zA cI;have bH:=zA cK;clear cI cK;have cE:=zA cH;have cF:=zA cJ;clear cH cJ;have HB:=zA (Below.refl w.heap.size w);have H:=h;clear h;unfold impl_Eat.f at H;obtain⟨⟨aN,aM,aJ,aI⟩,A2,H⟩:=zB H;obtain⟨cQ,A3,H⟩:=zB H
 by_cases c4:cQ=true
 ·subst c4;rw[if_pos rfl] at H;obtain⟨cG,A5,H⟩:=zB H
  by_cases c6:aW<cG
  ·rw[if_pos c6] at H;have cX:=decide_eq_true c6;clear c6;simp only[Option.some.injEq,Prod.mk.injEq] at H;obtain⟨rfl,rfl,rfl,rfl,rfl⟩:=H;go_enter Try.func47,Try.ntmps47
   try go_wp2_with (first|((with_reducible refine zgd 1 rfl ?_);refine zbx 1 #[.int .i64 aX,.int .i64 aW,.slice aV aK.length aU,.slice aZ aT.length aY] 33 ?_;intro aQ hg w7 hbox hb;have aA:=zA hbox;have cN:=zga (w:=w) hg;replace HB:=zbs hb;clear hb hbox hg)|((with_reducible refine zgd 2 rfl ?_);refine zbx 2 #[.int .i64 0,.int .i64 0,.slice none 0 0,.slice none 0 0] 33 ?_;intro bM hg w8 hbox hb;have aD:=zA hbox;have cM:=zga (w:=w) hg;replace HB:=zbs hb;replace aA:=zlh aA hg hb;obtain⟨bF,bE,aA⟩:=aA;clear hb hbox hg;have hY:=bF.out;have hX:=bE.out;obtain⟨gV,gU,gT,gS,eZ,eY,eX,eW⟩:=ze4 aA)|((with_reducible refine zgf 23 rfl ?_);refine zgl 6 Try.func23 #[.agg #[.int .i64 aX,.int .i64 aW,.slice aV aK.length aU,.slice aZ aT.length aY]] ?_;(with_reducible refine(impl_Party_copied.calls aX aW _ _ aK _ _ aT aN aM aJ aI _ ?s1 ?s2 ?s3 ?s4 A2.out).mono ?_);(case s1=>exact zCb bG);(case s2=>exact bH.out);(case s3=>exact zCb cE);(case s4=>exact cF.out);rintro e iN ⟨v661,v664,rfl,ho0,ho1,hb⟩;refine⟨_,rfl,?_⟩;have aH:=zA (Kd.R_lower ho0 (below_size zb));have aG:=zA (Kd.R_lower ho1 (below_size zb));replace aA:=zkb aA hb;replace aD:=zkb aD hb;replace HB:=zbs hb;(try clear hb);(try clear ho0);(try clear ho1))|((with_reducible refine zgd 4 rfl ?_);refine zbx 4 #[.int .i64 0,.int .i64 0,.slice none 0 0,.slice none 0 0] 33 ?_;intro aC hg cD hbox hb;replace aH:=zRb aH hb;replace aG:=zRb aG hb;have aE:=zA hbox;have cL:=zga (w:=w) hg;replace HB:=zbs hb;replace aA:=zlh aA hg hb;obtain⟨bD,bB,aA⟩:=aA;replace aD:=zlh aD hg hb;obtain⟨bC,bA,aD⟩:=aD;clear hb hbox hg;have hU:=bB.out;have hM:=bD.out;have hT:=bA.out;have hL:=bC.out;obtain⟨gR,gQ,gP,gO,eV,eU,eT,eS⟩:=ze4 aE;obtain⟨bU,bQ,cW⟩:=Kd.R_slice aH.out;subst cW;obtain⟨bT,bP,cV⟩:=Kd.R_slice aG.out;subst cV))
   obtain⟨hA,hx_⟩:∃ x_,x_=(((cD.setCell ⟨aC,0,none⟩ (.int .i64 aN)).setCell ⟨aC,1,none⟩ (.int .i64 aM)).setCell ⟨aC,2,none⟩ (.slice bU aJ.length bQ)).setCell ⟨aC,3,none⟩ (.slice bT aI.length bP):=⟨_,rfl⟩;have cA:Aside0 (Kd.R k76 76 hA w.heap.size (fun _=>True) (.slice bU aJ.length bQ) aJ):=⟨by rw[hx_];exact zF1 aH aE⟩;have bZ:Aside0 (Kd.R Kd.bool 4 hA w.heap.size (fun _=>True) (.slice bT aI.length bP) aI):=⟨by rw[hx_];exact zF1 aG aE⟩;have bY:Aside0 (hA.heap[aQ]?=some (.cells #[.int .i64 aX,.int .i64 aW,.slice aV aK.length aU,.slice aZ aT.length aY] 33 (0,0))):=⟨by rw[hx_];exact zkf aA⟩;have bX:Aside0 (hA.heap[bM]?=some (.cells #[.int .i64 0,.int .i64 0,.slice none 0 0,.slice none 0 0] 33 (0,0))):=⟨by rw[hx_];exact zkf aD⟩;have bW:Aside0 (hA.heap[aC]?=some (.cells #[.int .i64 aN,.int .i64 aM,.slice bU aJ.length bQ,.slice bT aI.length bP] 33 (0,0))):=⟨by rw[hx_];exact zkp aE⟩
   have bV:Aside0 (Below w.heap.size w hA):=⟨by rw[hx_];exact zb⟩;(try clear aH aG aA aD aE HB);rw[← hx_];clear hx_;have aH:=cA;have aG:=bZ;have aA:=bY;have aD:=bX;have aE:=bW;have HB:=bV;clear cA bZ bY bX bW bV;replace aH:=zA (Kd.R_drew aH.out);replace aG:=zA (Kd.R_drew aG.out);replace aA:=zA (blk_drew aA.out);replace aD:=zA (blk_drew aD.out);replace aE:=zA (blk_drew aE.out);replace HB:=zA (below_drew1 HB.out);refine start_ (n:=12) (S:=fun w'=>w'.cell? ⟨aQ,0,none⟩=some (.int .i64 aX)∧w'.cell? ⟨aQ,1,none⟩=some (.int .i64 aW)∧w'.cell? ⟨aQ,2,none⟩=some (.slice aV aK.length aU)∧w'.cell? ⟨aQ,3,none⟩=some (.slice aZ aT.length aY)) (ds:=[]) _ (by kernel_rfl) rfl rfl ⟨zq aA 0,zq aA 1,zq aA 2,zq aA 3⟩ (fun hHeld=>?_);refine with_tabW impl_Eat.tab2 impl_Eat.bits2 (fun HT_ HW_=>?_);generalize hA.drew=iM at aH aG aA aD aE HB hHeld ⊢;refine z_p 0 ?_;refine zt 1 8 HT_ HW_ hHeld ?_;refine zo 2 9 HT_ (fun K hK=>?_);refine zgo Try.func33 #[.slice aV aK.length aU] ?_
   with_reducible refine(impl_AreCrew.calls k _ _ aK true _ ?s1 ?s2 A3.out).mono ?_
   (case s1=>exact zCb bG);(case s2=>exact bH.out);rintro e iL ⟨rfl,hb⟩;refine⟨_,rfl,?_⟩;replace aH:=zRb aH hb;replace aG:=zRb aG hb;replace aA:=zkb aA hb;replace aD:=zkb aD hb;replace aE:=zkb aE hb;replace HB:=zbs hb;(try clear hb);refine hK.out _ _ ⟨zq aA 0,zq aA 1,zq aA 2,zq aA 3⟩ (fun hHeld=>?_);clear hK K;refine norm_ zV ?_;refine z_p 3 ?_;refine z_p 4 ?_;refine z_p 5 ?_;refine z_p 7 ?_;refine zt 6 13 HT_ HW_ hHeld ?_;refine zt 8 15 HT_ HW_ hHeld ?_;refine zo 9 16 HT_ (fun K hK=>?_);refine zgo Try.func11 #[.slice aV aK.length aU] ?_
   with_reducible refine(impl_NeedOf.calls k _ _ aK cG _ ?s1 ?s2 A5.out).mono ?_
   (case s1=>exact zCb bG);(case s2=>exact bH.out);rintro e iK ⟨rfl,hb⟩;refine⟨_,rfl,?_⟩;replace aH:=zRb aH hb;replace aG:=zRb aG hb;replace aA:=zkb aA hb;replace aD:=zkb aD hb;replace aE:=zkb aE hb;replace HB:=zbs hb;(try clear hb);refine hK.out _ _ ⟨zq aA 0,zq aA 1,zq aA 2,zq aA 3⟩ (fun hHeld=>?_);clear hK K;refine norm_ zV ?_;refine z_p 10 ?_;refine z_p 11 ?_;refine done_ (done_of HT_.out (by kernel_rfl)) ?_;obtain⟨gN,gM,gL,gK,eR,eQ,eP,eO⟩:=ze4 aE;obtain⟨gJ,gI,gH,gG,eN,eM,eL,eK⟩:=ze4 aD
   try go_wp2
   refine bodyPost_ret (results_ct rfl _ _ bM 33 #[.int .i64 aN,.int .i64 aM,.slice bU aJ.length bQ,.slice bT aI.length bP] (0,0) _ rfl (zkp aD) Try.underlying33 rfl (by kernel_rfl)) rfl ?_;exact⟨_,_,zE,zF1 aH aD,zF1 aG aD,zb⟩
  ·rw[if_neg c6] at H;have cX:=decide_eq_false c6;clear c6;obtain⟨cO,hD,H⟩:=zB H;simp only[Option.some.injEq,Prod.mk.injEq] at H;obtain⟨rfl,rfl,rfl,rfl,rfl⟩:=H;go_enter Try.func47,Try.ntmps47
   try go_wp2_with (first|((with_reducible refine zgd 1 rfl ?_);refine zbx 1 #[.int .i64 aX,.int .i64 aW,.slice aV aK.length aU,.slice aZ aT.length aY] 33 ?_;intro aQ hg iJ hbox hb;have aA:=zA hbox;have cN:=zga (w:=w) hg;replace HB:=zbs hb;clear hb hbox hg)|((with_reducible refine zgd 2 rfl ?_);refine zbx 2 #[.int .i64 0,.int .i64 0,.slice none 0 0,.slice none 0 0] 33 ?_;intro bM hg iI hbox hb;have aD:=zA hbox;have cM:=zga (w:=w) hg;replace HB:=zbs hb;replace aA:=zlh aA hg hb;obtain⟨bF,bE,aA⟩:=aA;clear hb hbox hg;have hS:=bF.out;have hJ:=bE.out;obtain⟨gF,gE,gD,gC,eJ,eI,eH,eG⟩:=ze4 aA)|((with_reducible refine zgf 23 rfl ?_);refine zgl 6 Try.func23 #[.agg #[.int .i64 aX,.int .i64 aW,.slice aV aK.length aU,.slice aZ aT.length aY]] ?_;(with_reducible refine(impl_Party_copied.calls aX aW _ _ aK _ _ aT aN aM aJ aI _ ?s1 ?s2 ?s3 ?s4 A2.out).mono ?_);(case s1=>exact zCb bG);(case s2=>exact bH.out);(case s3=>exact zCb cE);(case s4=>exact cF.out);rintro e iH ⟨v661,v664,rfl,ho0,ho1,hb⟩;refine⟨_,rfl,?_⟩;have aH:=zA (Kd.R_lower ho0 (below_size zb));have aG:=zA (Kd.R_lower ho1 (below_size zb));replace aA:=zkb aA hb;replace aD:=zkb aD hb;replace HB:=zbs hb;(try clear hb);(try clear ho0);(try clear ho1))|((with_reducible refine zgd 4 rfl ?_);refine zbx 4 #[.int .i64 0,.int .i64 0,.slice none 0 0,.slice none 0 0] 33 ?_;intro aC hg cC hbox hb;replace aH:=zRb aH hb;replace aG:=zRb aG hb;have aE:=zA hbox;have cL:=zga (w:=w) hg;replace HB:=zbs hb;replace aA:=zlh aA hg hb;obtain⟨bD,bB,aA⟩:=aA;replace aD:=zlh aD hg hb;obtain⟨bC,bA,aD⟩:=aD;clear hb hbox hg;have hR:=bB.out;have hI:=bD.out;have hQ:=bA.out;have hH:=bC.out;obtain⟨gB,gA,fZ,fY,eF,eE,eD,eC⟩:=ze4 aE;obtain⟨bL,bJ,cU⟩:=Kd.R_slice aH.out;subst cU;obtain⟨bK,bI,cT⟩:=Kd.R_slice aG.out;subst cT))
   obtain⟨gZ,hx_⟩:∃ x_,x_=(((cC.setCell ⟨aC,0,none⟩ (.int .i64 aN)).setCell ⟨aC,1,none⟩ (.int .i64 aM)).setCell ⟨aC,2,none⟩ (.slice bL aJ.length bJ)).setCell ⟨aC,3,none⟩ (.slice bK aI.length bI):=⟨_,rfl⟩;have cA:Aside0 (Kd.R k76 76 gZ w.heap.size (fun _=>True) (.slice bL aJ.length bJ) aJ):=⟨by rw[hx_];exact zF1 aH aE⟩;have bZ:Aside0 (Kd.R Kd.bool 4 gZ w.heap.size (fun _=>True) (.slice bK aI.length bI) aI):=⟨by rw[hx_];exact zF1 aG aE⟩;have bY:Aside0 (gZ.heap[aQ]?=some (.cells #[.int .i64 aX,.int .i64 aW,.slice aV aK.length aU,.slice aZ aT.length aY] 33 (0,0))):=⟨by rw[hx_];exact zkf aA⟩;have bX:Aside0 (gZ.heap[bM]?=some (.cells #[.int .i64 0,.int .i64 0,.slice none 0 0,.slice none 0 0] 33 (0,0))):=⟨by rw[hx_];exact zkf aD⟩;have bW:Aside0 (gZ.heap[aC]?=some (.cells #[.int .i64 aN,.int .i64 aM,.slice bL aJ.length bJ,.slice bK aI.length bI] 33 (0,0))):=⟨by rw[hx_];exact zkp aE⟩
   have bV:Aside0 (Below w.heap.size w gZ):=⟨by rw[hx_];exact zb⟩;(try clear aH aG aA aD aE HB);rw[← hx_];clear hx_;have aH:=cA;have aG:=bZ;have aA:=bY;have aD:=bX;have aE:=bW;have HB:=bV;clear cA bZ bY bX bW bV;replace aH:=zA (Kd.R_drew aH.out);replace aG:=zA (Kd.R_drew aG.out);replace aA:=zA (blk_drew aA.out);replace aD:=zA (blk_drew aD.out);replace aE:=zA (blk_drew aE.out);replace HB:=zA (below_drew1 HB.out);refine start_ (n:=12) (S:=fun w'=>w'.cell? ⟨aQ,0,none⟩=some (.int .i64 aX)∧w'.cell? ⟨aQ,1,none⟩=some (.int .i64 aW)∧w'.cell? ⟨aQ,2,none⟩=some (.slice aV aK.length aU)∧w'.cell? ⟨aQ,3,none⟩=some (.slice aZ aT.length aY)) (ds:=[]) _ (by kernel_rfl) rfl rfl ⟨zq aA 0,zq aA 1,zq aA 2,zq aA 3⟩ (fun hHeld=>?_);refine with_tabW impl_Eat.tab2 impl_Eat.bits2 (fun HT_ HW_=>?_);generalize gZ.drew=iG at aH aG aA aD aE HB hHeld ⊢;refine z_p 0 ?_;refine zt 1 8 HT_ HW_ hHeld ?_;refine zo 2 9 HT_ (fun K hK=>?_);refine zgo Try.func33 #[.slice aV aK.length aU] ?_
   with_reducible refine(impl_AreCrew.calls k _ _ aK true _ ?s1 ?s2 A3.out).mono ?_
   (case s1=>exact zCb bG);(case s2=>exact bH.out);rintro e iF ⟨rfl,hb⟩;refine⟨_,rfl,?_⟩;replace aH:=zRb aH hb;replace aG:=zRb aG hb;replace aA:=zkb aA hb;replace aD:=zkb aD hb;replace aE:=zkb aE hb;replace HB:=zbs hb;(try clear hb);refine hK.out _ _ ⟨zq aA 0,zq aA 1,zq aA 2,zq aA 3⟩ (fun hHeld=>?_);clear hK K;refine norm_ zV ?_;refine z_p 3 ?_;refine z_p 4 ?_;refine z_p 5 ?_;refine z_p 7 ?_;refine zt 6 13 HT_ HW_ hHeld ?_;refine zt 8 15 HT_ HW_ hHeld ?_;refine zo 9 16 HT_ (fun K hK=>?_);refine zgo Try.func11 #[.slice aV aK.length aU] ?_
   with_reducible refine(impl_NeedOf.calls k _ _ aK cG _ ?s1 ?s2 A5.out).mono ?_
   (case s1=>exact zCb bG);(case s2=>exact bH.out);rintro e gY ⟨rfl,hb⟩;refine⟨_,rfl,?_⟩;replace aH:=zRb aH hb;replace aG:=zRb aG hb;replace aA:=zkb aA hb;replace aD:=zkb aD hb;replace aE:=zkb aE hb;replace HB:=zbs hb;(try clear hb);refine hK.out _ _ ⟨zq aA 0,zq aA 1,zq aA 2,zq aA 3⟩ (fun hHeld=>?_);clear hK K;refine norm_ zV ?_;refine z_p 10 ?_;refine z_p 11 ?_;refine done_ (done_of HT_.out (by kernel_rfl)) ?_
   try go_wp2
   replace aH:=zA (Kd.R_drew aH.out);replace aG:=zA (Kd.R_drew aG.out);replace aA:=zA (blk_drew aA.out);replace aD:=zA (blk_drew aD.out);replace aE:=zA (blk_drew aE.out);replace HB:=zA (below_drew1 HB.out);refine start_ (n:=8) (S:=fun w'=>w'.cell? ⟨aC,0,none⟩=some (.int .i64 aN)∧w'.cell? ⟨aC,1,none⟩=some (.int .i64 aM)∧w'.cell? ⟨aC,2,none⟩=some (.slice bL aJ.length bJ)∧w'.cell? ⟨aC,3,none⟩=some (.slice bK aI.length bI)∧w'.cell? ⟨aQ,0,none⟩=some (.int .i64 aX)∧w'.cell? ⟨aQ,1,none⟩=some (.int .i64 aW)∧w'.cell? ⟨aQ,2,none⟩=some (.slice aV aK.length aU)∧w'.cell? ⟨aQ,3,none⟩=some (.slice aZ aT.length aY)) (ds:=[7]) #[false,false,false,false,false,false,false,false] (by kernel_rfl) rfl rfl ⟨zq aE 0,zq aE 1,zq aE 2,zq aE 3,zq aA 0,zq aA 1,zq aA 2,zq aA 3⟩ (fun hHeld=>?_);refine with_tabW impl_Eat.tab4 impl_Eat.bits4 (fun HT_ HW_=>?_);generalize gY.drew=iE at aH aG aA aD aE HB hHeld ⊢;refine z_p 0 ?_;refine z_p 2 ?_;refine zt 1 21 HT_ HW_ hHeld ?_;refine zt 3 23 HT_ HW_ hHeld ?_;refine zo 4 24 HT_ (fun K hK=>?_);refine zgo Try.func11 #[.slice aV aK.length aU] ?_
   with_reducible refine(impl_NeedOf.calls k _ _ aK cO _ ?s1 ?s2 hD.out).mono ?_
   (case s1=>exact zCb bG);(case s2=>exact bH.out);rintro e gX ⟨rfl,hb⟩;refine⟨_,rfl,?_⟩;replace aH:=zRb aH hb;replace aG:=zRb aG hb;replace aA:=zkb aA hb;replace aD:=zkb aD hb;replace aE:=zkb aE hb;replace HB:=zbs hb;(try clear hb);refine hK.out _ _ ⟨zq aE 0,zq aE 1,zq aE 2,zq aE 3,zq aA 0,zq aA 1,zq aA 2,zq aA 3⟩ (fun hHeld=>?_);clear hK K;refine norm_ zV ?_;refine z_p 5 ?_;refine z_p 6 ?_;refine last_ (i:=7) (N:=none) #[true,true,true,true,true,true,true,true] rfl rfl (one_of HT_.out (by kernel_rfl)) (by decide) (fun K hK=>?_);have hW:gX.cell? ⟨aC,1,none⟩=some (.int .i64 aM):=zq aE 1;have hV:=blk_frozen aE.out 1;have dB:=bD.out;have dA:=bC.out;have dD:=bB.out;have dC:=bA.out;refine skip_ (w1:=?_) (by rfl) rfl ?_ ?_;rotate_left
   ·go_simp
    rfl
   refine hK.out _ _ ?_;clear hK K;refine done_ (done_of HT_.out (by kernel_rfl)) ?_;obtain⟨fX,fW,fV,fU,eB,eA,dZ,dY⟩:=ze4 aE;obtain⟨fT,fS,fR,fQ,dX,dW,dV,dU⟩:=ze4 aD
   try go_wp2
   refine bodyPost_ret (results_ct rfl _ _ bM 33 #[.int .i64 aN,.int .i64 (wrap64 (aM-cO)),.slice bL aJ.length bJ,.slice bK aI.length bI] (0,0) _ rfl (zkp aD) Try.underlying33 rfl (by kernel_rfl)) rfl ?_;exact⟨_,_,zE,zF2 aH aE aD,zF2 aG aE aD,zb⟩
 ·replace c4:=Bool.eq_false_iff.mpr c4;subst c4;rw[if_neg zNo] at H;simp only[Option.some.injEq,Prod.mk.injEq] at H;obtain⟨rfl,rfl,rfl,rfl,rfl⟩:=H;go_enter Try.func47,Try.ntmps47
  try go_wp2_with (first|((with_reducible refine zgd 1 rfl ?_);refine zbx 1 #[.int .i64 aX,.int .i64 aW,.slice aV aK.length aU,.slice aZ aT.length aY] 33 ?_;intro aQ hg iD hbox hb;have aA:=zA hbox;have cN:=zga (w:=w) hg;replace HB:=zbs hb;clear hb hbox hg)|((with_reducible refine zgd 2 rfl ?_);refine zbx 2 #[.int .i64 0,.int .i64 0,.slice none 0 0,.slice none 0 0] 33 ?_;intro bM hg iC hbox hb;have aD:=zA hbox;have cM:=zga (w:=w) hg;replace HB:=zbs hb;replace aA:=zlh aA hg hb;obtain⟨bF,bE,aA⟩:=aA;clear hb hbox hg;have hP:=bF.out;have hG:=bE.out;obtain⟨fP,fO,fN,fM,dT,dS,dR,dQ⟩:=ze4 aA)|((with_reducible refine zgf 23 rfl ?_);refine zgl 6 Try.func23 #[.agg #[.int .i64 aX,.int .i64 aW,.slice aV aK.length aU,.slice aZ aT.length aY]] ?_;(with_reducible refine(impl_Party_copied.calls aX aW _ _ aK _ _ aT aN aM aJ aI _ ?s1 ?s2 ?s3 ?s4 A2.out).mono ?_);(case s1=>exact zCb bG);(case s2=>exact bH.out);(case s3=>exact zCb cE);(case s4=>exact cF.out);rintro e iB ⟨v661,v664,rfl,ho0,ho1,hb⟩;refine⟨_,rfl,?_⟩;have aH:=zA (Kd.R_lower ho0 (below_size zb));have aG:=zA (Kd.R_lower ho1 (below_size zb));replace aA:=zkb aA hb;replace aD:=zkb aD hb;replace HB:=zbs hb;(try clear hb);(try clear ho0);(try clear ho1))|((with_reducible refine zgd 4 rfl ?_);refine zbx 4 #[.int .i64 0,.int .i64 0,.slice none 0 0,.slice none 0 0] 33 ?_;intro aC hg cB hbox hb;replace aH:=zRb aH hb;replace aG:=zRb aG hb;have aE:=zA hbox;have cL:=zga (w:=w) hg;replace HB:=zbs hb;replace aA:=zlh aA hg hb;obtain⟨bD,bB,aA⟩:=aA;replace aD:=zlh aD hg hb;obtain⟨bC,bA,aD⟩:=aD;clear hb hbox hg;have hO:=bB.out;have hF:=bD.out;have hN:=bA.out;have hE:=bC.out;obtain⟨fL,fK,fJ,fI,dP,dO,dN,dM⟩:=ze4 aE;obtain⟨bS,bO,cS⟩:=Kd.R_slice aH.out;subst cS;obtain⟨bR,bN,cR⟩:=Kd.R_slice aG.out;subst cR))
  obtain⟨gW,hx_⟩:∃ x_,x_=(((cB.setCell ⟨aC,0,none⟩ (.int .i64 aN)).setCell ⟨aC,1,none⟩ (.int .i64 aM)).setCell ⟨aC,2,none⟩ (.slice bS aJ.length bO)).setCell ⟨aC,3,none⟩ (.slice bR aI.length bN):=⟨_,rfl⟩;have cA:Aside0 (Kd.R k76 76 gW w.heap.size (fun _=>True) (.slice bS aJ.length bO) aJ):=⟨by rw[hx_];exact zF1 aH aE⟩;have bZ:Aside0 (Kd.R Kd.bool 4 gW w.heap.size (fun _=>True) (.slice bR aI.length bN) aI):=⟨by rw[hx_];exact zF1 aG aE⟩;have bY:Aside0 (gW.heap[aQ]?=some (.cells #[.int .i64 aX,.int .i64 aW,.slice aV aK.length aU,.slice aZ aT.length aY] 33 (0,0))):=⟨by rw[hx_];exact zkf aA⟩;have bX:Aside0 (gW.heap[bM]?=some (.cells #[.int .i64 0,.int .i64 0,.slice none 0 0,.slice none 0 0] 33 (0,0))):=⟨by rw[hx_];exact zkf aD⟩;have bW:Aside0 (gW.heap[aC]?=some (.cells #[.int .i64 aN,.int .i64 aM,.slice bS aJ.length bO,.slice bR aI.length bN] 33 (0,0))):=⟨by rw[hx_];exact zkp aE⟩
  have bV:Aside0 (Below w.heap.size w gW):=⟨by rw[hx_];exact zb⟩;(try clear aH aG aA aD aE HB);rw[← hx_];clear hx_;have aH:=cA;have aG:=bZ;have aA:=bY;have aD:=bX;have aE:=bW;have HB:=bV;clear cA bZ bY bX bW bV;replace aH:=zA (Kd.R_drew aH.out);replace aG:=zA (Kd.R_drew aG.out);replace aA:=zA (blk_drew aA.out);replace aD:=zA (blk_drew aD.out);replace aE:=zA (blk_drew aE.out);replace HB:=zA (below_drew1 HB.out);refine start_ (n:=12) (S:=fun w'=>w'.cell? ⟨aQ,0,none⟩=some (.int .i64 aX)∧w'.cell? ⟨aQ,1,none⟩=some (.int .i64 aW)∧w'.cell? ⟨aQ,2,none⟩=some (.slice aV aK.length aU)∧w'.cell? ⟨aQ,3,none⟩=some (.slice aZ aT.length aY)) (ds:=[]) _ (by kernel_rfl) rfl rfl ⟨zq aA 0,zq aA 1,zq aA 2,zq aA 3⟩ (fun hHeld=>?_);refine with_tabW impl_Eat.tab2 impl_Eat.bits2 (fun HT_ HW_=>?_);generalize gW.drew=iA at aH aG aA aD aE HB hHeld ⊢;refine z_p 0 ?_;refine zt 1 8 HT_ HW_ hHeld ?_;refine zo 2 9 HT_ (fun K hK=>?_);refine zgo Try.func33 #[.slice aV aK.length aU] ?_
  with_reducible refine(impl_AreCrew.calls k _ _ aK false _ ?s1 ?s2 A3.out).mono ?_
  (case s1=>exact zCb bG);(case s2=>exact bH.out);rintro e hZ ⟨rfl,hb⟩;refine⟨_,rfl,?_⟩;replace aH:=zRb aH hb;replace aG:=zRb aG hb;replace aA:=zkb aA hb;replace aD:=zkb aD hb;replace aE:=zkb aE hb;replace HB:=zbs hb;(try clear hb);refine hK.out _ _ ⟨zq aA 0,zq aA 1,zq aA 2,zq aA 3⟩ (fun hHeld=>?_);clear hK K;refine norm_ zV ?_;refine z_p 3 ?_;refine z_p 4 ?_;refine z_u 5 ?_;refine z_u 6 ?_;refine z_u 7 ?_;refine z_u 8 ?_;refine z_u 9 ?_;refine z_u 10 ?_;refine z_p 11 ?_;refine done_ (done_of HT_.out (by kernel_rfl)) ?_;obtain⟨fH,fG,fF,fE,dL,dK,dJ,dI⟩:=ze4 aE;obtain⟨fD,fC,fB,fA,dH,dG,dF,dE⟩:=ze4 aD
  try go_wp2
  refine bodyPost_ret (results_ct rfl _ _ bM 33 #[.int .i64 aN,.int .i64 aM,.slice bS aJ.length bO,.slice bR aI.length bN] (0,0) _ rfl (zkp aD) Try.underlying33 rfl (by kernel_rfl)) rfl ?_;exact⟨_,_,zE,zF1 aH aD,zF1 aG aD,zb⟩

def impl_AddDay.f (l0:List Bool) (a1:Bool):Option (List Bool):=(some (([]:List Bool):List Bool)).bind fun y670=>(if y670.length+l0.length<140737488355328 then((some (y670++l0:List Bool)).bind fun y673=>(if y673.length<140737488355328 then((some (([]:List Bool):List Bool)).bind fun y679=>((impl_last.f (y673++[a1]) 10).bind fun t682=>(if y679.length+t682.length<140737488355328 then(some (y679++t682)) else(none)))) else(none))) else(none))
theorem impl_AddDay.calls (A0:Option Addr) (c0:Nat) (l0:List Bool) (a1:Bool) (r:List Bool) (w:World) (bB:Kd.C Kd.bool w A0 l0.length l0) (bC:l0.length≤c0) (h:impl_AddDay.f l0 a1=some r) :
  Calls Try.prog 48 #[.slice A0 l0.length c0,.bool a1] w fun e w'=>∃ v0_:Value,e=.returned (v0_)∧Kd.R Kd.bool 4 w' w.heap.size (fun _=>True) v0_ r∧Below w.heap.size w w':=by
 have bM:=zA bB;have bT:=zA bC;clear bB bC;have HB:=zA (Below.refl w.heap.size w);have H:=h;clear h;unfold impl_AddDay.f at H;obtain⟨aJ,aU⟩:∃ y_:List Bool,y_=(([]:List Bool)):=⟨_,rfl⟩
 replace H:(if aJ.length+l0.length<140737488355328 then((some (aJ++l0:List Bool)).bind fun aG=>(if aG.length<140737488355328 then((some (([]:List Bool):List Bool)).bind fun aC=>((impl_last.f (aG++[a1]) 10).bind fun aA=>(if aC.length+aA.length<140737488355328 then(some (aC++aA)) else(none)))) else(none))) else(none))=some r:=zY aU H
 have Ny670:=zA aU;clear aU;obtain⟨bJ,H⟩:=zifA H;obtain⟨aG,aT⟩:∃ y_:List Bool,y_=(aJ++l0):=⟨_,rfl⟩
 replace H:(if aG.length<140737488355328 then((some (([]:List Bool):List Bool)).bind fun aC=>((impl_last.f (aG++[a1]) 10).bind fun aA=>(if aC.length+aA.length<140737488355328 then(some (aC++aA)) else(none)))) else(none))=some r:=zY aT H
 have Ny673:=zA aT;clear aT;obtain⟨bI,H⟩:=zifA H;obtain⟨aI,aQ⟩:∃ y_:List Bool,y_=(aG++[a1]):=⟨_,rfl⟩
 replace H:((some (([]:List Bool):List Bool)).bind fun aC=>((impl_last.f aI 10).bind fun aA=>(if aC.length+aA.length<140737488355328 then(some (aC++aA)) else(none))))=some r:=zY aQ H
 have Ny676:=zA aQ;clear aQ;obtain⟨aC,aN⟩:∃ y_:List Bool,y_=(([]:List Bool)):=⟨_,rfl⟩
 replace H:((impl_last.f aI 10).bind fun aA=>(if aC.length+aA.length<140737488355328 then(some (aC++aA)) else(none)))=some r:=zY aN H
 have Ny679:=zA aN;clear aN;obtain⟨aA,A5,H⟩:=zB H;obtain⟨bH,H⟩:=zifA H;obtain⟨bD,aM⟩:∃ y_:List Bool,y_=(aC++aA):=⟨_,rfl⟩
 replace H:(some bD)=some r:=zY aM H
 have Ny685:=zA aM;clear aM;obtain rfl:=zI H;go_enter Try.func48,Try.ntmps48
 go_wp2_with (first|((with_reducible refine zgd 6 rfl ?_);refine Kd.R_lit Kd.bool _ 4 ?hg (N:=6) ?hd (xs:=([]:List Bool)) (inner:=[]) (ok:=fun _=>True) (okp:=fun _=>True) ?hr ?hp (fun _ hk=>hk) trivial (Below.refl _ _) (Nat.le_refl _) (by simp) ?_;(case hd=>rfl);(case hg=>rfl);(case hr=>first|(go_simp;done)|(go_simp;rfl));(case hp=>exact(Reps.none _ _));intro v671 w7 ho8 hb hg_ hnew_;clear hg_ hnew_;(first|rw[←Ny670.out] at ho8|(simp only[Int.reduceToNat] at ho8;rw[←Ny670.out] at ho8));have aZ:=zA (Kd.R_lower ho8 (below_size zb));replace HB:=zbs hb;clear hb ho8)|((with_reducible refine gate_builtin (b:=.append) (xs:=#[.tmp 6,.tmp 7]) rfl ?_);at_builtin;refine Kd.R_append_rows Kd.bool (w0:=w) w.heap.size rfl (.tmp 6) (.tmp 7) 31 4 (.bool false) 1 rfl Try.underlying31 info4 rfl (by decide) (by omega) v671 aJ l0 _ _ _ (fun _=>True) (fun _=>False) rfl rfl ?aO ?aR (fun _ _ h=>h) (fun _ h=>h.elim) ?aF ?aB ?aS ?aL ?_;(case aR=>repeat (first|exact(Kd.C_below bM.out HB.out)|(with_reducible refine Kd.C_alloc ?_ _)|(with_reducible refine Kd.C_drewN ?_ _)|(with_reducible refine Kd.C_drew ?_)));(case aB=>exact zb);(case aF=>exact(fun _ _=>trivial));(case aO=>exact(zR aZ));(case aS=>exact(below_size zb));(case aL=>have:=bJ.out;omega);intro v674 w9 ho hb hg hat;rw[←Ny673.out] at ho;replace HB:=zA hb;have aY:=zA ho;clear aZ;clear ho hb hg hat)|((with_reducible refine gate_builtin (b:=.append) (xs:=#[.tmp 8,.tmp 10]) rfl ?_);at_builtin;refine Kd.R_append Kd.bool (w0:=w) w.heap.size rfl (.tmp 8) (.tmp 10) 31 4 (.bool false) 1 rfl Try.underlying31 info4 rfl (by decide) (by omega) v674 aG a1 [.bool a1] (fun _=>True) (fun _=>False) rfl rfl ?aP (fun _ hk=>hk.elim) ?aF ?aO ?aB ?aS ?aL ?_;(case aP=>exact rfl);(case aB=>exact zb);(case aF=>exact(fun _ _=>trivial));(case aO=>exact(zR aY));(case aS=>exact(below_size zb));(case aL=>have:=bI.out;omega);intro v677 bS ho hb hg hat;rw[←Ny676.out] at ho;replace HB:=zA hb;have aE:=zA ho;clear aY;clear ho hb hg hat)|((with_reducible refine zgd 12 rfl ?_);refine Kd.R_lit Kd.bool _ 4 ?hg (N:=12) ?hd (xs:=([]:List Bool)) (inner:=[]) (ok:=fun _=>True) (okp:=fun _=>True) ?hr ?hp (fun _ hk=>hk) trivial (Below.refl _ _) (Nat.le_refl _) (by simp) ?_;(case hd=>rfl);(case hg=>rfl);(case hr=>first|(go_simp;done)|(go_simp;rfl));(case hp=>exact(Reps.none _ _));intro v680 bR ho12 hb hg_ hnew_;clear hg_ hnew_;(first|rw[←Ny679.out] at ho12|(simp only[Int.reduceToNat] at ho12;rw[←Ny679.out] at ho12));have aD:=zA (Kd.R_lower (Kd.R_new' ho12 (Kd.R_lt (zR aE))) (below_size zb));replace aE:=zA (Kd.R_elder' (zR aE) (Kd.R_base ho12) hb);replace HB:=zbs hb;clear hb ho12;obtain⟨aX,aV,bF⟩:=Kd.R_slice aE.out;subst bF)|((with_reducible refine zgf 32 rfl ?_);refine zgl 14 Try.func32 #[.slice aX aI.length aV,.int .i64 10] ?_;(with_reducible refine(impl_last.calls (fun k_=>some k_=(.slice aX aI.length aV:Value).ownBlock) (.slice aX aI.length aV) aI 10 aA w _ ?s1 ?s2 A5.out).mono ?_);(case s1=>exact zb);(case s2=>exact Kd.R_tight rfl aE.out);rintro e bQ ⟨v683,rfl,ho0,hb,hkp⟩;refine⟨_,rfl,?_⟩;have aH:=zA (Kd.Q_mono (ok':=fun k_=>some k_≠(v680:Value).ownBlock) ho0 (fun k_ hk_=>Or.elim hk_ (fun hs_=>fun e_=>(((aD.out).1 k_ e_.symm).2) hs_) (fun hn_=>(Kd.fresh' (Kd.R_lt (zR aD)) k_ hn_))));replace aD:=zA (Kd.R_mono (ok':=fun k_=>some k_≠(v683:Value).ownBlock) (Kd.R_keptB (aD.out) hkp (fun k_ hk_ hs_=>(hk_.2) hs_)) (fun k_ hk_=>fun e_=>Or.elim (ho0.1 k_ e_.symm) (fun hs_=>hk_.2.1 hs_) (fun hn_=>Nat.not_le.2 hk_.2.2 hn_)));replace HB:=zA hb;clear aE;(try clear hb);(try clear hkp);(try clear ho0);obtain⟨bK,bG,bE,_⟩:=Kd.Q_slice aH.out;subst bE)|((with_reducible refine gate_builtin (b:=.append) (xs:=#[.tmp 12,.tmp 14]) rfl ?_);at_builtin;refine Kd.R_append_rows Kd.bool (w0:=w) w.heap.size rfl (.tmp 12) (.tmp 14) 31 4 (.bool false) 1 rfl Try.underlying31 info4 rfl (by decide) (by omega) v680 aC aA _ _ _ (fun k_=>some k_≠(.slice bK aA.length bG:Value).ownBlock) (fun _=>False) rfl rfl ?aO ?aR (fun _ _ h=>h) (fun _ h=>h.elim) ?aF ?aB ?aS ?aL ?_;(case aR=>repeat (first|exact(Kd.Q_reads' aH.out).2.2|(with_reducible refine Kd.C_alloc ?_ _)|(with_reducible refine Kd.C_drewN ?_ _)|(with_reducible refine Kd.C_drew ?_)));(case aB=>exact zb);(case aF=>exact(fun k_ hk=>Kd.fresh' (Kd.Q_lt (zQ aH)) k_ hk));(case aO=>exact(zR aD));(case aS=>exact(below_size zb));(case aL=>have:=bH.out;omega);intro v686 bP ho hb hg hat;rw[←Ny685.out] at ho;replace aH:=zA (Kd.Q_after (ok:=(fun _=>True)) (by(with_reducible repeat (first|apply Kd.Q_alloc|apply Kd.Q_drewN|apply Kd.Q_drew));exact Kd.Q_mono aH.out (fun _ hk=>⟨trivial,hk⟩)) hg hat);replace HB:=zA hb;have bA:=zA ho;clear aD;clear ho hb hg hat))
 go_ret;exact⟨_,zE,z_t bA,zb⟩
end Go.Proofs.Ytdnbfegkplpngaa.Q
