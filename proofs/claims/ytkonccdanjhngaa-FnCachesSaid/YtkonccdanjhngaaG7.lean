/- Walks of 17 functions of the program: each comes to what a plain function tells. -/
import Derived.Test.YtkonccdanjhngaaG0
import Derived.Test.YtkonccdanjhngaaG6
namespace Go.Proofs.Ytkonccdanjhngaa.Q
open Go.RowKit Go.Proofs.YtkonccdanjhngaaW.PrintWords Go.Proofs.YtkonccdanjhngaaW.PrintLast Go.Proofs.YtkonccdanjhngaaW.PrintMore Go.Proofs.YtkonccdanjhngaaW.Zip Go.Proofs.YtkonccdanjhngaaW.PrintWords.Kd
attribute [local go_sem] q5w q5u q6t q6s q5j q5i q5v q5t   -- for this text's walks alone
set_option linter.unusedVariables false
set_option maxHeartbeats 8000000
set_option maxRecDepth 100000
set_option linter.unusedSimpArgs false

def q3e.l0:Nat→Int→List Int→List Int→Int→Int→Int→Int→List Int→Option (List Int)
  |0,_,_,_,_,_,_,_,_=>none
  |k+1,g,c,b,h,a,d,e,f=>if a<h then(if 0≤a then(if a<(b.length:Int) then((q1r.f k d e f (rd b a)).bind fun i=>(if i=true then((q3j.f k d e f g (rd b a)).bind fun j=>(if j=1 then(if c.length<17592186044416 then(q3e.l0 k g (c++[rd b a]) b h (wrap64 (a+1)) d e f) else(none)) else(q3e.l0 k g c b h (wrap64 (a+1)) d e f))) else(q3e.l0 k g c b h (wrap64 (a+1)) d e f))) else(none)) else(none)) else((q0i.f k c).bind fun l=>(some l))
def q3e.f (k:Nat) (b:Int) (c:Int) (d:List Int) (a:Int):Option (List Int):=(q3q.f k b c d a).bind fun f=>(if f=true then((some (([wrap64 (a-b),wrap64 (a-1),wrap64 (a+1),wrap64 (a+b)]:List Int):List Int)).bind fun e=>(q3e.l0 k a (([]:List Int)) e (e.length:Int) 0 b c d)) else(some ([]:List Int)))
theorem q3e.calls (k:Nat) (aC:Int) (aI:Int) (aQ:Option Addr) (aN:Nat) (aH:List Int) (a1:Int) (r:List Int) (w:World) (bF:Kd.C (Kd.int .i64) w aQ aH.length aH) (bG:aH.length≤aN) (h:q3e.f k aC aI aH a1=some r) :
  Calls Try.prog 65 #[.agg #[.int .i64 aC,.int .i64 aI,.slice aQ aH.length aN],.int .i64 a1] w fun e w'=>∃ v0_:Value,e=.returned (v0_)∧Kd.R (Kd.int .i64) 3 w' w.heap.size (fun _=>True) v0_ r∧Below w.heap.size w w':=by
 have hu26:=Try.underlying26;have aT:=zA bF;have aU:=zA bG;clear bF bG;have HB:=zA (Below.refl w.heap.size w);have H:=h;clear h;unfold q3e.f at H;obtain⟨cK,A3,H⟩:=zB H;go_enter Try.func65,Try.ntmps65
 by_cases c4:cK=true
 ·subst c4;rw[if_pos rfl] at H;obtain⟨bB,aZ⟩:∃ y_:List Int,y_=(([]:List Int)):=⟨_,rfl⟩
  replace H:((some (([wrap64 (a1-aC),wrap64 (a1-1),wrap64 (a1+1),wrap64 (a1+aC)]:List Int):List Int)).bind fun aE=>(q3e.l0 k a1 bB aE (aE.length:Int) 0 aC aI aH))=some r:=zY aZ H
  have Ny546:=zA aZ;clear aZ;obtain⟨aE,aY⟩:∃ y_:List Int,y_=(([wrap64 (a1-aC),wrap64 (a1-1),wrap64 (a1+1),wrap64 (a1+aC)]:List Int)):=⟨_,rfl⟩
  replace H:(q3e.l0 k a1 bB aE (aE.length:Int) 0 aC aI aH)=some r:=zY aY H
  have Ny549:=zA aY;clear aY;have H':=zA H;clear H
  go_wp2_with (first|((with_reducible refine zgd 2 rfl ?_);refine zbx 2 #[.int .i64 aC,.int .i64 aI,.slice aQ aH.length aN] 26 ?_;intro bH hg w5 hbox hb;have aA:=zA hbox;have cG:=zga (w:=w) hg;replace HB:=zbs hb;clear hb hbox hg;obtain⟨bW,bV,bU,bT,bS,bR⟩:=ze3 aA)|((with_reducible refine zgf 75 rfl ?_);refine zgl 10 Try.func75 #[.agg #[.int .i64 aC,.int .i64 aI,.slice aQ aH.length aN],.int .i64 a1] ?_;(with_reducible refine(q3q.calls k aC aI _ _ aH a1 true _ ?s1 ?s2 A3.out).mono ?_);(case s1=>exact zCb aT);(case s2=>exact aU.out);rintro e w7 ⟨rfl,hb⟩;refine⟨_,rfl,?_⟩;replace aA:=zkb aA hb;replace HB:=zbs hb;(try clear hb))|((with_reducible refine zgd 12 rfl ?_);refine q5z (Kd.int .i64) _ 3 ?hg (N:=12) ?hd (xs:=([]:List Int)) (inner:=[]) (ok:=fun _=>True) (okp:=fun _=>True) ?hr ?hp (fun _ hk=>hk) trivial (Below.refl _ _) (Nat.le_refl _) (by simp) ?_;(case hd=>rfl);(case hg=>rfl);(case hr=>first|(go_simp;done)|(go_simp;rfl));(case hp=>exact(q3o.none _ _));intro v547 w8 ho9 hb hg_ hnew_;clear hg_ hnew_;(first|rw[←Ny546.out] at ho9|(simp only[Int.reduceToNat] at ho9;rw[←Ny546.out] at ho9));have aW:=z_l ho9;replace aA:=zkb aA hb;replace HB:=zbs hb;clear hb ho9;obtain⟨bP,bO,bN,bM,bL,bK⟩:=ze3 aA)|((with_reducible refine zgd 25 rfl ?_);refine q5z (Kd.int .i64) _ 3 ?hg (N:=25) ?hd (xs:=([wrap64 (a1-aC),wrap64 (a1-1),wrap64 (a1+1),wrap64 (a1+aC)]:List Int)) (inner:=[.int .i64 (wrap64 (a1-aC)),.int .i64 (wrap64 (a1-1)),.int .i64 (wrap64 (a1+1)),.int .i64 (wrap64 (a1+aC))]) (ok:=fun _=>True) (okp:=fun _=>True) ?hr ?hp (fun _ hk=>hk) trivial (Below.refl _ _) (Nat.le_refl _) (by simp) ?_;(case hd=>rfl);(case hg=>rfl);(case hr=>first|(go_simp;done)|(go_simp;rfl));(case hp=>exact(q3o.one (show Kd.M (Kd.int .i64) _ _ _ (wrap64 (a1-aC)) [.int .i64 (wrap64 (a1-aC))] from rfl) (q3o.one (show Kd.M (Kd.int .i64) _ _ _ (wrap64 (a1-1)) [.int .i64 (wrap64 (a1-1))] from rfl) (q3o.one (show Kd.M (Kd.int .i64) _ _ _ (wrap64 (a1+1)) [.int .i64 (wrap64 (a1+1))] from rfl) (q3o.one (show Kd.M (Kd.int .i64) _ _ _ (wrap64 (a1+aC)) [.int .i64 (wrap64 (a1+aC))] from rfl) (q3o.none _ _))))));intro v550 eC ho12 hb hg_ hnew_;clear hg_ hnew_;(first|rw[←Ny549.out] at ho12|(simp only[Int.reduceToNat] at ho12;rw[←Ny549.out] at ho12));have bJ:=z_l (z_n ho12 aW);replace aW:=z_e aW ho12 hb;replace aA:=zkb aA hb;replace HB:=zbs hb;clear hb ho12;obtain⟨bE,bA,cM⟩:=q0j bJ.out;subst cM))
  go_loopg [5,27] k (fun kq v5 v27 w'=>∃ (aM:List Int) (aD:Int),v27=.int .i64 aD∧q0a (q3e.l0 kq a1 aM aE (aE.length:Int) aD aC aI aH=some r)∧q0a (kq≤k)∧q0a (Kd.R (Kd.int .i64) 3 w' w.heap.size (fun k_=>some k_≠((.slice bE aE.length bA):Value).ownBlock) v5 aM)∧q0a (Kd.R (Kd.int .i64) 3 w' w.heap.size (fun k_=>some k_≠(v5:Value).ownBlock) (.slice bE aE.length bA) aE)∧q0a (w'.heap[bH]?=some (.cells #[.int .i64 aC,.int .i64 aI,(.slice aQ aH.length aN)] 26 (0,0)))∧q0a (Below w.heap.size w w'))
  case atStart=>exact⟨(bB),(0),zr,H',⟨Nat.le_refl _⟩,⟨z_2 aW⟩,⟨z_2 bJ⟩,⟨zk aA⟩,⟨zb⟩⟩
  case round =>
   clear H';(try clear c4);(try clear bP);(try clear bO);(try clear bN);(try clear bW);(try clear bV);(try clear bU);(try clear bM);(try clear bL);(try clear bK);(try clear bT);(try clear bS);(try clear bR);obtain⟨aM,aD,rfl,HA,HK1,aJ,aG,aA,HB⟩:=hrel
   cases gk with
   |zero=>exact absurd HA.out (by simp[q3e.l0])
   |succ k1 =>
    have H:=HA.out;clear HA;simp only[q3e.l0] at H
    by_cases c14:aD<(aE.length:Int)
    ·rw[if_pos c14] at H;have cB:=decide_eq_true c14;clear c14;obtain⟨dQ,H⟩:=q5b H;obtain⟨dP,H⟩:=q5b H;obtain⟨cI,bY,H⟩:=zB H;have dS:=zT (0≤(aD:Int));have dR:=zT (aD<(aE.length:Int));obtain⟨cC,cN,cO⟩:=q3r (q0b aG.out).2.2 aD zd zd;cases cN;obtain⟨dM,dL,dK,dA,cZ,cY⟩:=ze3 aA
     by_cases bI:cI=true
     ·subst bI;rw[if_pos rfl] at H;obtain⟨aV,cH,H⟩:=zB H
      by_cases c20:aV=1
      ·rw[if_pos c20] at H;have cA:(aV==1)=true:=beq_iff_eq.mpr c20;have bZ:(aV != 1)=false:=bne_eq_false_iff_eq.mpr c20;clear c20;obtain⟨cD,H⟩:=q8c H;obtain⟨bQ,aX⟩:∃ y_:List Int,y_=(aM++[rd aE aD]):=⟨_,rfl⟩
       replace H:(q3e.l0 k1 a1 bQ aE (aE.length:Int) (wrap64 (aD+1)) aC aI aH)=some r:=zY aX H
       have Ny558:=zA aX;clear aX;have H':=zA H;clear H
       go_wp2_with (first|((with_reducible refine zgf 57 rfl ?_);refine zgl 33 Try.func57 #[.agg #[.int .i64 aC,.int .i64 aI,.slice aQ aH.length aN],.int .i64 (rd aE aD)] ?_;(with_reducible refine(q1r.calls k1 aC aI _ _ aH (rd aE aD) true _ ?s1 ?s2 bY.out).mono ?_);(case s1=>exact zCb aT);(case s2=>exact aU.out);rintro e eB ⟨rfl,hb⟩;refine⟨_,rfl,?_⟩;replace aJ:=zRb aJ hb;replace aG:=zRb aG hb;replace aA:=zkb aA hb;replace HB:=zbs hb;(try clear hb);obtain⟨dJ,dI,dH,cX,cW,cV⟩:=ze3 aA)|(go_at_call 85;(with_reducible refine(q3j.calls k1 aC aI _ _ aH a1 (rd aE aD) aV _ ?s1 ?s2 cH.out).mono ?_);(case s1=>exact zCb aT);(case s2=>exact aU.out);rintro e eA ⟨rfl,hb⟩;replace aJ:=zRb aJ hb;replace aG:=zRb aG hb;replace aA:=zkb aA hb;replace HB:=zbs hb;(try clear hb))|((with_reducible refine q0t (b:=.append) (xs:=#[.tmp 41,.tmp 43]) rfl ?_);at_builtin;refine q2j (Kd.int .i64) (w0:=w) w.heap.size rfl (.tmp 41) (.tmp 43) 24 3 (.int .i64 0) 8 rfl Try.underlying24 info3 rfl (by decide) (by omega) u5 aM (rd aE aD) [.int .i64 (rd aE aD)] (fun k_=>some k_≠(.slice (some cC) aE.length bA:Value).ownBlock) (fun _=>False) rfl rfl ?aP (fun _ hk=>hk.elim) ?aF ?aO ?aB ?aS ?aL ?_;(case aP=>exact rfl);(case aB=>exact zb);(case aF=>exact(fun k_ hk=>fresh' (q7f (zR aG)) k_ hk));(case aO=>exact(zR aJ));(case aS=>exact(q0f zb));(case aL=>have:=cD.out;omega);intro v559 dZ ho hb hg hat;rw[←Ny558.out] at ho;replace aG:=zA (q4l (ok:=(fun _=>True)) (z_o aG (fun _ hk=>⟨trivial,hk⟩)) hg hat);replace aA:=zgr aA hg (q5s aJ.out aA.out (by decide));replace HB:=zA hb;have cE:=zA ho;clear aJ;clear ho hb hg hat))
       go_roundg k1
       case measure=>have:=HK1.out;omega
       case rel=>exact⟨(bQ),(wrap64 (aD+1)),zr,H',⟨by have:=HK1.out;omega⟩,⟨zR cE⟩,⟨z_2 aG⟩,⟨zk aA⟩,⟨zb⟩⟩
      ·rw[if_neg c20] at H;have cA:(aV==1)=false:=beq_eq_false_iff_ne.mpr c20;have bZ:(aV != 1)=true:=bne_iff_ne.mpr c20;have H':=zA H;clear H
       go_wp2_with (first|((with_reducible refine zgf 57 rfl ?_);refine zgl 33 Try.func57 #[.agg #[.int .i64 aC,.int .i64 aI,.slice aQ aH.length aN],.int .i64 (rd aE aD)] ?_;(with_reducible refine(q1r.calls k1 aC aI _ _ aH (rd aE aD) true _ ?s1 ?s2 bY.out).mono ?_);(case s1=>exact zCb aT);(case s2=>exact aU.out);rintro e dY ⟨rfl,hb⟩;refine⟨_,rfl,?_⟩;replace aJ:=zRb aJ hb;replace aG:=zRb aG hb;replace aA:=zkb aA hb;replace HB:=zbs hb;(try clear hb);obtain⟨dG,dF,dE,cU,cT,cS⟩:=ze3 aA)|(go_at_call 85;(with_reducible refine(q3j.calls k1 aC aI _ _ aH a1 (rd aE aD) aV _ ?s1 ?s2 cH.out).mono ?_);(case s1=>exact zCb aT);(case s2=>exact aU.out);rintro e dX ⟨rfl,hb⟩;replace aJ:=zRb aJ hb;replace aG:=zRb aG hb;replace aA:=zkb aA hb;replace HB:=zbs hb;(try clear hb)))
       go_roundg k1
       case measure=>have:=HK1.out;omega
       case rel=>exact⟨(aM),(wrap64 (aD+1)),zr,H',⟨by have:=HK1.out;omega⟩,⟨zR aJ⟩,⟨zR aG⟩,⟨zk aA⟩,⟨zb⟩⟩
     ·replace bI:=Bool.eq_false_iff.mpr bI;subst bI;rw[if_neg zNo] at H;have H':=zA H;clear H
      go_wp2_with (first|((with_reducible refine zgf 57 rfl ?_);refine zgl 33 Try.func57 #[.agg #[.int .i64 aC,.int .i64 aI,.slice aQ aH.length aN],.int .i64 (rd aE aD)] ?_;(with_reducible refine(q1r.calls k1 aC aI _ _ aH (rd aE aD) false _ ?s1 ?s2 bY.out).mono ?_);(case s1=>exact zCb aT);(case s2=>exact aU.out);rintro e dW ⟨rfl,hb⟩;refine⟨_,rfl,?_⟩;replace aJ:=zRb aJ hb;replace aG:=zRb aG hb;replace aA:=zkb aA hb;replace HB:=zbs hb;(try clear hb)))
      go_roundg k1
      case measure=>have:=HK1.out;omega
      case rel=>exact⟨(aM),(wrap64 (aD+1)),zr,H',⟨by have:=HK1.out;omega⟩,⟨zR aJ⟩,⟨zR aG⟩,⟨zk aA⟩,⟨zb⟩⟩
    ·rw[if_neg c14] at H;have cB:=decide_eq_false c14;clear c14;obtain⟨cJ,dN,H⟩:=zB H;obtain rfl:=zI H;obtain⟨bD,bC,cL⟩:=q0j aJ.out;subst cL
     go_wp2_with (first|((with_reducible refine zgf 86 rfl ?_);refine zgl 47 Try.func86 #[.slice bD aM.length bC] ?_;(with_reducible refine(q0i.calls k1 (fun k_=>some k_=(.slice bD aM.length bC:Value).ownBlock) (.slice bD aM.length bC) aM cJ w _ ?s1 ?s2 dN.out).mono ?_);(case s1=>exact zb);(case s2=>exact R_tight rfl aJ.out);rintro e dV ⟨v553,rfl,ho0,hb,hkp⟩;refine⟨_,rfl,?_⟩;replace aA:=zA (blk_kept (zk aA) hkp (fun hs_=>(fun e_=>(q5s aJ.out aA.out (by decide)) e_) hs_));have cF:=zA (q2s (ok':=fun k_=>some k_≠(.slice bE aE.length bA:Value).ownBlock) ho0 (fun k_ hk_=>Or.elim hk_ (fun hs_=>fun e_=>(((aG.out).1 k_ e_.symm)) hs_) (fun hn_=>(fresh' (q7f (zR aG)) k_ hn_))));replace aG:=zA (q2s (ok':=fun k_=>some k_≠(v553:Value).ownBlock) (R_keptB (aG.out) hkp (fun k_ hk_ hs_=>(hk_) hs_)) (fun k_ hk_=>fun e_=>Or.elim (ho0.1 k_ e_.symm) (fun hs_=>hk_.2.1 hs_) (fun hn_=>Nat.not_le.2 hk_.2.2 hn_)));replace HB:=zA hb;clear aJ;(try clear hb);(try clear hkp);(try clear ho0)))
     go_ret;exact⟨_,zE,z_t cF,zb⟩
 ·replace c4:=Bool.eq_false_iff.mpr c4;subst c4;rw[if_neg zNo] at H;obtain rfl:=zI H
  go_wp2_with (first|((with_reducible refine zgd 2 rfl ?_);refine zbx 2 #[.int .i64 aC,.int .i64 aI,.slice aQ aH.length aN] 26 ?_;intro bH hg dU hbox hb;have aA:=zA hbox;have cG:=zga (w:=w) hg;replace HB:=zbs hb;clear hb hbox hg;obtain⟨dD,dC,dB,cR,cQ,cP⟩:=ze3 aA)|((with_reducible refine zgf 75 rfl ?_);refine zgl 10 Try.func75 #[.agg #[.int .i64 aC,.int .i64 aI,.slice aQ aH.length aN],.int .i64 a1] ?_;(with_reducible refine(q3q.calls k aC aI _ _ aH a1 false _ ?s1 ?s2 A3.out).mono ?_);(case s1=>exact zCb aT);(case s2=>exact aU.out);rintro e dT ⟨rfl,hb⟩;refine⟨_,rfl,?_⟩;replace aA:=zkb aA hb;replace HB:=zbs hb;(try clear hb)))
  go_ret;exact⟨_,zE,by first|exact R_nil _ _ _ _ _|exact N_nil _ _ _ _ _|exact V_nil _ _ _ _ _|exact Q_nil _ _ _ _ _|exact S_nil _ _ _ _ _,zb⟩

mutual
def q0k.l0:Nat→List Int→List Int→Int→Int→Int→Int→List Int→Option (List Int)
  |0,_,_,_,_,_,_,_=>none
  |k+1,a,b,c,d,e,f,g=>if d<c then(if b.length<17592186044416 then(q0k.l0 k a (b++[(-1)]) c (wrap64 (d+1)) e f g) else(none)) else(q0k.l1 k b (([]:List Int)) a (a.length:Int) 0 e f g)
def q0k.l1:Nat→List Int→List Int→List Int→Int→Int→Int→Int→List Int→Option (List Int)
  |0,_,_,_,_,_,_,_,_=>none
  |k+1,c,d,b,h,a,e,f,g=>if a<h then(if 0≤a then(if a<(b.length:Int) then((q1r.f k e f g (rd b a)).bind fun i=>(if i=true then(if 0≤(rd b a) then(if (rd b a)<(c.length:Int) then(if (rd c (rd b a))<0 then(if d.length<17592186044416 then(q0k.l1 k (c.set ((rd b a):Int).toNat 0) (d++[rd b a]) b h (wrap64 (a+1)) e f g) else(none)) else(q0k.l1 k c d b h (wrap64 (a+1)) e f g)) else(none)) else(none)) else(q0k.l1 k c d b h (wrap64 (a+1)) e f g))) else(none)) else(none)) else(q0k.l2 k c d e f g)
def q0k.l2:Nat→List Int→List Int→Int→Int→List Int→Option (List Int)
  |0,_,_,_,_,_=>none
  |k+1,b,a,c,d,e=>if (a.length:Int)>0 then(if 0<(a.length:Int) then(if 1≤(a.length:Int) then((q3e.f k c d e (rd a 0)).bind fun f=>(q0k.l3 k b (a.drop (1:Int).toNat) (rd a 0) f (f.length:Int) 0 c d e)) else(none)) else(none)) else(some b)
def q0k.l3:Nat→List Int→List Int→Int→List Int→Int→Int→Int→Int→List Int→Option (List Int)
  |0,_,_,_,_,_,_,_,_,_=>none
  |k+1,c,e,d,b,f,a,g,h,i=>if a<f then(if 0≤a then(if a<(b.length:Int) then(if 0≤(rd b a) then(if (rd b a)<(c.length:Int) then(if (rd c (rd b a))<0 then(if 0≤d then(if d<(c.length:Int) then(if e.length<17592186044416 then(q0k.l3 k (c.set ((rd b a):Int).toNat (wrap64 ((rd c d)+1))) (e++[rd b a]) d b f (wrap64 (a+1)) g h i) else(none)) else(none)) else(none)) else(q0k.l3 k c e d b f (wrap64 (a+1)) g h i)) else(none)) else(none)) else(none)) else(none)) else(q0k.l2 k c e g h i)
end
def q0k.f (k:Nat) (b:Int) (c:Int) (a:List Int) (d:List Int):Option (List Int):=q0k.l0 k d (([]:List Int)) (a.length:Int) 0 b c a
theorem q0k.calls (k:Nat) (aK:Int) (aJ:Int) (aV:Option Addr) (aU:Nat) (aE:List Int) (A1:Option Addr) (c1:Nat) (l1:List Int) (r:List Int) (w:World) (dC:Kd.C (Kd.int .i64) w aV aE.length aE) (dD:aE.length≤aU) (fF:Kd.C (Kd.int .i64) w A1 l1.length l1) (fG:l1.length≤c1) (h:q0k.f k aK aJ aE l1=some r) :
  Calls Try.prog 64 #[.agg #[.int .i64 aK,.int .i64 aJ,.slice aV aE.length aU],.slice A1 l1.length c1] w fun e w'=>∃ v0_:Value,e=.returned (v0_)∧Kd.R (Kd.int .i64) 3 w' w.heap.size (fun _=>True) v0_ r∧Below w.heap.size w w':=by
 have hu26:=Try.underlying26;have bQ:=zA dC;have bS:=zA dD;clear dC dD;have fV:=zA fF;have gY:=zA fG;clear fF fG;have HB:=zA (Below.refl w.heap.size w);have H:=h;clear h;unfold q0k.f at H;obtain⟨dZ,cO⟩:∃ y_:List Int,y_=(([]:List Int)):=⟨_,rfl⟩
 replace H:(q0k.l0 k l1 dZ (aE.length:Int) 0 aK aJ aE)=some r:=zY cO H
 have Ny562:=zA cO;clear cO;have H':=zA H;clear H;go_enter Try.func64,Try.ntmps64
 go_wp2_with (first|((with_reducible refine zgd 2 rfl ?_);refine zbx 2 #[.int .i64 aK,.int .i64 aJ,.slice aV aE.length aU] 26 ?_;intro bO hg w3 hbox hb;have aA:=zA hbox;have gE:=zga (w:=w) hg;replace HB:=zbs hb;clear hb hbox hg)|((with_reducible refine zgd 12 rfl ?_);refine q5z (Kd.int .i64) _ 3 ?hg (N:=12) ?hd (xs:=([]:List Int)) (inner:=[]) (ok:=fun _=>True) (okp:=fun _=>True) ?hr ?hp (fun _ hk=>hk) trivial (Below.refl _ _) (Nat.le_refl _) (by simp) ?_;(case hd=>rfl);(case hg=>rfl);(case hr=>first|(go_simp;done)|(go_simp;rfl));(case hp=>exact(q3o.none _ _));intro v563 w4 ho5 hb hg_ hnew_;clear hg_ hnew_;(first|rw[←Ny562.out] at ho5|(simp only[Int.reduceToNat] at ho5;rw[←Ny562.out] at ho5));have fC:=z_l ho5;replace aA:=zkb aA hb;replace HB:=zbs hb;clear hb ho5;obtain⟨bL,bK,bJ,bI,bH,bG⟩:=ze3 aA))
 go_loopg [5,16] k (fun kq v5 v16 w'=>∃ (bD:List Int) (aZ:Int),v16=.int .i64 aZ∧q0a (q0k.l0 kq l1 bD (aE.length:Int) aZ aK aJ aE=some r)∧q0a (kq≤k)∧q0a (Kd.R (Kd.int .i64) 3 w' w.heap.size (fun _=>True) v5 bD)∧q0a (w'.heap[bO]?=some (.cells #[.int .i64 aK,.int .i64 aJ,(.slice aV aE.length aU)] 26 (0,0)))∧q0a (Below w.heap.size w w'))
 case atStart=>exact⟨(dZ),(0),zr,H',⟨Nat.le_refl _⟩,⟨zR fC⟩,⟨zk aA⟩,⟨zb⟩⟩
 case round =>
  clear H';(try clear c1);(try clear bL);(try clear bK);(try clear bJ);(try clear bI);(try clear bH);(try clear bG);obtain⟨bD,aZ,rfl,HA,HK1,aC,aA,HB⟩:=hrel
  cases gk with
  |zero=>exact absurd HA.out (by simp[q0k.l0])
  |succ k1 =>
   have H:=HA.out;clear HA;simp only[q0k.l0] at H
   by_cases c7:aZ<(aE.length:Int)
   ·rw[if_pos c7] at H;have cR:=decide_eq_true c7;clear c7;obtain⟨fS,H⟩:=q8c H;obtain⟨dY,cN⟩:∃ y_:List Int,y_=(bD++[(-1)]):=⟨_,rfl⟩
    replace H:(q0k.l0 k1 l1 dY (aE.length:Int) (wrap64 (aZ+1)) aK aJ aE)=some r:=zY cN H
    have Ny565:=zA cN;clear cN;have H':=zA H;clear H
    go_wp2_with (first|((with_reducible refine q0t (b:=.append) (xs:=#[.tmp 18,.tmp 19]) rfl ?_);at_builtin;refine q2j (Kd.int .i64) (w0:=w) w.heap.size rfl (.tmp 18) (.tmp 19) 24 3 (.int .i64 0) 8 rfl Try.underlying24 info3 rfl (by decide) (by omega) u5 bD (-1) [.int .i64 (-1)] (fun _=>True) (fun _=>False) rfl rfl ?aP (fun _ hk=>hk.elim) ?aF ?aO ?aB ?aS ?aL ?_;(case aP=>exact rfl);(case aB=>exact zb);(case aF=>exact(fun _ _=>trivial));(case aO=>exact(zR aC));(case aS=>exact(q0f zb));(case aL=>have:=fS.out;omega);intro v566 w9 ho hb hg hat;rw[←Ny565.out] at ho;replace aA:=zgr aA hg (q5s aC.out aA.out (by decide));replace HB:=zA hb;have fB:=zA ho;clear aC;clear ho hb hg hat))
    go_roundg k1
    case measure=>have:=HK1.out;omega
    case rel=>exact⟨(dY),(wrap64 (aZ+1)),zr,H',⟨by have:=HK1.out;omega⟩,⟨zR fB⟩,⟨zk aA⟩,⟨zb⟩⟩
   ·rw[if_neg c7] at H;have cR:=decide_eq_false c7;clear c7;obtain⟨dX,cM⟩:∃ y_:List Int,y_=(([]:List Int)):=⟨_,rfl⟩
    replace H:(q0k.l1 k1 bD dX l1 (l1.length:Int) 0 aK aJ aE)=some r:=zY cM H
    have Ny568:=zA cM;clear cM;have H':=zA H;clear H
    go_wp2_with (first|((with_reducible refine zgd 22 rfl ?_);refine q5z (Kd.int .i64) _ 3 ?hg (N:=22) ?hd (xs:=([]:List Int)) (inner:=[]) (ok:=fun _=>True) (okp:=fun _=>True) ?hr ?hp (fun _ hk=>hk) trivial (Below.refl _ _) (Nat.le_refl _) (by simp) ?_;(case hd=>rfl);(case hg=>rfl);(case hr=>first|(go_simp;done)|(go_simp;rfl));(case hp=>exact(q3o.none _ _));intro v569 gX ho11 hb hg_ hnew_;clear hg_ hnew_;(first|rw[←Ny568.out] at ho11|(simp only[Int.reduceToNat] at ho11;rw[←Ny568.out] at ho11));have fA:=z_l (z_n ho11 aC);replace aC:=z_e aC ho11 hb;replace aA:=zkb aA hb;replace HB:=zbs hb;clear hb ho11))
    go_loopg [6,25] k1 (fun kq v6 v25 w'=>∃ (aT:List Int) (aX:List Int) (aD:Int),v25=.int .i64 aD∧q0a (q0k.l1 kq aT aX l1 (l1.length:Int) aD aK aJ aE=some r)∧q0a (kq≤k1)∧q0a (Kd.R (Kd.int .i64) 3 w' w.heap.size (fun k_=>some k_≠(v6:Value).ownBlock) u5 aT)∧q0a (Kd.Q (Kd.int .i64) 3 w' w.heap.size (fun k_=>some k_≠(u5:Value).ownBlock) v6 aX)∧q0a (w'.heap[bO]?=some (.cells #[.int .i64 aK,.int .i64 aJ,(.slice aV aE.length aU)] 26 (0,0)))∧q0a (Below w.heap.size w w'))
    case atStart=>exact⟨(bD),(dX),(0),zr,H',⟨Nat.le_refl _⟩,⟨z_2 aC⟩,⟨q7t (z_2 fA)⟩,⟨zk aA⟩,⟨zb⟩⟩
    case round =>
     clear H';(try clear c1);(try clear c7);(try clear cR);(try clear c8);(try clear bL);(try clear bK);(try clear bJ);(try clear bI);(try clear bH);(try clear bG);obtain⟨aT,aX,aD,rfl,HA,HK2,aC,aM,aA,HB⟩:=hrel
     cases gk with
     |zero=>exact absurd HA.out (by simp[q0k.l1])
     |succ k2 =>
      have H:=HA.out;clear HA;simp only[q0k.l1] at H
      by_cases c12:aD<(l1.length:Int)
      ·rw[if_pos c12] at H;have cT:=decide_eq_true c12;clear c12;obtain⟨dL,H⟩:=q5b H;obtain⟨dK,H⟩:=q5b H;obtain⟨fH,eM,H⟩:=zB H;have eE:=zT (0≤(aD:Int));have eC:=zT (aD<(l1.length:Int));obtain⟨gD,fR,bB⟩:=q3r fV.out aD zd zd;cases fR;replace bB:=zC HB bB;obtain⟨cB,cA,bZ,bY,bX,bW⟩:=ze3 aA
       by_cases cC:fH=true
       ·subst cC;rw[if_pos rfl] at H;obtain⟨dJ,H⟩:=q5b H;obtain⟨dI,H⟩:=q5b H
        by_cases c19:(rd aT (rd l1 aD))<0
        ·rw[if_pos c19] at H;have cS:=decide_eq_true c19;clear c19;obtain⟨cE,cL⟩:∃ y_:List Int,y_=(aT.set ((rd l1 aD):Int).toNat 0):=⟨_,rfl⟩
         replace H:(if aX.length<17592186044416 then(q0k.l1 k2 cE (aX++[rd l1 aD]) l1 (l1.length:Int) (wrap64 (aD+1)) aK aJ aE) else(none))=some r:=zY cL H
         have Ny574:=zA cL;clear cL;obtain⟨eX,H⟩:=q8c H;obtain⟨dW,cK⟩:∃ y_:List Int,y_=(aX++[rd l1 aD]):=⟨_,rfl⟩
         replace H:(q0k.l1 k2 cE dW l1 (l1.length:Int) (wrap64 (aD+1)) aK aJ aE)=some r:=zY cK H
         have Ny575:=zA cK;clear cK;have H':=zA H;clear H
         go_wp2_with (first|((with_reducible refine zgf 57 rfl ?_);refine zgl 31 Try.func57 #[.agg #[.int .i64 aK,.int .i64 aJ,.slice aV aE.length aU],.int .i64 (rd l1 aD)] ?_;(with_reducible refine(q1r.calls k2 aK aJ _ _ aE (rd l1 aD) true _ ?s1 ?s2 eM.out).mono ?_);(case s1=>exact zCb bQ);(case s2=>exact bS.out);rintro e fE ⟨rfl,hb⟩;refine⟨_,rfl,?_⟩;replace aC:=zRb aC hb;replace aM:=z_q aM hb;replace aA:=zkb aA hb;replace HB:=zbs hb;(try clear hb);obtain⟨gR,cQ,fM⟩:=q0j aC.out;subst fM;have cY:=zT (0≤((rd l1 aD):Int));have cX:=zT ((rd l1 aD)<(aT.length:Int));obtain⟨eV,dA,bA⟩:=q3r (q0b aC.out).2.2 (rd l1 aD) zd zd;cases dA;have bV:0≤((rd l1 aD):Int):=zd;have bU:((rd l1 aD):Int)<((aT.length:Int):Int):=zd;obtain⟨go20,gN,eJ,eH,gl20,cl20,HG20⟩:=q8z aC.out (by omega);(first|cases eJ|(injection eJ with ea_ en_ ec_;(first|subst ea_|(injection ea_ with ea_;subst ea_));subst ec_;clear en_));have GB20:=zA eH;have GG20:=zA HG20;clear eH gl20 HG20;(first|simp only[add_plain] at bA|skip);obtain⟨cV,hf20_0⟩:=q7g 0 aC.out ((rd l1 aD):Int) bV bU;replace bV:=eq_true bV;replace bU:=eq_true bU;obtain⟨hy25_,hz25_⟩:=q7g 0 aC.out ((rd l1 aD):Int) zd zd;have HP25:=q9u aC.out ((rd l1 aD):Int) 0)|((with_reducible refine q6n (t:=3) (p:=41) rfl ?_);refine q6a (t:=3) (p:=41) (v:=?vo_w26) (w1:=(fE.setCell ⟨go20,((rd l1 aD):Int).toNat,none⟩ (.int .i64 0))) ?hg ?ho ?hn ?hr ?_;(case ho=>rfl);(case hg=>rfl);(case hn=>rfl);(case hr=>first|(go_simp;done)|(go_simp;rfl));intro eB hw;have hg:fE.grownBy eB (some go20):=(by rw[hw];exact HP25.2);have hp_:Kd.R (Kd.int .i64) 3 eB w.heap.size (fun k_=>some k_≠(u6:Value).ownBlock) (.slice (some ⟨go20,0,none⟩) aT.length cQ) cE:=(by rw[hw,Ny574.out];exact HP25.1);clear HP25;replace aM:=zA (Q_after (v:=(.slice (some ⟨go20,0,none⟩) aT.length cQ)) (v1:=(.slice (some ⟨go20,0,none⟩) aT.length cQ)) (ok:=(fun _=>True)) (by(with_reducible repeat (first|apply q8t|apply q8s|apply q7e));exact q6p aM.out (fun _ hk=>⟨trivial,hk⟩)) hg (.inl rfl));replace aA:=zgr aA hg (q5s aC.out aA.out (by decide));replace aC:=zA hp_;replace HB:=zA ((by rw[hw];exact q3y (HB.out) GB20.out:Below w.heap.size w eB));clear hg hw hp_)|((with_reducible refine q0t (b:=.append) (xs:=#[.tmp 42,.tmp 44]) rfl ?_);at_builtin;refine Q_append (Kd.int .i64) (w0:=w) w.heap.size rfl (.tmp 42) (.tmp 44) 24 3 (.int .i64 0) 8 rfl Try.underlying24 info3 rfl (by decide) (by omega) u6 aX (rd l1 aD) [.int .i64 (rd l1 aD)] (fun k_=>some k_≠(.slice (some ⟨go20,0,none⟩) aT.length cQ:Value).ownBlock) (fun _=>False) rfl rfl ?aP (fun _ hk=>hk.elim) ?aF ?aO ?aB ?aS ?aL ?_;(case aP=>exact rfl);(case aB=>exact zb);(case aF=>exact(fun k_ hk=>fresh' (q7f (zR aC)) k_ hk));(case aO=>exact(by(with_reducible repeat (first|apply q8t|apply q8s|apply q7e));exact q6p aM.out (fun _ hk=>hk.2)));(case aS=>exact(q0f zb));(case aL=>have:=eX.out;omega);intro v576 gW ho hb hg hat;rw[←Ny575.out] at ho;replace aC:=zA (q4l (ok:=(fun _=>True)) (z_o aC (fun _ hk=>⟨trivial,hk⟩)) hg hat);replace aA:=zgr aA hg (Q_ne aM.out aA.out (by decide));replace HB:=zA hb;have eZ:=zA ho;clear aM;clear ho hb hg hat))
         go_roundg k2
         case measure=>have:=HK1.out;have:=HK2.out;omega
         case rel=>exact⟨(cE),(dW),(wrap64 (aD+1)),zr,H',⟨by have:=HK1.out;have:=HK2.out;omega⟩,⟨z_2 aC⟩,⟨zQ eZ⟩,⟨zk aA⟩,⟨zb⟩⟩
        ·rw[if_neg c19] at H;have cS:=decide_eq_false c19;clear c19;have H':=zA H;clear H
         go_wp2_with (first|((with_reducible refine zgf 57 rfl ?_);refine zgl 31 Try.func57 #[.agg #[.int .i64 aK,.int .i64 aJ,.slice aV aE.length aU],.int .i64 (rd l1 aD)] ?_;(with_reducible refine(q1r.calls k2 aK aJ _ _ aE (rd l1 aD) true _ ?s1 ?s2 eM.out).mono ?_);(case s1=>exact zCb bQ);(case s2=>exact bS.out);rintro e gV ⟨rfl,hb⟩;refine⟨_,rfl,?_⟩;replace aC:=zRb aC hb;replace aM:=z_q aM hb;replace aA:=zkb aA hb;replace HB:=zbs hb;(try clear hb);obtain⟨gQ,gM,fL⟩:=q0j aC.out;subst fL;have cY:=zT (0≤((rd l1 aD):Int));have cX:=zT ((rd l1 aD)<(aT.length:Int));obtain⟨eV,dA,bA⟩:=q3r (q0b aC.out).2.2 (rd l1 aD) zd zd;cases dA))
         go_roundg k2
         case measure=>have:=HK1.out;have:=HK2.out;omega
         case rel=>exact⟨(aT),(aX),(wrap64 (aD+1)),zr,H',⟨by have:=HK1.out;have:=HK2.out;omega⟩,⟨zR aC⟩,⟨zQ aM⟩,⟨zk aA⟩,⟨zb⟩⟩
       ·replace cC:=Bool.eq_false_iff.mpr cC;subst cC;rw[if_neg zNo] at H;have H':=zA H;clear H
        go_wp2_with (first|((with_reducible refine zgf 57 rfl ?_);refine zgl 31 Try.func57 #[.agg #[.int .i64 aK,.int .i64 aJ,.slice aV aE.length aU],.int .i64 (rd l1 aD)] ?_;(with_reducible refine(q1r.calls k2 aK aJ _ _ aE (rd l1 aD) false _ ?s1 ?s2 eM.out).mono ?_);(case s1=>exact zCb bQ);(case s2=>exact bS.out);rintro e gU ⟨rfl,hb⟩;refine⟨_,rfl,?_⟩;replace aC:=zRb aC hb;replace aM:=z_q aM hb;replace aA:=zkb aA hb;replace HB:=zbs hb;(try clear hb)))
        go_roundg k2
        case measure=>have:=HK1.out;have:=HK2.out;omega
        case rel=>exact⟨(aT),(aX),(wrap64 (aD+1)),zr,H',⟨by have:=HK1.out;have:=HK2.out;omega⟩,⟨zR aC⟩,⟨zQ aM⟩,⟨zk aA⟩,⟨zb⟩⟩
      ·rw[if_neg c12] at H;have cT:=decide_eq_false c12;clear c12;have H':=zA H;clear H;go_wp2
       go_loopg [6] k2 (fun kq v6 w'=>∃ (bT:List Int) (aI:List Int),q0a (q0k.l2 kq bT aI aK aJ aE=some r)∧q0a (kq≤k2)∧q0a (Kd.R (Kd.int .i64) 3 w' w.heap.size (fun k_=>some k_≠(v6:Value).ownBlock) u5 bT)∧q0a (Kd.Q (Kd.int .i64) 3 w' w.heap.size (fun k_=>some k_≠(u5:Value).ownBlock) v6 aI)∧q0a (w'.heap[bO]?=some (.cells #[.int .i64 aK,.int .i64 aJ,(.slice aV aE.length aU)] 26 (0,0)))∧q0a (Below w.heap.size w w'))
       case atStart=>exact⟨(aT),(aX),H',⟨Nat.le_refl _⟩,⟨zR aC⟩,⟨zQ aM⟩,⟨zk aA⟩,⟨zb⟩⟩
       case round =>
        clear H';(try clear c1);(try clear c7);(try clear cR);(try clear c8);(try clear c12);(try clear cT);(try clear c13);(try clear dL);(try clear c14);(try clear dK);(try clear cC);(try clear c17);(try clear dJ);(try clear c18);(try clear dI);(try clear c19);(try clear cS);(try clear bV);(try clear bU);(try clear c21);(try clear cB);(try clear cA);(try clear bZ);(try clear bL);(try clear bK);(try clear bJ);(try clear bY);(try clear bX);(try clear bW);(try clear bI);(try clear bH);(try clear bG);(try clear cV);(try clear bB);(try clear bA);(try clear bV);(try clear eE);(try clear cY);(try clear bU);(try clear eC);(try clear cX);obtain⟨bT,aI,HA,HK3,aC,aM,aA,HB⟩:=hrel
        cases gk with
        |zero=>exact absurd HA.out (by simp[q0k.l2])
        |succ k3 =>
         have H:=HA.out;clear HA;simp only[q0k.l2] at H;obtain⟨gP,cP,fK,_⟩:=q7h aM.out;subst fK
         by_cases c33:(aI.length:Int)>0
         ·rw[if_pos c33] at H;have dH:decide (0<(aI.length:Int))=true:=decide_eq_true c33;have dG:decide (0<aI.length)=true:=decide_eq_true (by omega);clear c33;obtain⟨eK,H⟩:=zif H;have eS:=decide_eq_true eK;have eR:decide (0<aI.length)=true:=decide_eq_true (by omega);clear eK;obtain⟨dF,H⟩:=zif H;have eQ:=eq_true dF;have eP:=decide_eq_true dF;clear dF;obtain⟨bC,cJ⟩:∃ y_:List Int,y_=(aI.drop (1:Int).toNat):=⟨_,rfl⟩
          replace H:((q3e.f k3 aK aJ aE (rd aI 0)).bind fun aG=>(q0k.l3 k3 bT bC (rd aI 0) aG (aG.length:Int) 0 aK aJ aE))=some r:=zY cJ H
          have Ny579:=zA cJ;clear cJ;obtain⟨aG,fW,H⟩:=zB H;have H':=zA H;clear H;have cG:0≤(0:Int):=(by omega);have cF:0<(aI.length:Int):=zd;obtain⟨bM,fQ,bN⟩:=q3r (q2q aM.out).2.2 0 cG cF;cases fQ;have qi578:(0<aI.length)=True:=eq_true (by omega);(try rw[show ((0:Int)).toNat=0 from rfl] at bN);(try rw[Addr.add_zero'] at bN);replace cG:=eq_true cG;replace cF:=eq_true cF;have cU:(1:Int)≤((aI.length:Int):Int):=zd;obtain⟨i038,hi038,_,hsz38,_⟩:=info_parts info3;have hcut38:=q9j (P:=Try.prog) 24 3 .i64 Try.underlying24 hi038 1 hsz38 (some bM) aI.length cP 1 (by omega) cU;have hr38:=Q_drop (k:=(1:Int).toNat) aM.out (by omega);obtain⟨eL,hA38⟩:∃ A1,A1=(if cP=(1:Int).toNat then(some bM) else((some bM):Option Addr).map (·.add ((1:Int).toNat * 1))):=⟨_,rfl⟩;obtain⟨dE,hc38⟩:∃ c1,c1=cP-(1:Int).toNat:=⟨_,rfl⟩;have cZ:bC.length=aI.length-(1:Int).toNat:=(by rw[Ny579.out,List.length_drop]);rw[←Ny579.out] at hr38;rw[←cZ,←hA38,←hc38] at hcut38;replace hr38:Kd.Q (Kd.int .i64) 3 wr w.heap.size (fun k_=>some k_≠(u5:Value).ownBlock) (.slice eL bC.length dE) bC:=(by rw[hA38,hc38,cZ];exact hr38);have HE38:q0a ((Value.slice eL bC.length dE).ownBlock=(.slice (some bM) aI.length cP:Value).ownBlock):=⟨by rw[hA38];split <;> (cases ((some bM):Option Addr) <;> rfl)⟩;clear cZ hi038 hsz38 aM hA38 hc38;have bR:=zA hr38;clear hr38;replace cU:=eq_true cU;have n_:=zA (q2s (ok':=fun k_=>some k_≠(.slice eL bC.length dE:Value).ownBlock) aC.out (fun k_ hk=>(by rw[HE38.out];exact hk)));clear aC;have aC:=n_;clear n_;obtain⟨dU,dT,dS,dR,dQ,dP⟩:=ze3 aA
          go_wp2_with (first|((with_reducible refine zgf 65 rfl ?_);refine zgl 57 Try.func65 #[.agg #[.int .i64 aK,.int .i64 aJ,.slice aV aE.length aU],.int .i64 (rd aI 0)] ?_;(with_reducible refine(q3e.calls k3 aK aJ _ _ aE (rd aI 0) aG _ ?s1 ?s2 fW.out).mono ?_);(case s1=>exact zCb bQ);(case s2=>exact bS.out);rintro e gT ⟨v583,rfl,ho0,hb⟩;refine⟨_,rfl,?_⟩;have dM:=zA (q3f (q5y (z_n ho0 aC) (Q_lt (zQ bR))) (q0f zb));replace aC:=z_e aC ho0 hb;replace bR:=zA (q7b (zQ bR) (q5f ho0) hb);replace aA:=zkb aA hb;replace HB:=zbs hb;(try clear hb);(try clear ho0);obtain⟨dB,bF,fJ⟩:=q0j dM.out;subst fJ))
          go_loopg [6,59] k3 (fun kq v6 v59 w'=>∃ (aQ:List Int) (aY:List Int) (aH:Int),v59=.int .i64 aH∧q0a (q0k.l3 kq aQ aY (rd aI 0) aG (aG.length:Int) aH aK aJ aE=some r)∧q0a (kq≤k3)∧q0a (Kd.R (Kd.int .i64) 3 w' w.heap.size (fun k_=>some k_≠(v6:Value).ownBlock∧some k_≠((.slice dB aG.length bF):Value).ownBlock) u5 aQ)∧q0a (Kd.Q (Kd.int .i64) 3 w' w.heap.size (fun k_=>some k_≠(u5:Value).ownBlock∧some k_≠((.slice dB aG.length bF):Value).ownBlock) v6 aY)∧q0a (Kd.R (Kd.int .i64) 3 w' w.heap.size (fun k_=>some k_≠(u5:Value).ownBlock∧some k_≠(v6:Value).ownBlock) (.slice dB aG.length bF) aG)∧q0a (w'.heap[bO]?=some (.cells #[.int .i64 aK,.int .i64 aJ,(.slice aV aE.length aU)] 26 (0,0)))∧q0a (Below w.heap.size w w'))
          case atStart=>exact⟨(bT),(bC),(0),zr,H',⟨Nat.le_refl _⟩,⟨zR aC⟩,⟨zQ bR⟩,⟨z_o dM (fun _ hk=>⟨hk.1.2,hk.2⟩)⟩,⟨zk aA⟩,⟨zb⟩⟩
          case round =>
           clear H';(try clear c1);(try clear c7);(try clear cR);(try clear c8);(try clear c12);(try clear cT);(try clear c13);(try clear dL);(try clear c14);(try clear dK);(try clear cC);(try clear c17);(try clear dJ);(try clear c18);(try clear dI);(try clear c19);(try clear cS);(try clear bV);(try clear bU);(try clear c21);(try clear c33);(try clear dH);(try clear dG);(try clear eK);(try clear eS);(try clear eR);(try clear dF);(try clear eQ);(try clear eP);(try clear dE);(try clear cU);(try clear cB);(try clear cA);(try clear bZ);(try clear dU);(try clear dT);(try clear dS);(try clear bL);(try clear bK);(try clear bJ);(try clear bY);(try clear bX);(try clear bW);(try clear dR);(try clear dQ);(try clear dP);(try clear bI);(try clear bH);(try clear bG);(try clear cV);(try clear bB);(try clear bA);(try clear bN);(try clear bV);(try clear eE);(try clear cY);(try clear cG);(try clear bU);(try clear cU);(try clear eC);(try clear cX);(try clear cF);obtain⟨aQ,aY,aH,rfl,HA,HK4,aC,aM,aW,aA,HB⟩:=hrel
           cases gk with
           |zero=>exact absurd HA.out (by simp[q0k.l3])
           |succ k4 =>
            have H:=HA.out;clear HA;simp only[q0k.l3] at H
            by_cases c42:aH<(aG.length:Int)
            ·rw[if_pos c42] at H;have eO:=decide_eq_true c42;clear c42;obtain⟨gC,H⟩:=q5b H;obtain⟨gB,H⟩:=q5b H;obtain⟨gA,H⟩:=q5b H;obtain⟨fZ,H⟩:=q5b H;have gK:=zT (0≤(aH:Int));have gH:=zT (aH<(aG.length:Int));obtain⟨bP,fP,fT⟩:=q3r (q0b aW.out).2.2 aH zd zd;cases fP;obtain⟨gO,bE,fI⟩:=q0j aC.out;subst fI;have gJ:=zT (0≤((rd aG aH):Int));have gG:=zT ((rd aG aH)<(aQ.length:Int));obtain⟨eU,fO,dO⟩:=q3r (q0b aC.out).2.2 (rd aG aH) zd zd;cases fO
             by_cases c47:(rd aQ (rd aG aH))<0
             ·rw[if_pos c47] at H;have eN:=decide_eq_true c47;clear c47;obtain⟨fY,H⟩:=q5b H;obtain⟨fX,H⟩:=q5b H;obtain⟨cD,cI⟩:∃ y_:List Int,y_=(aQ.set ((rd aG aH):Int).toNat (wrap64 ((rd aQ (rd aI 0))+1))):=⟨_,rfl⟩
              replace H:(if aY.length<17592186044416 then(q0k.l3 k4 cD (aY++[rd aG aH]) (rd aI 0) aG (aG.length:Int) (wrap64 (aH+1)) aK aJ aE) else(none))=some r:=zY cI H
              have Ny588:=zA cI;clear cI;obtain⟨eW,H⟩:=q8c H;obtain⟨dV,cH⟩:∃ y_:List Int,y_=(aY++[rd aG aH]):=⟨_,rfl⟩
              replace H:(q0k.l3 k4 cD dV (rd aI 0) aG (aG.length:Int) (wrap64 (aH+1)) aK aJ aE)=some r:=zY cH H
              have Ny589:=zA cH;clear cH;have H':=zA H;clear H;have gI:=zT (0≤((rd aI 0):Int));have gF:=zT ((rd aI 0)<(aQ.length:Int));obtain⟨eT,fN,dN⟩:=q3r (q0b aC.out).2.2 (rd aI 0) zd zd;obtain rfl:eU=eT:=(by injection fN);have eF:0≤((rd aG aH):Int):=zd;have eD:((rd aG aH):Int)<((aQ.length:Int):Int):=zd;obtain⟨go50,gL,eI,eG,gl50,cl50,HG50⟩:=q8z aC.out (by omega);(first|cases eI|(injection eI with ea_ en_ ec_;(first|subst ea_|(injection ea_ with ea_;subst ea_));subst ec_;clear en_));have GB50:=zA eG;have GG50:=zA HG50;clear eG gl50 HG50;(first|simp only[add_plain] at dO|skip);(first|simp only[add_plain] at dN|skip);obtain⟨fU,hf50_0⟩:=q7g 0 aC.out ((rd aG aH):Int) eF eD;replace eF:=eq_true eF;replace eD:=eq_true eD;have HP53:=q9u aC.out ((rd aG aH):Int) (wrap64 ((rd aQ (rd aI 0))+1))
              go_wp2_with (first|((with_reducible refine q6n (t:=3) (p:=75) rfl ?_);refine q6a (t:=3) (p:=75) (v:=?vo_w54) (w1:=(wr.setCell ⟨go50,((rd aG aH):Int).toNat,none⟩ (.int .i64 (wrap64 ((rd aQ (rd aI 0))+1))))) ?hg ?ho ?hn ?hr ?_;(case ho=>rfl);(case hg=>rfl);(case hn=>rfl);(case hr=>first|(go_simp;done)|(go_simp;rfl));intro eA hw;have hg:wr.grownBy eA (some go50):=(by rw[hw];exact HP53.2);have hp_:Kd.R (Kd.int .i64) 3 eA w.heap.size (fun k_=>some k_≠(u6:Value).ownBlock∧some k_≠(.slice (some bP) aG.length bF:Value).ownBlock) (.slice (some ⟨go50,0,none⟩) aQ.length bE) cD:=(by rw[hw,Ny588.out];exact HP53.1);clear HP53;replace aM:=zA (Q_after (v:=(.slice (some ⟨go50,0,none⟩) aQ.length bE)) (v1:=(.slice (some ⟨go50,0,none⟩) aQ.length bE)) (ok:=(fun k_=>some k_≠(.slice (some bP) aG.length bF:Value).ownBlock)) (by(with_reducible repeat (first|apply q8t|apply q8s|apply q7e));exact q6p aM.out (fun _ hk=>⟨hk.2,hk.1⟩)) hg (.inl rfl));replace aW:=zA (q4l (v:=(.slice (some ⟨go50,0,none⟩) aQ.length bE)) (v1:=(.slice (some ⟨go50,0,none⟩) aQ.length bE)) (ok:=(fun k_=>some k_≠(u6:Value).ownBlock)) (z_o aW (fun _ hk=>⟨hk.2,hk.1⟩)) hg (.inl rfl));replace aA:=zgr aA hg (q5s aC.out aA.out (by decide));replace aC:=zA hp_;replace HB:=zA ((by rw[hw];exact q3y (HB.out) GB50.out:Below w.heap.size w eA));clear hg hw hp_)|((with_reducible refine q0t (b:=.append) (xs:=#[.tmp 76,.tmp 78]) rfl ?_);at_builtin;refine Q_append (Kd.int .i64) (w0:=w) w.heap.size rfl (.tmp 76) (.tmp 78) 24 3 (.int .i64 0) 8 rfl Try.underlying24 info3 rfl (by decide) (by omega) u6 aY (rd aG aH) [.int .i64 (rd aG aH)] (fun k_=>some k_≠(.slice (some ⟨go50,0,none⟩) aQ.length bE:Value).ownBlock∧some k_≠(.slice (some bP) aG.length bF:Value).ownBlock) (fun _=>False) rfl rfl ?aP (fun _ hk=>hk.elim) ?aF ?aO ?aB ?aS ?aL ?_;(case aP=>exact rfl);(case aB=>exact zb);(case aF=>exact(fun k_ hk=>⟨fresh' (q7f (zR aC)) k_ hk,fresh' (q7f (zR aW)) k_ hk⟩));(case aO=>exact(by(with_reducible repeat (first|apply q8t|apply q8s|apply q7e));exact q6p aM.out (fun _ hk=>⟨hk.2,hk.1⟩)));(case aS=>exact(q0f zb));(case aL=>have:=eW.out;omega);intro v590 gS ho hb hg hat;rw[←Ny589.out] at ho;replace aC:=zA (q4l (ok:=(fun k_=>some k_≠(.slice (some bP) aG.length bF:Value).ownBlock)) (z_o aC (fun _ hk=>⟨hk.2,hk.1⟩)) hg hat);replace aW:=zA (q4l (ok:=(fun k_=>some k_≠(.slice (some ⟨go50,0,none⟩) aQ.length bE:Value).ownBlock)) (z_o aW (fun _ hk=>⟨hk.2,hk.1⟩)) hg hat);replace aA:=zgr aA hg (Q_ne aM.out aA.out (by decide));replace HB:=zA hb;have eY:=zA ho;clear aM;clear ho hb hg hat))
              go_roundg k4
              case measure=>have:=HK1.out;have:=HK2.out;have:=HK3.out;have:=HK4.out;omega
              case rel=>exact⟨(cD),(dV),(wrap64 (aH+1)),zr,H',⟨by have:=HK1.out;have:=HK2.out;have:=HK3.out;have:=HK4.out;omega⟩,⟨z_o aC (fun _ hk=>⟨hk.2,hk.1⟩)⟩,⟨zQ eY⟩,⟨zR aW⟩,⟨zk aA⟩,⟨zb⟩⟩
             ·rw[if_neg c47] at H;have eN:=decide_eq_false c47;clear c47;have H':=zA H;clear H;go_wp2
              go_roundg k4
              case measure=>have:=HK1.out;have:=HK2.out;have:=HK3.out;have:=HK4.out;omega
              case rel=>exact⟨(aQ),(aY),(wrap64 (aH+1)),zr,H',⟨by have:=HK1.out;have:=HK2.out;have:=HK3.out;have:=HK4.out;omega⟩,⟨zR aC⟩,⟨zQ aM⟩,⟨zR aW⟩,⟨zk aA⟩,⟨zb⟩⟩
            ·rw[if_neg c42] at H;have eO:=decide_eq_false c42;clear c42;have H':=zA H;clear H;go_wp2
             go_roundg k4
             case measure=>have:=HK1.out;have:=HK2.out;have:=HK3.out;have:=HK4.out;omega
             case rel=>exact⟨(aQ),(aY),H',⟨by have:=HK1.out;have:=HK2.out;have:=HK3.out;have:=HK4.out;omega⟩,⟨z_o aC (fun _ hk=>hk.1)⟩,⟨by(with_reducible repeat (first|apply q8t|apply q8s|apply q7e));exact q6p aM.out (fun _ hk=>hk.1)⟩,⟨zk aA⟩,⟨zb⟩⟩
         ·rw[if_neg c33] at H;have dH:decide (0<(aI.length:Int))=false:=decide_eq_false c33;have dG:decide (0<aI.length)=false:=decide_eq_false (by omega);clear c33;obtain rfl:=zI H;go_wp2;go_ret;exact⟨_,zE,z_t aC,zb⟩

def q5e.f (k:Nat) (b:Int) (c:Int) (d:List Int) (e:Int) (a:Int):Option (Int):=(q1r.f k b c d e).bind fun g=>(if g=true then((q1r.f k b c d a).bind fun h=>(if h=true then((q0k.f k b c d (([e]:List Int))).bind fun f=>(if 0≤a then(if a<(f.length:Int) then(some (rd f a)) else(none)) else(none))) else(some (-1)))) else(some (-1)))
theorem q5e.calls (k:Nat) (aE:Int) (aD:Int) (aH:Option Addr) (aG:Nat) (aC:List Int) (a1:Int) (a2:Int) (r:Int) (w:World) (aV:Kd.C (Kd.int .i64) w aH aC.length aC) (aW:aC.length≤aG) (h:q5e.f k aE aD aC a1 a2=some r) :
  Calls Try.prog 63 #[.agg #[.int .i64 aE,.int .i64 aD,.slice aH aC.length aG],.int .i64 a1,.int .i64 a2] w fun e w'=>e=.returned (.int .i64 r)∧Below w.heap.size w w':=by
 have hu26:=Try.underlying26;have aI:=zA aV;have aK:=zA aW;clear aV aW;have HB:=zA (Below.refl w.heap.size w);have H:=h;clear h;unfold q5e.f at H;obtain⟨bD,A4,H⟩:=zB H;go_enter Try.func63,Try.ntmps63
 by_cases c5:bD=true
 ·subst c5;rw[if_pos rfl] at H;obtain⟨bC,A6,H⟩:=zB H
  by_cases c7:bC=true
  ·subst c7;rw[if_pos rfl] at H;obtain⟨aU,aT⟩:∃ y_:List Int,y_=(([a1]:List Int)):=⟨_,rfl⟩
   replace H:((q0k.f k aE aD aC aU).bind fun aN=>(if 0≤a2 then(if a2<(aN.length:Int) then(some (rd aN a2)) else(none)) else(none)))=some r:=zY aT H
   have Ny595:=zA aT;clear aT;obtain⟨aN,A8,H⟩:=zB H;obtain⟨dB,H⟩:=q5b H;obtain⟨cW,H⟩:=q5b H;obtain rfl:=zI H
   go_wp2_with (first|((with_reducible refine zgd 3 rfl ?_);refine zbx 3 #[.int .i64 aE,.int .i64 aD,.slice aH aC.length aG] 26 ?_;intro aX hg dN hbox hb;have aA:=zA hbox;have aZ:=zga (w:=w) hg;replace HB:=zbs hb;clear hb hbox hg;obtain⟨cU,cT,cS,cC,cB,cA⟩:=ze3 aA)|((with_reducible refine zgf 57 rfl ?_);refine zgl 9 Try.func57 #[.agg #[.int .i64 aE,.int .i64 aD,.slice aH aC.length aG],.int .i64 a1] ?_;(with_reducible refine(q1r.calls k aE aD _ _ aC a1 true _ ?s1 ?s2 A4.out).mono ?_);(case s1=>exact zCb aI);(case s2=>exact aK.out);rintro e dM ⟨rfl,hb⟩;refine⟨_,rfl,?_⟩;replace aA:=zkb aA hb;replace HB:=zbs hb;(try clear hb);obtain⟨cR,cQ,cP,bZ,bY,bX⟩:=ze3 aA)|(go_at_call 57;(with_reducible refine(q1r.calls k aE aD _ _ aC a2 true _ ?s1 ?s2 A6.out).mono ?_);(case s1=>exact zCb aI);(case s2=>exact aK.out);rintro e dL ⟨rfl,hb⟩;replace aA:=zkb aA hb;replace HB:=zbs hb;(try clear hb);obtain⟨cO,cN,cM,bW,bV,bU⟩:=ze3 aA)|((with_reducible refine zgd 19 rfl ?_);refine q5z (Kd.int .i64) _ 3 ?hg (N:=19) ?hd (xs:=([a1]:List Int)) (inner:=[.int .i64 a1]) (ok:=fun _=>True) (okp:=fun _=>True) ?hr ?hp (fun _ hk=>hk) trivial (Below.refl _ _) (Nat.le_refl _) (by simp) ?_;(case hd=>rfl);(case hg=>rfl);(case hr=>first|(go_simp;done)|(go_simp;rfl));(case hp=>exact(q3o.one (show Kd.M (Kd.int .i64) _ _ _ a1 [.int .i64 a1] from rfl) (q3o.none _ _)));intro v596 dK ho18 hb hg_ hnew_;clear hg_ hnew_;(first|rw[←Ny595.out] at ho18|(simp only[Int.reduceToNat] at ho18;rw[←Ny595.out] at ho18));have aJ:=z_l ho18;replace aA:=zkb aA hb;replace HB:=zbs hb;clear hb ho18;obtain⟨bI,bH,bF⟩:=q0j aJ.out;subst bF)|((with_reducible refine zgf 64 rfl ?_);refine zgl 20 Try.func64 #[.agg #[.int .i64 aE,.int .i64 aD,.slice aH aC.length aG],.slice bI aU.length bH] ?_;(with_reducible refine(q0k.calls k aE aD _ _ aC _ _ aU aN _ ?s1 ?s2 ?s3 ?s4 A8.out).mono ?_);(case s1=>exact zCb aI);(case s2=>exact aK.out);(case s3=>exact zCx (q0b aJ.out).2.2);(case s4=>exact(q0b aJ.out).2.1);rintro e dJ ⟨v599,rfl,ho0,hb⟩;refine⟨_,rfl,?_⟩;have aY:=z_l (z_n ho0 aJ);replace aJ:=z_e aJ ho0 hb;replace aA:=zkb aA hb;replace HB:=zbs hb;(try clear hb);(try clear ho0);obtain⟨dC,dA,bE⟩:=q0j aY.out;subst bE;have cZ:=zT (0≤(a2:Int));have cY:=zT (a2<(aN.length:Int));obtain⟨cX,bG,bK⟩:=q3r (q0b aY.out).2.2 a2 zd zd;cases bG))
   go_ret;exact⟨zE,zb⟩
  ·replace c7:=Bool.eq_false_iff.mpr c7;subst c7;rw[if_neg zNo] at H;obtain rfl:=zI H
   go_wp2_with (first|((with_reducible refine zgd 3 rfl ?_);refine zbx 3 #[.int .i64 aE,.int .i64 aD,.slice aH aC.length aG] 26 ?_;intro aX hg dI hbox hb;have aA:=zA hbox;have aZ:=zga (w:=w) hg;replace HB:=zbs hb;clear hb hbox hg;obtain⟨cL,cK,cJ,bT,bS,bR⟩:=ze3 aA)|((with_reducible refine zgf 57 rfl ?_);refine zgl 9 Try.func57 #[.agg #[.int .i64 aE,.int .i64 aD,.slice aH aC.length aG],.int .i64 a1] ?_;(with_reducible refine(q1r.calls k aE aD _ _ aC a1 true _ ?s1 ?s2 A4.out).mono ?_);(case s1=>exact zCb aI);(case s2=>exact aK.out);rintro e dH ⟨rfl,hb⟩;refine⟨_,rfl,?_⟩;replace aA:=zkb aA hb;replace HB:=zbs hb;(try clear hb);obtain⟨cI,cH,cG,bQ,bP,bO⟩:=ze3 aA)|(go_at_call 57;(with_reducible refine(q1r.calls k aE aD _ _ aC a2 false _ ?s1 ?s2 A6.out).mono ?_);(case s1=>exact zCb aI);(case s2=>exact aK.out);rintro e dG ⟨rfl,hb⟩;replace aA:=zkb aA hb;replace HB:=zbs hb;(try clear hb)))
   go_ret;exact⟨zE,zb⟩
 ·replace c5:=Bool.eq_false_iff.mpr c5;subst c5;rw[if_neg zNo] at H;obtain rfl:=zI H
  go_wp2_with (first|((with_reducible refine zgd 3 rfl ?_);refine zbx 3 #[.int .i64 aE,.int .i64 aD,.slice aH aC.length aG] 26 ?_;intro aX hg dF hbox hb;have aA:=zA hbox;have aZ:=zga (w:=w) hg;replace HB:=zbs hb;clear hb hbox hg;obtain⟨cF,cE,cD,bN,bM,bL⟩:=ze3 aA)|((with_reducible refine zgf 57 rfl ?_);refine zgl 9 Try.func57 #[.agg #[.int .i64 aE,.int .i64 aD,.slice aH aC.length aG],.int .i64 a1] ?_;(with_reducible refine(q1r.calls k aE aD _ _ aC a1 false _ ?s1 ?s2 A4.out).mono ?_);(case s1=>exact zCb aI);(case s2=>exact aK.out);rintro e dE ⟨rfl,hb⟩;refine⟨_,rfl,?_⟩;replace aA:=zkb aA hb;replace HB:=zbs hb;(try clear hb)))
  go_ret;exact⟨zE,zb⟩

mutual
def q1v.l0:Nat→Int→List Int→List Int→Int→Int→Int→List Int→Option (List Int)
  |0,_,_,_,_,_,_,_=>none
  |k+1,b,h,c,a,d,e,f=>if a=b then(some c) else((q3e.f k d e f a).bind fun g=>(q1v.l1 k b h c a g (g.length:Int) 0 d e f))
def q1v.l1:Nat→Int→List Int→List Int→Int→List Int→Int→Int→Int→Int→List Int→Option (List Int)
  |0,_,_,_,_,_,_,_,_,_,_=>none
  |k+1,f,b,e,d,c,j,a,g,h,i=>if a<j then(if 0≤a then(if a<(c.length:Int) then(if 0≤(rd c a) then(if (rd c a)<(b.length:Int) then(if 0≤d then(if d<(b.length:Int) then(if (rd b (rd c a))<(rd b d) then(if e.length<17592186044416 then(q1v.l0 k f b (e++[rd c a]) (rd c a) g h i) else(none)) else(q1v.l1 k f b e d c j (wrap64 (a+1)) g h i)) else(none)) else(none)) else(none)) else(none)) else(none)) else(none)) else(if e.length<17592186044416 then(q1v.l0 k f b (e++[d]) d g h i) else(none))
end
def q1v.f (k:Nat) (a:Int) (b:Int) (c:List Int) (d:Int) (e:Int):Option (List Int):=(q5e.f k a b c d e).bind fun f=>(if f<0 then(some ([]:List Int)) else((q0k.f k a b c (([e]:List Int))).bind fun g=>(q1v.l0 k e g (([d]:List Int)) d a b c)))
theorem q1v.calls (k:Nat) (aH:Int) (aG:Int) (bC:Option Addr) (bB:Nat) (aD:List Int) (a1:Int) (a2:Int) (r:List Int) (w:World) (cM:Kd.C (Kd.int .i64) w bC aD.length aD) (cN:aD.length≤bB) (h:q1v.f k aH aG aD a1 a2=some r) :
  Calls Try.prog 43 #[.agg #[.int .i64 aH,.int .i64 aG,.slice bC aD.length bB],.int .i64 a1,.int .i64 a2] w fun e w'=>∃ v0_:Value,e=.returned (v0_)∧Kd.R (Kd.int .i64) 3 w' w.heap.size (fun _=>True) v0_ r∧Below w.heap.size w w':=by
 have hu26:=Try.underlying26;have aT:=zA cM;have aV:=zA cN;clear cM cN;have HB:=zA (Below.refl w.heap.size w);have H:=h;clear h;unfold q1v.f at H;obtain⟨bS,A4,H⟩:=zB H;go_enter Try.func43,Try.ntmps43
 by_cases c5:bS<0
 ·rw[if_pos c5] at H;have cE:=decide_eq_true c5;clear c5;obtain rfl:=zI H;(try simp only[cE])
  go_wp2_with (first|((with_reducible refine zgd 3 rfl ?_);refine zbx 3 #[.int .i64 aH,.int .i64 aG,.slice bC aD.length bB] 26 ?_;intro bD hg w6 hbox hb;have aA:=zA hbox;have cA:=zga (w:=w) hg;replace HB:=zbs hb;clear hb hbox hg;obtain⟨bY,bX,bW,bV,bU,bT⟩:=ze3 aA)|(go_at_call 63;(with_reducible refine(q5e.calls k aH aG _ _ aD a1 a2 bS _ ?s1 ?s2 A4.out).mono ?_);(case s1=>exact zCb aT);(case s2=>exact aV.out);rintro e w8 ⟨rfl,hb⟩;replace aA:=zkb aA hb;replace HB:=zbs hb;(try clear hb)))
  repeat (go_quiet (first|((with_reducible refine zgd 3 rfl ?_);refine zbx 3 #[.int .i64 aH,.int .i64 aG,.slice bC aD.length bB] 26 ?_;intro bD hg w6 hbox hb;have aA:=zA hbox;have cA:=zga (w:=w) hg;replace HB:=zbs hb;clear hb hbox hg;obtain⟨bY,bX,bW,bV,bU,bT⟩:=ze3 aA)|(go_at_call 63;(with_reducible refine(q5e.calls k aH aG _ _ aD a1 a2 bS _ ?s1 ?s2 A4.out).mono ?_);(case s1=>exact zCb aT);(case s2=>exact aV.out);rintro e w8 ⟨rfl,hb⟩;replace aA:=zkb aA hb;replace HB:=zbs hb;(try clear hb)));try go_wp2_with (first|((with_reducible refine zgd 3 rfl ?_);refine zbx 3 #[.int .i64 aH,.int .i64 aG,.slice bC aD.length bB] 26 ?_;intro bD hg w6 hbox hb;have aA:=zA hbox;have cA:=zga (w:=w) hg;replace HB:=zbs hb;clear hb hbox hg;obtain⟨bY,bX,bW,bV,bU,bT⟩:=ze3 aA)|(go_at_call 63;(with_reducible refine(q5e.calls k aH aG _ _ aD a1 a2 bS _ ?s1 ?s2 A4.out).mono ?_);(case s1=>exact zCb aT);(case s2=>exact aV.out);rintro e w8 ⟨rfl,hb⟩;replace aA:=zkb aA hb;replace HB:=zbs hb;(try clear hb))))
  go_ret;exact⟨_,zE,by first|exact R_nil _ _ _ _ _|exact N_nil _ _ _ _ _|exact V_nil _ _ _ _ _|exact Q_nil _ _ _ _ _|exact S_nil _ _ _ _ _,zb⟩
 ·rw[if_neg c5] at H;have cE:=decide_eq_false c5;clear c5;obtain⟨cF,cJ⟩:∃ y_:List Int,y_=(([a2]:List Int)):=⟨_,rfl⟩
  replace H:((q0k.f k aH aG aD cF).bind fun aM=>(q1v.l0 k a2 aM (([a1]:List Int)) a1 aH aG aD))=some r:=zY cJ H
  have Ny604:=zA cJ;clear cJ;obtain⟨aM,A9,H⟩:=zB H;obtain⟨dD,cI⟩:∃ y_:List Int,y_=(([a1]:List Int)):=⟨_,rfl⟩
  replace H:(q1v.l0 k a2 aM dD a1 aH aG aD)=some r:=zY cI H
  have Ny610:=zA cI;clear cI;have H':=zA H;clear H;(try simp only[cE])
  go_wp2_with (first|((with_reducible refine zgd 3 rfl ?_);refine zbx 3 #[.int .i64 aH,.int .i64 aG,.slice bC aD.length bB] 26 ?_;intro bD hg dP hbox hb;have aA:=zA hbox;have cA:=zga (w:=w) hg;replace HB:=zbs hb;clear hb hbox hg;obtain⟨bQ,bP,bO,bK,bJ,bI⟩:=ze3 aA)|(go_at_call 63;(with_reducible refine(q5e.calls k aH aG _ _ aD a1 a2 bS _ ?s1 ?s2 A4.out).mono ?_);(case s1=>exact zCb aT);(case s2=>exact aV.out);rintro e dO ⟨rfl,hb⟩;replace aA:=zkb aA hb;replace HB:=zbs hb;(try clear hb);obtain⟨bN,bM,bL,bH,bG,bF⟩:=ze3 aA)|((with_reducible refine zgd 19 rfl ?_);refine q5z (Kd.int .i64) _ 3 ?hg (N:=19) ?hd (xs:=([a2]:List Int)) (inner:=[.int .i64 a2]) (ok:=fun _=>True) (okp:=fun _=>True) ?hr ?hp (fun _ hk=>hk) trivial (Below.refl _ _) (Nat.le_refl _) (by simp) ?_;(case hd=>rfl);(case hg=>rfl);(case hr=>first|(go_simp;done)|(go_simp;rfl));(case hp=>exact(q3o.one (show Kd.M (Kd.int .i64) _ _ _ a2 [.int .i64 a2] from rfl) (q3o.none _ _)));intro v605 dN ho15 hb hg_ hnew_;clear hg_ hnew_;(first|rw[←Ny604.out] at ho15|(simp only[Int.reduceToNat] at ho15;rw[←Ny604.out] at ho15));have aC:=z_l ho15;replace aA:=zkb aA hb;replace HB:=zbs hb;clear hb ho15;obtain⟨dF,dE,cD⟩:=q0j aC.out;subst cD)|(go_at_call 64;(with_reducible refine(q0k.calls k aH aG _ _ aD _ _ cF aM _ ?s1 ?s2 ?s3 ?s4 A9.out).mono ?_);(case s1=>exact zCb aT);(case s2=>exact aV.out);(case s3=>exact zCx (q0b aC.out).2.2);(case s4=>exact(q0b aC.out).2.1);rintro e dM ⟨v608,rfl,ho0,hb⟩;have aU:=z_l (z_n ho0 aC);replace aC:=z_e aC ho0 hb;replace aA:=zkb aA hb;replace HB:=zbs hb;(try clear hb);(try clear ho0))|((with_reducible refine zgd 22 rfl ?_);refine q5z (Kd.int .i64) _ 3 ?hg (N:=22) ?hd (xs:=([a1]:List Int)) (inner:=[.int .i64 a1]) (ok:=fun _=>True) (okp:=fun _=>True) ?hr ?hp (fun _ hk=>hk) trivial (Below.refl _ _) (Nat.le_refl _) (by simp) ?_;(case hd=>rfl);(case hg=>rfl);(case hr=>first|(go_simp;done)|(go_simp;rfl));(case hp=>exact(q3o.one (show Kd.M (Kd.int .i64) _ _ _ a1 [.int .i64 a1] from rfl) (q3o.none _ _)));intro v611 dL ho19 hb hg_ hnew_;clear hg_ hnew_;(first|rw[←Ny610.out] at ho19|(simp only[Int.reduceToNat] at ho19;rw[←Ny610.out] at ho19));have cL:=z_l (z_n (z_n ho19 aC) aU);replace aC:=z_e aC ho19 hb;replace aU:=z_e aU ho19 hb;replace aA:=zkb aA hb;replace HB:=zbs hb;clear hb ho19))
  repeat (go_quiet (first|((with_reducible refine zgd 3 rfl ?_);refine zbx 3 #[.int .i64 aH,.int .i64 aG,.slice bC aD.length bB] 26 ?_;intro bD hg dP hbox hb;have aA:=zA hbox;have cA:=zga (w:=w) hg;replace HB:=zbs hb;clear hb hbox hg;obtain⟨bQ,bP,bO,bK,bJ,bI⟩:=ze3 aA)|(go_at_call 63;(with_reducible refine(q5e.calls k aH aG _ _ aD a1 a2 bS _ ?s1 ?s2 A4.out).mono ?_);(case s1=>exact zCb aT);(case s2=>exact aV.out);rintro e dO ⟨rfl,hb⟩;replace aA:=zkb aA hb;replace HB:=zbs hb;(try clear hb);obtain⟨bN,bM,bL,bH,bG,bF⟩:=ze3 aA)|((with_reducible refine zgd 19 rfl ?_);refine q5z (Kd.int .i64) _ 3 ?hg (N:=19) ?hd (xs:=([a2]:List Int)) (inner:=[.int .i64 a2]) (ok:=fun _=>True) (okp:=fun _=>True) ?hr ?hp (fun _ hk=>hk) trivial (Below.refl _ _) (Nat.le_refl _) (by simp) ?_;(case hd=>rfl);(case hg=>rfl);(case hr=>first|(go_simp;done)|(go_simp;rfl));(case hp=>exact(q3o.one (show Kd.M (Kd.int .i64) _ _ _ a2 [.int .i64 a2] from rfl) (q3o.none _ _)));intro v605 dN ho15 hb hg_ hnew_;clear hg_ hnew_;(first|rw[←Ny604.out] at ho15|(simp only[Int.reduceToNat] at ho15;rw[←Ny604.out] at ho15));have aC:=z_l ho15;replace aA:=zkb aA hb;replace HB:=zbs hb;clear hb ho15;obtain⟨dF,dE,cD⟩:=q0j aC.out;subst cD)|(go_at_call 64;(with_reducible refine(q0k.calls k aH aG _ _ aD _ _ cF aM _ ?s1 ?s2 ?s3 ?s4 A9.out).mono ?_);(case s1=>exact zCb aT);(case s2=>exact aV.out);(case s3=>exact zCx (q0b aC.out).2.2);(case s4=>exact(q0b aC.out).2.1);rintro e dM ⟨v608,rfl,ho0,hb⟩;have aU:=z_l (z_n ho0 aC);replace aC:=z_e aC ho0 hb;replace aA:=zkb aA hb;replace HB:=zbs hb;(try clear hb);(try clear ho0))|((with_reducible refine zgd 22 rfl ?_);refine q5z (Kd.int .i64) _ 3 ?hg (N:=22) ?hd (xs:=([a1]:List Int)) (inner:=[.int .i64 a1]) (ok:=fun _=>True) (okp:=fun _=>True) ?hr ?hp (fun _ hk=>hk) trivial (Below.refl _ _) (Nat.le_refl _) (by simp) ?_;(case hd=>rfl);(case hg=>rfl);(case hr=>first|(go_simp;done)|(go_simp;rfl));(case hp=>exact(q3o.one (show Kd.M (Kd.int .i64) _ _ _ a1 [.int .i64 a1] from rfl) (q3o.none _ _)));intro v611 dL ho19 hb hg_ hnew_;clear hg_ hnew_;(first|rw[←Ny610.out] at ho19|(simp only[Int.reduceToNat] at ho19;rw[←Ny610.out] at ho19));have cL:=z_l (z_n (z_n ho19 aC) aU);replace aC:=z_e aC ho19 hb;replace aU:=z_e aU ho19 hb;replace aA:=zkb aA hb;replace HB:=zbs hb;clear hb ho19));try go_wp2_with (first|((with_reducible refine zgd 3 rfl ?_);refine zbx 3 #[.int .i64 aH,.int .i64 aG,.slice bC aD.length bB] 26 ?_;intro bD hg dP hbox hb;have aA:=zA hbox;have cA:=zga (w:=w) hg;replace HB:=zbs hb;clear hb hbox hg;obtain⟨bQ,bP,bO,bK,bJ,bI⟩:=ze3 aA)|(go_at_call 63;(with_reducible refine(q5e.calls k aH aG _ _ aD a1 a2 bS _ ?s1 ?s2 A4.out).mono ?_);(case s1=>exact zCb aT);(case s2=>exact aV.out);rintro e dO ⟨rfl,hb⟩;replace aA:=zkb aA hb;replace HB:=zbs hb;(try clear hb);obtain⟨bN,bM,bL,bH,bG,bF⟩:=ze3 aA)|((with_reducible refine zgd 19 rfl ?_);refine q5z (Kd.int .i64) _ 3 ?hg (N:=19) ?hd (xs:=([a2]:List Int)) (inner:=[.int .i64 a2]) (ok:=fun _=>True) (okp:=fun _=>True) ?hr ?hp (fun _ hk=>hk) trivial (Below.refl _ _) (Nat.le_refl _) (by simp) ?_;(case hd=>rfl);(case hg=>rfl);(case hr=>first|(go_simp;done)|(go_simp;rfl));(case hp=>exact(q3o.one (show Kd.M (Kd.int .i64) _ _ _ a2 [.int .i64 a2] from rfl) (q3o.none _ _)));intro v605 dN ho15 hb hg_ hnew_;clear hg_ hnew_;(first|rw[←Ny604.out] at ho15|(simp only[Int.reduceToNat] at ho15;rw[←Ny604.out] at ho15));have aC:=z_l ho15;replace aA:=zkb aA hb;replace HB:=zbs hb;clear hb ho15;obtain⟨dF,dE,cD⟩:=q0j aC.out;subst cD)|(go_at_call 64;(with_reducible refine(q0k.calls k aH aG _ _ aD _ _ cF aM _ ?s1 ?s2 ?s3 ?s4 A9.out).mono ?_);(case s1=>exact zCb aT);(case s2=>exact aV.out);(case s3=>exact zCx (q0b aC.out).2.2);(case s4=>exact(q0b aC.out).2.1);rintro e dM ⟨v608,rfl,ho0,hb⟩;have aU:=z_l (z_n ho0 aC);replace aC:=z_e aC ho0 hb;replace aA:=zkb aA hb;replace HB:=zbs hb;(try clear hb);(try clear ho0))|((with_reducible refine zgd 22 rfl ?_);refine q5z (Kd.int .i64) _ 3 ?hg (N:=22) ?hd (xs:=([a1]:List Int)) (inner:=[.int .i64 a1]) (ok:=fun _=>True) (okp:=fun _=>True) ?hr ?hp (fun _ hk=>hk) trivial (Below.refl _ _) (Nat.le_refl _) (by simp) ?_;(case hd=>rfl);(case hg=>rfl);(case hr=>first|(go_simp;done)|(go_simp;rfl));(case hp=>exact(q3o.one (show Kd.M (Kd.int .i64) _ _ _ a1 [.int .i64 a1] from rfl) (q3o.none _ _)));intro v611 dL ho19 hb hg_ hnew_;clear hg_ hnew_;(first|rw[←Ny610.out] at ho19|(simp only[Int.reduceToNat] at ho19;rw[←Ny610.out] at ho19));have cL:=z_l (z_n (z_n ho19 aC) aU);replace aC:=z_e aC ho19 hb;replace aU:=z_e aU ho19 hb;replace aA:=zkb aA hb;replace HB:=zbs hb;clear hb ho19)))
  go_loopg [8,9] k (fun kq v8 v9 w'=>∃ (bA:List Int) (aY:Int),v9=.int .i64 aY∧q0a (q1v.l0 kq a2 aM bA aY aH aG aD=some r)∧q0a (kq≤k)∧q0a (Kd.R (Kd.int .i64) 3 w' w.heap.size (fun k_=>some k_≠(v8:Value).ownBlock) v608 aM)∧q0a (Kd.R (Kd.int .i64) 3 w' w.heap.size (fun k_=>some k_≠(v608:Value).ownBlock) v8 bA)∧q0a (w'.heap[bD]?=some (.cells #[.int .i64 aH,.int .i64 aG,(.slice bC aD.length bB)] 26 (0,0)))∧q0a (Below w.heap.size w w'))
  case atStart=>exact⟨(dD),(a1),zr,H',⟨Nat.le_refl _⟩,⟨z_2 aU⟩,⟨z_2 cL⟩,⟨zk aA⟩,⟨zb⟩⟩
  case round =>
   clear H';(try clear c5);(try clear cE);(try clear bQ);(try clear bP);(try clear bO);(try clear bN);(try clear bM);(try clear bL);(try clear bY);(try clear bX);(try clear bW);(try clear bK);(try clear bJ);(try clear bI);(try clear bH);(try clear bG);(try clear bF);(try clear bV);(try clear bU);(try clear bT);obtain⟨bA,aY,rfl,HA,HK1,aI,aJ,aA,HB⟩:=hrel
   cases gk with
   |zero=>exact absurd HA.out (by simp[q1v.l0])
   |succ k1 =>
    have H:=HA.out;clear HA;simp only[q1v.l0] at H
    by_cases c20:aY=a2
    ·rw[if_pos c20] at H;have cP:(aY==a2)=true:=beq_iff_eq.mpr c20;have cO:(aY != a2)=false:=bne_eq_false_iff_eq.mpr c20;clear c20;obtain rfl:=zI H;go_wp2
     repeat (go_quiet (fail);try go_wp2)
     go_ret;exact⟨_,zE,z_t aJ,zb⟩
    ·rw[if_neg c20] at H;have cP:(aY==a2)=false:=beq_eq_false_iff_ne.mpr c20;have cO:(aY != a2)=true:=bne_iff_ne.mpr c20;obtain⟨aE,dG,H⟩:=zB H;have H':=zA H;clear H;obtain⟨cZ,cY,cX,cW,cV,cU⟩:=ze3 aA
     go_wp2_with (first|(go_at_call 65;(with_reducible refine(q3e.calls k1 aH aG _ _ aD aY aE _ ?s1 ?s2 dG.out).mono ?_);(case s1=>exact zCb aT);(case s2=>exact aV.out);rintro e dK ⟨v614,rfl,ho0,hb⟩;have bR:=z_l (z_n (z_n ho0 aI) aJ);replace aI:=z_e aI ho0 hb;replace aJ:=z_e aJ ho0 hb;replace aA:=zkb aA hb;replace HB:=zbs hb;(try clear hb);(try clear ho0);obtain⟨bE,aX,cC⟩:=q0j bR.out;subst cC))
     repeat (go_quiet (first|(go_at_call 65;(with_reducible refine(q3e.calls k1 aH aG _ _ aD aY aE _ ?s1 ?s2 dG.out).mono ?_);(case s1=>exact zCb aT);(case s2=>exact aV.out);rintro e dK ⟨v614,rfl,ho0,hb⟩;have bR:=z_l (z_n (z_n ho0 aI) aJ);replace aI:=z_e aI ho0 hb;replace aJ:=z_e aJ ho0 hb;replace aA:=zkb aA hb;replace HB:=zbs hb;(try clear hb);(try clear ho0);obtain⟨bE,aX,cC⟩:=q0j bR.out;subst cC));try go_wp2_with (first|(go_at_call 65;(with_reducible refine(q3e.calls k1 aH aG _ _ aD aY aE _ ?s1 ?s2 dG.out).mono ?_);(case s1=>exact zCb aT);(case s2=>exact aV.out);rintro e dK ⟨v614,rfl,ho0,hb⟩;have bR:=z_l (z_n (z_n ho0 aI) aJ);replace aI:=z_e aI ho0 hb;replace aJ:=z_e aJ ho0 hb;replace aA:=zkb aA hb;replace HB:=zbs hb;(try clear hb);(try clear ho0);obtain⟨bE,aX,cC⟩:=q0j bR.out;subst cC)))
     go_loopg [9,31] k1 (fun kq v9 v31 w'=>∃ (aW:Int) (aK:Int),v9=.int .i64 aW∧v31=.int .i64 aK∧q0a (q1v.l1 kq a2 aM bA aW aE (aE.length:Int) aK aH aG aD=some r)∧q0a (kq≤k1)∧q0a (Kd.R (Kd.int .i64) 3 w' w.heap.size (fun k_=>some k_≠(u8:Value).ownBlock∧some k_≠((.slice bE aE.length aX):Value).ownBlock) v608 aM)∧q0a (Kd.R (Kd.int .i64) 3 w' w.heap.size (fun k_=>some k_≠(v608:Value).ownBlock∧some k_≠((.slice bE aE.length aX):Value).ownBlock) u8 bA)∧q0a (Kd.R (Kd.int .i64) 3 w' w.heap.size (fun k_=>some k_≠(v608:Value).ownBlock∧some k_≠(u8:Value).ownBlock) (.slice bE aE.length aX) aE)∧q0a (w'.heap[bD]?=some (.cells #[.int .i64 aH,.int .i64 aG,(.slice bC aD.length bB)] 26 (0,0)))∧q0a (Below w.heap.size w w'))
     case atStart=>exact⟨(aY),(0),zr,zr,H',⟨Nat.le_refl _⟩,⟨zR aI⟩,⟨zR aJ⟩,⟨z_o bR (fun _ hk=>⟨hk.1.2,hk.2⟩)⟩,⟨zk aA⟩,⟨zb⟩⟩
     case round =>
      clear H';(try clear c5);(try clear cE);(try clear c20);(try clear cP);(try clear cO);(try clear bQ);(try clear bP);(try clear bO);(try clear bN);(try clear bM);(try clear bL);(try clear cZ);(try clear cY);(try clear cX);(try clear bY);(try clear bX);(try clear bW);(try clear bK);(try clear bJ);(try clear bI);(try clear bH);(try clear bG);(try clear bF);(try clear cW);(try clear cV);(try clear cU);(try clear bV);(try clear bU);(try clear bT);obtain⟨aW,aK,rfl,rfl,HA,HK2,aI,aJ,aN,aA,HB⟩:=hrel
      cases gk with
      |zero=>exact absurd HA.out (by simp[q1v.l1])
      |succ k2 =>
       have H:=HA.out;clear HA;simp only[q1v.l1] at H
       by_cases c25:aK<(aE.length:Int)
       ·rw[if_pos c25] at H;have dI:=decide_eq_true c25;clear c25;obtain⟨eH,H⟩:=q5b H;obtain⟨eG,H⟩:=q5b H;obtain⟨eF,H⟩:=q5b H;obtain⟨eE,H⟩:=q5b H;obtain⟨eD,H⟩:=q5b H;obtain⟨eC,H⟩:=q5b H;have eN:=zT (0≤(aK:Int));have eK:=zT (aK<(aE.length:Int));obtain⟨cB,dT,dX⟩:=q3r (q0b aN.out).2.2 aK zd zd;cases dT;obtain⟨eO,cK,dQ⟩:=q0j aI.out;subst dQ;have eM:=zT (0≤((rd aE aK):Int));have eJ:=zT ((rd aE aK)<(aM.length:Int));obtain⟨bZ,dS,dW⟩:=q3r (q0b aI.out).2.2 (rd aE aK) zd zd;cases dS;have eL:=zT (0≤(aW:Int));have eI:=zT (aW<(aM.length:Int));obtain⟨dJ,dR,dV⟩:=q3r (q0b aI.out).2.2 aW zd zd;obtain rfl:bZ=dJ:=(by injection dR)
        by_cases c32:(rd aM (rd aE aK))<(rd aM aW)
        ·rw[if_pos c32] at H;have dH:=decide_eq_true c32;clear c32;obtain⟨cR,H⟩:=q8c H;obtain⟨dC,cH⟩:∃ y_:List Int,y_=(bA++[rd aE aK]):=⟨_,rfl⟩
         replace H:(q1v.l0 k2 a2 aM dC (rd aE aK) aH aG aD)=some r:=zY cH H
         have Ny619:=zA cH;clear cH;have H':=zA H;clear H
         go_wp2_with (first|((with_reducible refine q0t (b:=.append) (xs:=#[.tmp 46,.tmp 48]) rfl ?_);at_builtin;refine q2j (Kd.int .i64) (w0:=w) w.heap.size rfl (.tmp 46) (.tmp 48) 24 3 (.int .i64 0) 8 rfl Try.underlying24 info3 rfl (by decide) (by omega) u8 bA (rd aE aK) [.int .i64 (rd aE aK)] (fun k_=>some k_≠(.slice (some bZ) aM.length cK:Value).ownBlock∧some k_≠(.slice (some cB) aE.length aX:Value).ownBlock) (fun _=>False) rfl rfl ?aP (fun _ hk=>hk.elim) ?aF ?aO ?aB ?aS ?aL ?_;(case aP=>exact rfl);(case aB=>exact zb);(case aF=>exact(fun k_ hk=>⟨fresh' (q7f (zR aI)) k_ hk,fresh' (q7f (zR aN)) k_ hk⟩));(case aO=>exact(zR aJ));(case aS=>exact(q0f zb));(case aL=>have:=cR.out;omega);intro v620 eB ho hb hg hat;rw[←Ny619.out] at ho;replace aI:=zA (q4l (ok:=(fun k_=>some k_≠(.slice (some cB) aE.length aX:Value).ownBlock)) (z_o aI (fun _ hk=>⟨hk.2,hk.1⟩)) hg hat);replace aN:=zA (q4l (ok:=(fun k_=>some k_≠(.slice (some bZ) aM.length cK:Value).ownBlock)) (zR aN) hg hat);replace aA:=zgr aA hg (q5s aJ.out aA.out (by decide));replace HB:=zA hb;have cT:=zA ho;clear aJ;clear ho hb hg hat))
         repeat (go_quiet (fail);try go_wp2_with (first|((with_reducible refine q0t (b:=.append) (xs:=#[.tmp 46,.tmp 48]) rfl ?_);at_builtin;refine q2j (Kd.int .i64) (w0:=w) w.heap.size rfl (.tmp 46) (.tmp 48) 24 3 (.int .i64 0) 8 rfl Try.underlying24 info3 rfl (by decide) (by omega) u8 bA (rd aE aK) [.int .i64 (rd aE aK)] (fun k_=>some k_≠(.slice (some bZ) aM.length cK:Value).ownBlock∧some k_≠(.slice (some cB) aE.length aX:Value).ownBlock) (fun _=>False) rfl rfl ?aP (fun _ hk=>hk.elim) ?aF ?aO ?aB ?aS ?aL ?_;(case aP=>exact rfl);(case aB=>exact zb);(case aF=>exact(fun k_ hk=>⟨fresh' (q7f (zR aI)) k_ hk,fresh' (q7f (zR aN)) k_ hk⟩));(case aO=>exact(zR aJ));(case aS=>exact(q0f zb));(case aL=>have:=cR.out;omega);intro v620 eB ho hb hg hat;rw[←Ny619.out] at ho;replace aI:=zA (q4l (ok:=(fun k_=>some k_≠(.slice (some cB) aE.length aX:Value).ownBlock)) (z_o aI (fun _ hk=>⟨hk.2,hk.1⟩)) hg hat);replace aN:=zA (q4l (ok:=(fun k_=>some k_≠(.slice (some bZ) aM.length cK:Value).ownBlock)) (zR aN) hg hat);replace aA:=zgr aA hg (q5s aJ.out aA.out (by decide));replace HB:=zA hb;have cT:=zA ho;clear aJ;clear ho hb hg hat)))
         go_roundg k2
         case measure=>have:=HK1.out;have:=HK2.out;omega
         case rel=>exact⟨(dC),(rd aE aK),zr,H',⟨by have:=HK1.out;have:=HK2.out;omega⟩,⟨z_2 aI⟩,⟨z_o cT (fun _ hk=>hk.1)⟩,⟨zk aA⟩,⟨zb⟩⟩
        ·rw[if_neg c32] at H;have dH:=decide_eq_false c32;clear c32;have H':=zA H;clear H;go_wp2
         repeat (go_quiet (fail);try go_wp2)
         go_roundg k2
         case measure=>have:=HK1.out;have:=HK2.out;omega
         case rel=>exact⟨(aW),(wrap64 (aK+1)),zr,zr,H',⟨by have:=HK1.out;have:=HK2.out;omega⟩,⟨zR aI⟩,⟨zR aJ⟩,⟨zR aN⟩,⟨zk aA⟩,⟨zb⟩⟩
       ·rw[if_neg c25] at H;have dI:=decide_eq_false c25;clear c25;obtain⟨cQ,H⟩:=q8c H;obtain⟨dB,cG⟩:∃ y_:List Int,y_=(bA++[aW]):=⟨_,rfl⟩
        replace H:(q1v.l0 k2 a2 aM dB aW aH aG aD)=some r:=zY cG H
        have Ny622:=zA cG;clear cG;have H':=zA H;clear H
        go_wp2_with (first|((with_reducible refine q0t (b:=.append) (xs:=#[.tmp 46,.tmp 48]) rfl ?_);at_builtin;refine q2j (Kd.int .i64) (w0:=w) w.heap.size rfl (.tmp 46) (.tmp 48) 24 3 (.int .i64 0) 8 rfl Try.underlying24 info3 rfl (by decide) (by omega) u8 bA aW [.int .i64 aW] (fun k_=>some k_≠(v608:Value).ownBlock∧some k_≠(.slice bE aE.length aX:Value).ownBlock) (fun _=>False) rfl rfl ?aP (fun _ hk=>hk.elim) ?aF ?aO ?aB ?aS ?aL ?_;(case aP=>exact rfl);(case aB=>exact zb);(case aF=>exact(fun k_ hk=>⟨fresh' (q7f (zR aI)) k_ hk,fresh' (q7f (zR aN)) k_ hk⟩));(case aO=>exact(zR aJ));(case aS=>exact(q0f zb));(case aL=>have:=cQ.out;omega);intro v623 eA ho hb hg hat;rw[←Ny622.out] at ho;replace aI:=zA (q4l (ok:=(fun k_=>some k_≠(.slice bE aE.length aX:Value).ownBlock)) (z_o aI (fun _ hk=>⟨hk.2,hk.1⟩)) hg hat);replace aN:=zA (q4l (ok:=(fun k_=>some k_≠(v608:Value).ownBlock)) (zR aN) hg hat);replace aA:=zgr aA hg (q5s aJ.out aA.out (by decide));replace HB:=zA hb;have cS:=zA ho;clear aJ;clear ho hb hg hat))
        repeat (go_quiet (fail);try go_wp2_with (first|((with_reducible refine q0t (b:=.append) (xs:=#[.tmp 46,.tmp 48]) rfl ?_);at_builtin;refine q2j (Kd.int .i64) (w0:=w) w.heap.size rfl (.tmp 46) (.tmp 48) 24 3 (.int .i64 0) 8 rfl Try.underlying24 info3 rfl (by decide) (by omega) u8 bA aW [.int .i64 aW] (fun k_=>some k_≠(v608:Value).ownBlock∧some k_≠(.slice bE aE.length aX:Value).ownBlock) (fun _=>False) rfl rfl ?aP (fun _ hk=>hk.elim) ?aF ?aO ?aB ?aS ?aL ?_;(case aP=>exact rfl);(case aB=>exact zb);(case aF=>exact(fun k_ hk=>⟨fresh' (q7f (zR aI)) k_ hk,fresh' (q7f (zR aN)) k_ hk⟩));(case aO=>exact(zR aJ));(case aS=>exact(q0f zb));(case aL=>have:=cQ.out;omega);intro v623 eA ho hb hg hat;rw[←Ny622.out] at ho;replace aI:=zA (q4l (ok:=(fun k_=>some k_≠(.slice bE aE.length aX:Value).ownBlock)) (z_o aI (fun _ hk=>⟨hk.2,hk.1⟩)) hg hat);replace aN:=zA (q4l (ok:=(fun k_=>some k_≠(v608:Value).ownBlock)) (zR aN) hg hat);replace aA:=zgr aA hg (q5s aJ.out aA.out (by decide));replace HB:=zA hb;have cS:=zA ho;clear aJ;clear ho hb hg hat)))
        go_roundg k2
        case measure=>have:=HK1.out;have:=HK2.out;omega
        case rel=>exact⟨(dB),(aW),zr,H',⟨by have:=HK1.out;have:=HK2.out;omega⟩,⟨z_2 aI⟩,⟨z_o cS (fun _ hk=>hk.1)⟩,⟨zk aA⟩,⟨zb⟩⟩

def q3x.f (k:Nat) (a:Int) (b:Int) (c:List Int) (e:Int) (f:Int) (g:Int) (h:List (S59)) (d:Int) (i:Int) (j:List (S95)) (l:List Bool):Option (List Int):=(q4m.f f g).bind fun m=>(if m=true then((q0l.f k a b c h).bind fun n=>(if n=true then((q3n.f k a b c d i j l).bind fun o=>(if o=true then((q1v.f k a b c d e).bind fun p=>(some p)) else(some ([]:List Int)))) else(some ([]:List Int)))) else(some ([]:List Int)))
theorem q3x.calls (k:Nat) (aU:Int) (aT:Int) (bC:Option Addr) (bB:Nat) (aJ:List Int) (a1:Int) (aQ:Int) (aN:Int) (A3:Option Addr) (c3:Nat) (l3:List (S59)) (aX:Int) (aY:Int) (bG:Option Addr) (bE:Nat) (aW:List (S95)) (bF:Option Addr) (bD:Nat) (aV:List Bool) (r:List Int) (w:World) (bQ:Kd.C (Kd.int .i64) w bC aJ.length aJ) (bT:aJ.length≤bB) (cG:Kd.C k59 w A3 l3.length l3) (cH:l3.length≤c3) (bP:Kd.C k95 w bG aW.length aW) (bS:aW.length≤bE) (bO:Kd.C Kd.bool w bF aV.length aV) (bR:aV.length≤bD) (h:q3x.f k aU aT aJ a1 aQ aN l3 aX aY aW aV=some r) :
  Calls Try.prog 25 #[.agg #[.int .i64 aU,.int .i64 aT,.slice bC aJ.length bB],.int .i64 a1,.agg #[.int .i64 aQ,.int .i64 aN],.slice A3 l3.length c3,.agg #[.int .i64 aX,.int .i64 aY,.slice bG aW.length bE,.slice bF aV.length bD]] w fun e w'=>∃ v0_:Value,e=.returned (v0_)∧Kd.R (Kd.int .i64) 3 w' w.heap.size (fun _=>True) v0_ r∧Below w.heap.size w w':=by
 have hu26:=Try.underlying26;have hu28:=Try.underlying28;have hu33:=Try.underlying33;have aZ:=zA bQ;have bA:=zA bT;clear bQ bT;have bZ:=zA cG;have cA:=zA cH;clear cG cH;have bW:=zA bP;have bY:=zA bS;clear bP bS;have bV:=zA bO;have bX:=zA bR;clear bO bR;have HB:=zA (Below.refl w.heap.size w);have H:=h;clear h;unfold q3x.f at H;obtain⟨cM,A6,H⟩:=zB H;go_enter Try.func25,Try.ntmps25
 by_cases c7:cM=true
 ·subst c7;rw[if_pos rfl] at H;obtain⟨cL,A8,H⟩:=zB H
  by_cases c9:cL=true
  ·subst c9;rw[if_pos rfl] at H;obtain⟨cK,cI,H⟩:=zB H
   by_cases bU:cK=true
   ·subst bU;rw[if_pos rfl] at H;obtain⟨cJ,fO,H⟩:=zB H;obtain rfl:=zI H
    go_wp2_with (first|((with_reducible refine zgd 5 rfl ?_);refine zbx 5 #[.int .i64 aU,.int .i64 aT,.slice bC aJ.length bB] 26 ?_;intro bJ hg hH hbox hb;have aA:=zA hbox;have bM:=zga (w:=w) hg;replace HB:=zbs hb;clear hb hbox hg)|((with_reducible refine zgd 7 rfl ?_);refine zbx 7 #[.int .i64 aQ,.int .i64 aN] 28 ?_;intro bI hg hG hbox hb;have aC:=zA hbox;have bL:=zga (w:=w) hg;replace HB:=zbs hb;replace aA:=zlh aA hg hb;obtain⟨aI,aH,aA⟩:=aA;clear hb hbox hg)|((with_reducible refine zgd 9 rfl ?_);refine zbx 9 #[.int .i64 aX,.int .i64 aY,.slice bG aW.length bE,.slice bF aV.length bD] 33 ?_;intro bH hg hF hbox hb;have aD:=zA hbox;have bK:=zga (w:=w) hg;replace HB:=zbs hb;replace aA:=zlh aA hg hb;obtain⟨aM,aK,aA⟩:=aA;replace aC:=zlh aC hg hb;obtain⟨aG,aE,aC⟩:=aC;clear hb hbox hg;have gK:=aH.out;have fZ:=aI.out;have gJ:=aG.out;have fY:=aE.out;obtain⟨fL,fK,dZ,dY⟩:=ze2 aC)|((with_reducible refine zgf 41 rfl ?_);refine zgl 12 Try.func41 #[.agg #[.int .i64 aQ,.int .i64 aN]] ?_;(with_reducible refine(q4m.calls aQ aN true _ A6.out).mono ?_);rintro e hE ⟨rfl,hb⟩;refine⟨_,rfl,?_⟩;replace aA:=zkb aA hb;replace aC:=zkb aC hb;replace aD:=zkb aD hb;replace HB:=zbs hb;(try clear hb);have gI:=aM.out;have fX:=aK.out;obtain⟨fJ,fI,fH,dX,dW,dV⟩:=ze3 aA)|(go_at_call 36;(with_reducible refine(q0l.calls k aU aT _ _ aJ _ _ l3 true _ ?s1 ?s2 ?s3 ?s4 A8.out).mono ?_);(case s1=>exact zCb aZ);(case s2=>exact bA.out);(case s3=>exact zCb bZ);(case s4=>exact cA.out);rintro e hD ⟨rfl,hb⟩;replace aA:=zkb aA hb;replace aC:=zkb aC hb;replace aD:=zkb aD hb;replace HB:=zbs hb;(try clear hb);obtain⟨fG,fF,fE,dU,dT,dS⟩:=ze3 aA;obtain⟨fD,fC,fB,fA,dR,dQ,dP,dO⟩:=ze4 aD)|(go_at_call 42;(with_reducible refine(q3n.calls k aU aT _ _ aJ aX aY _ _ aW _ _ aV true _ ?s1 ?s2 ?s3 ?s4 ?s5 ?s6 cI.out).mono ?_);(case s1=>exact zCb aZ);(case s2=>exact bA.out);(case s3=>exact zCb bW);(case s4=>exact bY.out);(case s5=>exact zCb bV);(case s6=>exact bX.out);rintro e hC ⟨rfl,hb⟩;replace aA:=zkb aA hb;replace aC:=zkb aC hb;replace aD:=zkb aD hb;replace HB:=zbs hb;(try clear hb);obtain⟨eZ,eY,eX,dN,dM,dL⟩:=ze3 aA;obtain⟨eW,eV,eU,eT,dK,dJ,dI,dH⟩:=ze4 aD)|((with_reducible refine zgf 43 rfl ?_);refine zgl 30 Try.func43 #[.agg #[.int .i64 aU,.int .i64 aT,.slice bC aJ.length bB],.int .i64 aX,.int .i64 a1] ?_;(with_reducible refine(q1v.calls k aU aT _ _ aJ aX a1 cJ _ ?s1 ?s2 fO.out).mono ?_);(case s1=>exact zCb aZ);(case s2=>exact bA.out);rintro e hA ⟨v632,rfl,ho0,hb⟩;refine⟨_,rfl,?_⟩;have cE:=z_l ho0;replace aA:=zkb aA hb;replace aC:=zkb aC hb;replace aD:=zkb aD hb;replace HB:=zbs hb;(try clear hb);(try clear ho0)))
    go_ret;exact⟨_,zE,zR cE,zb⟩
   ·replace bU:=Bool.eq_false_iff.mpr bU;subst bU;rw[if_neg zNo] at H;obtain rfl:=zI H
    go_wp2_with (first|((with_reducible refine zgd 5 rfl ?_);refine zbx 5 #[.int .i64 aU,.int .i64 aT,.slice bC aJ.length bB] 26 ?_;intro bJ hg gZ hbox hb;have aA:=zA hbox;have bM:=zga (w:=w) hg;replace HB:=zbs hb;clear hb hbox hg)|((with_reducible refine zgd 7 rfl ?_);refine zbx 7 #[.int .i64 aQ,.int .i64 aN] 28 ?_;intro bI hg gY hbox hb;have aC:=zA hbox;have bL:=zga (w:=w) hg;replace HB:=zbs hb;replace aA:=zlh aA hg hb;obtain⟨aI,aH,aA⟩:=aA;clear hb hbox hg)|((with_reducible refine zgd 9 rfl ?_);refine zbx 9 #[.int .i64 aX,.int .i64 aY,.slice bG aW.length bE,.slice bF aV.length bD] 33 ?_;intro bH hg gX hbox hb;have aD:=zA hbox;have bK:=zga (w:=w) hg;replace HB:=zbs hb;replace aA:=zlh aA hg hb;obtain⟨aM,aK,aA⟩:=aA;replace aC:=zlh aC hg hb;obtain⟨aG,aE,aC⟩:=aC;clear hb hbox hg;have gH:=aH.out;have fW:=aI.out;have gG:=aG.out;have fV:=aE.out;obtain⟨eS,eR,dG,dF⟩:=ze2 aC)|((with_reducible refine zgf 41 rfl ?_);refine zgl 12 Try.func41 #[.agg #[.int .i64 aQ,.int .i64 aN]] ?_;(with_reducible refine(q4m.calls aQ aN true _ A6.out).mono ?_);rintro e gW ⟨rfl,hb⟩;refine⟨_,rfl,?_⟩;replace aA:=zkb aA hb;replace aC:=zkb aC hb;replace aD:=zkb aD hb;replace HB:=zbs hb;(try clear hb);have gF:=aM.out;have fU:=aK.out;obtain⟨eQ,eP,eO,dE,dD,dC⟩:=ze3 aA)|(go_at_call 36;(with_reducible refine(q0l.calls k aU aT _ _ aJ _ _ l3 true _ ?s1 ?s2 ?s3 ?s4 A8.out).mono ?_);(case s1=>exact zCb aZ);(case s2=>exact bA.out);(case s3=>exact zCb bZ);(case s4=>exact cA.out);rintro e gV ⟨rfl,hb⟩;replace aA:=zkb aA hb;replace aC:=zkb aC hb;replace aD:=zkb aD hb;replace HB:=zbs hb;(try clear hb);obtain⟨eN,eM,eL,dB,dA,cZ⟩:=ze3 aA;obtain⟨eK,eJ,eI,eH,cY,cX,cW,cV⟩:=ze4 aD)|(go_at_call 42;(with_reducible refine(q3n.calls k aU aT _ _ aJ aX aY _ _ aW _ _ aV false _ ?s1 ?s2 ?s3 ?s4 ?s5 ?s6 cI.out).mono ?_);(case s1=>exact zCb aZ);(case s2=>exact bA.out);(case s3=>exact zCb bW);(case s4=>exact bY.out);(case s5=>exact zCb bV);(case s6=>exact bX.out);rintro e gU ⟨rfl,hb⟩;replace aA:=zkb aA hb;replace aC:=zkb aC hb;replace aD:=zkb aD hb;replace HB:=zbs hb;(try clear hb)))
    go_ret;exact⟨_,zE,by first|exact R_nil _ _ _ _ _|exact N_nil _ _ _ _ _|exact V_nil _ _ _ _ _|exact Q_nil _ _ _ _ _|exact S_nil _ _ _ _ _,zb⟩
  ·replace c9:=Bool.eq_false_iff.mpr c9;subst c9;rw[if_neg zNo] at H;obtain rfl:=zI H
   go_wp2_with (first|((with_reducible refine zgd 5 rfl ?_);refine zbx 5 #[.int .i64 aU,.int .i64 aT,.slice bC aJ.length bB] 26 ?_;intro bJ hg gT hbox hb;have aA:=zA hbox;have bM:=zga (w:=w) hg;replace HB:=zbs hb;clear hb hbox hg)|((with_reducible refine zgd 7 rfl ?_);refine zbx 7 #[.int .i64 aQ,.int .i64 aN] 28 ?_;intro bI hg gS hbox hb;have aC:=zA hbox;have bL:=zga (w:=w) hg;replace HB:=zbs hb;replace aA:=zlh aA hg hb;obtain⟨aI,aH,aA⟩:=aA;clear hb hbox hg)|((with_reducible refine zgd 9 rfl ?_);refine zbx 9 #[.int .i64 aX,.int .i64 aY,.slice bG aW.length bE,.slice bF aV.length bD] 33 ?_;intro bH hg gR hbox hb;have aD:=zA hbox;have bK:=zga (w:=w) hg;replace HB:=zbs hb;replace aA:=zlh aA hg hb;obtain⟨aM,aK,aA⟩:=aA;replace aC:=zlh aC hg hb;obtain⟨aG,aE,aC⟩:=aC;clear hb hbox hg;have gE:=aH.out;have fT:=aI.out;have gD:=aG.out;have fS:=aE.out;obtain⟨eG,eF,cU,cT⟩:=ze2 aC)|((with_reducible refine zgf 41 rfl ?_);refine zgl 12 Try.func41 #[.agg #[.int .i64 aQ,.int .i64 aN]] ?_;(with_reducible refine(q4m.calls aQ aN true _ A6.out).mono ?_);rintro e gQ ⟨rfl,hb⟩;refine⟨_,rfl,?_⟩;replace aA:=zkb aA hb;replace aC:=zkb aC hb;replace aD:=zkb aD hb;replace HB:=zbs hb;(try clear hb);have gC:=aM.out;have fR:=aK.out;obtain⟨eE,eD,eC,cS,cR,cQ⟩:=ze3 aA)|(go_at_call 36;(with_reducible refine(q0l.calls k aU aT _ _ aJ _ _ l3 false _ ?s1 ?s2 ?s3 ?s4 A8.out).mono ?_);(case s1=>exact zCb aZ);(case s2=>exact bA.out);(case s3=>exact zCb bZ);(case s4=>exact cA.out);rintro e gP ⟨rfl,hb⟩;replace aA:=zkb aA hb;replace aC:=zkb aC hb;replace aD:=zkb aD hb;replace HB:=zbs hb;(try clear hb)))
   go_ret;exact⟨_,zE,by first|exact R_nil _ _ _ _ _|exact N_nil _ _ _ _ _|exact V_nil _ _ _ _ _|exact Q_nil _ _ _ _ _|exact S_nil _ _ _ _ _,zb⟩
 ·replace c7:=Bool.eq_false_iff.mpr c7;subst c7;rw[if_neg zNo] at H;obtain rfl:=zI H
  go_wp2_with (first|((with_reducible refine zgd 5 rfl ?_);refine zbx 5 #[.int .i64 aU,.int .i64 aT,.slice bC aJ.length bB] 26 ?_;intro bJ hg gO hbox hb;have aA:=zA hbox;have bM:=zga (w:=w) hg;replace HB:=zbs hb;clear hb hbox hg)|((with_reducible refine zgd 7 rfl ?_);refine zbx 7 #[.int .i64 aQ,.int .i64 aN] 28 ?_;intro bI hg gN hbox hb;have aC:=zA hbox;have bL:=zga (w:=w) hg;replace HB:=zbs hb;replace aA:=zlh aA hg hb;obtain⟨aI,aH,aA⟩:=aA;clear hb hbox hg)|((with_reducible refine zgd 9 rfl ?_);refine zbx 9 #[.int .i64 aX,.int .i64 aY,.slice bG aW.length bE,.slice bF aV.length bD] 33 ?_;intro bH hg gM hbox hb;have aD:=zA hbox;have bK:=zga (w:=w) hg;replace HB:=zbs hb;replace aA:=zlh aA hg hb;obtain⟨aM,aK,aA⟩:=aA;replace aC:=zlh aC hg hb;obtain⟨aG,aE,aC⟩:=aC;clear hb hbox hg;have gB:=aH.out;have fQ:=aI.out;have gA:=aG.out;have fP:=aE.out;obtain⟨eB,eA,cP,cO⟩:=ze2 aC)|((with_reducible refine zgf 41 rfl ?_);refine zgl 12 Try.func41 #[.agg #[.int .i64 aQ,.int .i64 aN]] ?_;(with_reducible refine(q4m.calls aQ aN false _ A6.out).mono ?_);rintro e gL ⟨rfl,hb⟩;refine⟨_,rfl,?_⟩;replace aA:=zkb aA hb;replace aC:=zkb aC hb;replace aD:=zkb aD hb;replace HB:=zbs hb;(try clear hb)))
  go_ret;exact⟨_,zE,by first|exact R_nil _ _ _ _ _|exact N_nil _ _ _ _ _|exact V_nil _ _ _ _ _|exact Q_nil _ _ _ _ _|exact S_nil _ _ _ _ _,zb⟩

def q5p.f (a:List (S95)):Option ((List (S95))):=(some (([]:List (S95)):List (S95))).bind fun b=>(if b.length+a.length<4398046511104 then(some (b++a)) else(none))
theorem q5p.calls (A0:Option Addr) (c0:Nat) (l0:List (S95)) (r:List (S95)) (w:World) (aI:Kd.C k95 w A0 l0.length l0) (aJ:l0.length≤c0) (h:q5p.f l0=some r) :
  Calls Try.prog 35 #[.slice A0 l0.length c0] w fun e w'=>∃ v0_:Value,e=.returned (v0_)∧Kd.R k95 95 w' w.heap.size (fun _=>True) v0_ r∧Below w.heap.size w w':=by
 have aQ:=zA aI;have aU:=zA aJ;clear aI aJ;have HB:=zA (Below.refl w.heap.size w);have H:=h;clear h;unfold q5p.f at H;obtain⟨aA,aE⟩:∃ y_:List (S95),y_=(([]:List (S95))):=⟨_,rfl⟩
 replace H:(if aA.length+l0.length<4398046511104 then(some (aA++l0)) else(none))=some r:=zY aE H
 have Ny634:=zA aE;clear aE;obtain⟨aM,H⟩:=q8c H;obtain⟨aK,aD⟩:∃ y_:List (S95),y_=(aA++l0):=⟨_,rfl⟩
 replace H:(some aK)=some r:=zY aD H
 have Ny637:=zA aD;clear aD;obtain rfl:=zI H;go_enter Try.func35,Try.ntmps35
 go_wp2_with (first|((with_reducible refine zgd 3 rfl ?_);refine q5z k95 _ 95 ?hg (N:=3) ?hd (xs:=([]:List (S95))) (inner:=[]) (ok:=fun _=>True) (okp:=fun _=>True) ?hr ?hp (fun _ hk=>hk) trivial (Below.refl _ _) (Nat.le_refl _) (by simp) ?_;(case hd=>rfl);(case hg=>rfl);(case hr=>first|(go_simp;done)|(go_simp;rfl));(case hp=>exact(q3o.none _ _));intro v635 w3 ho4 hb hg_ hnew_;clear hg_ hnew_;(first|rw[←Ny634.out] at ho4|(simp only[Int.reduceToNat] at ho4;rw[←Ny634.out] at ho4));have aG:=z_l ho4;replace HB:=zbs hb;clear hb ho4)|((with_reducible refine q0t (b:=.append) (xs:=#[.tmp 3,.tmp 4]) rfl ?_);at_builtin;refine q6h k95 (w0:=w) w.heap.size rfl (.tmp 3) (.tmp 4) 30 95 (.agg #[(.int .i64 0),(.int .i64 0),(.int .i64 0),(.bool false)]) 32 rfl Try.underlying30 info95 rfl (by decide) (by omega) v635 aA l0 _ _ _ (fun _=>True) (fun _=>False) rfl rfl ?aO ?aR (fun _ _ h=>h) (fun _ h=>h.elim) ?aF ?aB ?aS ?aL ?_;(case aR=>repeat (first|exact(q3z aQ.out HB.out)|(with_reducible refine q6k ?_ _)|(with_reducible refine q6j ?_ _)|(with_reducible refine q7i ?_)));(case aB=>exact zb);(case aF=>exact(fun _ _=>trivial));(case aO=>exact(zR aG));(case aS=>exact(q0f zb));(case aL=>have:=aM.out;omega);intro v638 w5 ho hb hg hat;rw[←Ny637.out] at ho;replace HB:=zA hb;have aH:=zA ho;clear aG;clear ho hb hg hat))
 go_ret;exact⟨_,zE,zR aH,zb⟩

def q1c.f (c:Int) (d:Int) (e:List (S95)) (a:List Bool):Option (Int × Int × (List (S95)) × List Bool):=(q5p.f e).bind fun f=>((some (([]:List Bool):List Bool)).bind fun b=>(if b.length+a.length<140737488355328 then(some (c,d,f,(b++a))) else(none)))
def q1c.T1:Bool × List (List Nat × List Nat):=(true,[([],[]),([0],[0]),([],[]),([2],[2]),([],[]),([4],[4]),([5],[5]),([],[]),([],[]),([8],[8]),([7,9,6],[7,9]),([1,3,6,10],[1,3,6,10]),([11,10,0,1,2,3,4,5,6,7,8,9,10,11],[11])])
def q1c.B1:List Nat:=[0,1,0,4,0,16,48,0,0,256,1008,2047,4095]
theorem q1c.tab1:q6q .any (opsOf Try.f15 1)=q1c.T1:=by kernel_rfl
theorem q1c.q8h:q4a q1c.T1.2 q1c.B1=true:=by kernel_rfl
theorem q1c.calls (aN:Int) (aM:Int) (aU:Option Addr) (aT:Nat) (aI:List (S95)) (aW:Option Addr) (aV:Nat) (aH:List Bool) (r1:Int) (r2:Int) (r3:List (S95)) (r4:List Bool) (w:World) (bE:Kd.C k95 w aU aI.length aI) (bG:aI.length≤aT) (bD:Kd.C Kd.bool w aW aH.length aH) (bF:aH.length≤aV) (h:q1c.f aN aM aI aH=some (r1,r2,r3,r4)) :
  Calls Try.prog 15 #[.agg #[.int .i64 aN,.int .i64 aM,.slice aU aI.length aT,.slice aW aH.length aV]] w fun e w'=>∃ v2_ v3_:Value,e=.returned (.agg #[.int .i64 r1,.int .i64 r2,v2_,v3_])∧Kd.R k95 95 w' w.heap.size (fun _=>True) v2_ r3∧Kd.R Kd.bool 4 w' w.heap.size (fun _=>True) v3_ r4∧Below w.heap.size w w':=by
 have hu33:=Try.underlying33;have bH:=zA bE;have bJ:=zA bG;clear bE bG;have bN:=zA bD;have cL:=zA bF;clear bD bF;have HB:=zA (Below.refl w.heap.size w);have H:=h;clear h;unfold q1c.f at H;obtain⟨aX,A2,H⟩:=zB H;obtain⟨aZ,bB⟩:∃ y_:List Bool,y_=(([]:List Bool)):=⟨_,rfl⟩
 replace H:(if aZ.length+aH.length<140737488355328 then(some (aN,aM,aX,(aZ++aH))) else(none))=some (r1,r2,r3,r4):=zY bB H
 have Ny645:=zA bB;clear bB;obtain⟨bV,H⟩:=q8c H;obtain⟨bK,bA⟩:∃ y_:List Bool,y_=(aZ++aH):=⟨_,rfl⟩
 replace H:(some (aN,aM,aX,bK))=some (r1,r2,r3,r4):=zY bA H
 have Ny648:=zA bA;clear bA;simp only[Option.some.injEq,Prod.mk.injEq] at H;obtain⟨rfl,rfl,rfl,rfl⟩:=H;go_enter Try.func15,Try.ntmps15
 try go_wp2_with (first|((with_reducible refine zgd 1 rfl ?_);refine zbx 1 #[.int .i64 aN,.int .i64 aM,.slice aU aI.length aT,.slice aW aH.length aV] 33 ?_;intro aG hg w4 hbox hb;have aA:=zA hbox;have cN:=zga (w:=w) hg;replace HB:=zbs hb;clear hb hbox hg)|((with_reducible refine zgd 2 rfl ?_);refine zbx 2 #[.int .i64 0,.int .i64 0,.slice none 0 0,.slice none 0 0] 33 ?_;intro aE hg w5 hbox hb;have aD:=zA hbox;have cM:=zga (w:=w) hg;replace HB:=zbs hb;replace aA:=zlh aA hg hb;obtain⟨aC,aQ,aA⟩:=aA;clear hb hbox hg))
 replace aA:=q4h aA;replace aD:=q4h aD;replace HB:=z_b HB;refine q3g (n:=13) (S:=fun w'=>w'.cell? ⟨aG,0,none⟩=some (.int .i64 aN)∧w'.cell? ⟨aG,1,none⟩=some (.int .i64 aM)∧w'.cell? ⟨aG,2,none⟩=some (.slice aU aI.length aT)∧w'.cell? ⟨aG,3,none⟩=some (.slice aW aH.length aV)) (ds:=[]) _ (by kernel_rfl) rfl rfl ⟨zq aA 0,zq aA 1,zq aA 2,zq aA 3⟩ (fun hHeld=>?_);refine q1m q1c.tab1 q1c.q8h (fun HT_ HW_=>?_);generalize w5.drew=w6 at aA aD HB hHeld ⊢;refine z_p 0 ?_;refine z_p 2 ?_;refine z_p 4 ?_;refine z_p 8 ?_;refine zt 1 4 HT_ HW_ hHeld ?_;refine zt 3 6 HT_ HW_ hHeld ?_;refine zt 5 8 HT_ HW_ hHeld ?_;refine zt 9 12 HT_ HW_ hHeld ?_;refine q9w (σ:=Value × Value) 3 #[true,true,true,true,true,true,true,true,true,true,false,false,false] (fun s_=>[(9,s_.1),(10,s_.2)]) (fun s_ w'=>(w'.cell? ⟨aG,0,none⟩=some (.int .i64 aN)∧w'.cell? ⟨aG,1,none⟩=some (.int .i64 aM)∧w'.cell? ⟨aG,2,none⟩=some (.slice aU aI.length aT)∧w'.cell? ⟨aG,3,none⟩=some (.slice aW aH.length aV))∧(Kd.R k95 95 w' w.heap.size (fun _=>True) s_.1 aX)∧(Kd.R Kd.bool 4 w' w.heap.size (fun _=>True) s_.2 aZ)∧(w'.heap[aG]?=some (.cells #[.int .i64 aN,.int .i64 aM,.slice aU aI.length aT,.slice aW aH.length aV] 33 (0,0)))∧(w'.heap[aE]?=some (.cells #[.int .i64 0,.int .i64 0,.slice none 0 0,.slice none 0 0] 33 (0,0)))∧(Below w.heap.size w w')) ?_ ?_;rotate_left
 ·intro hCont;refine two_ (i:=6) (j:=7) (Ni:=some 9) (Nj:=some 10) #[true,true,true,true,true,true,true,false,true,true,false,false,false] #[true,true,true,true,true,true,false,true,true,true,false,false,false] rfl rfl rfl rfl (q9d HT_.out (by kernel_rfl)) (by decide) (by decide) (fun K hK=>?_) (fun K hK=>?_)
  ·skip
   refine zgo Try.func35 #[.slice aU aI.length aT] ?_
   with_reducible refine(q5p.calls _ _ aI aX _ ?s1 ?s2 A2.out).mono ?_
   (case s1=>exact zCb bH);(case s2=>exact bJ.out);rintro e w7 ⟨v643,rfl,ho0,hb⟩;refine⟨_,rfl,?_⟩;have aK:=z_l ho0;replace aA:=zkb aA hb;replace aD:=zkb aD hb;replace HB:=zbs hb;(try clear hb);(try clear ho0);refine hK.out _ _ ⟨zq aA 0,zq aA 1,zq aA 2,zq aA 3⟩ (fun hHeld=>?_);clear hK K;refine q1j zV ?_;refine zo 7 10 HT_ (fun K hK=>?_);refine q5g Kd.bool _ 4 ?hg (N:=10) ?hd (xs:=([]:List Bool)) (inner:=[]) (ok:=fun _=>True) (okp:=fun _=>True) ?hr ?hp (fun _ hk=>hk) trivial (Below.refl _ _) (Nat.le_refl _) (by simp) ?_;(case hd=>rfl);(case hg=>rfl);(case hr=>first|(go_simp;done)|(go_simp;rfl));(case hp=>exact(q3o.none _ _));intro v646 w8 ho9 hb hg_ hnew_;clear hg_ hnew_;(first|rw[←Ny645.out] at ho9|(simp only[Int.reduceToNat] at ho9;rw[←Ny645.out] at ho9));replace aK:=zRb aK hb;have aJ:=z_l ho9;replace aA:=zkb aA hb;replace aD:=zkb aD hb;replace HB:=zbs hb;clear hb ho9;refine hK.out _ _ ⟨zq aA 0,zq aA 1,zq aA 2,zq aA 3⟩ (fun hHeld=>?_);clear hK K;refine q1j (a':=?_) ?_ ?_;rotate_left
   ·show Act.put _ (some 10) _=_
    simp only[Act.put,z_L,q2n,q3a];rfl
   exact q1j (by simp only[q3t,Act.put,z_L]) (hCont (v643,v646) _ ⟨hHeld,(zR aK),(zR aJ),(zk aA),(zk aD),zb⟩)
  ·skip
   refine q5g Kd.bool _ 4 ?hg (N:=10) ?hd (xs:=([]:List Bool)) (inner:=[]) (ok:=fun _=>True) (okp:=fun _=>True) ?hr ?hp (fun _ hk=>hk) trivial (Below.refl _ _) (Nat.le_refl _) (by simp) ?_;(case hd=>rfl);(case hg=>rfl);(case hr=>first|(go_simp;done)|(go_simp;rfl));(case hp=>exact(q3o.none _ _));intro v646 w7 ho8 hb hg_ hnew_;clear hg_ hnew_;(first|rw[←Ny645.out] at ho8|(simp only[Int.reduceToNat] at ho8;rw[←Ny645.out] at ho8));have aJ:=z_l ho8;replace aA:=zkb aA hb;replace aD:=zkb aD hb;replace HB:=zbs hb;clear hb ho8;refine hK.out _ _ ⟨zq aA 0,zq aA 1,zq aA 2,zq aA 3⟩ (fun hHeld=>?_);clear hK K;refine q1j zV ?_;refine zo 6 9 HT_ (fun K hK=>?_);refine zgo Try.func35 #[.slice aU aI.length aT] ?_
   with_reducible refine(q5p.calls _ _ aI aX _ ?s1 ?s2 A2.out).mono ?_
   (case s1=>exact zCb bH);(case s2=>exact bJ.out);rintro e w9 ⟨v643,rfl,ho0,hb⟩;refine⟨_,rfl,?_⟩;replace aJ:=zRb aJ hb;have aK:=z_l ho0;replace aA:=zkb aA hb;replace aD:=zkb aD hb;replace HB:=zbs hb;(try clear hb);(try clear ho0);refine hK.out _ _ ⟨zq aA 0,zq aA 1,zq aA 2,zq aA 3⟩ (fun hHeld=>?_);clear hK K;refine q1j (a':=?_) ?_ ?_;rotate_left
   ·show Act.put _ (some 9) _=_
    simp only[Act.put,z_L,q2n,q3a];rfl
   exact q1j (by simp only[q3t,Act.put,z_L]) (hCont (v643,v646) _ ⟨hHeld,(zR aK),(zR aJ),(zk aA),(zk aD),zb⟩)
 rintro⟨v643,v646⟩ aY ⟨hS_,h0_,h1_,h2_,h3_,h4_⟩;have bS:q0a (Kd.R k95 95 aY w.heap.size (fun _=>True) v643 aX):=⟨h0_⟩;have bR:q0a (Kd.R Kd.bool 4 aY w.heap.size (fun _=>True) v646 aZ):=⟨h1_⟩;have bQ:q0a (aY.heap[aG]?=some (.cells #[.int .i64 aN,.int .i64 aM,.slice aU aI.length aT,.slice aW aH.length aV] 33 (0,0))):=⟨h2_⟩;have bP:q0a (aY.heap[aE]?=some (.cells #[.int .i64 0,.int .i64 0,.slice none 0 0,.slice none 0 0] 33 (0,0))):=⟨h3_⟩;have bO:q0a (Below w.heap.size w aY):=⟨h4_⟩;clear aA;clear aD;clear HB;clear h0_ h1_ h2_ h3_ h4_;have aK:=bS;have aJ:=bR;have aA:=bQ;have aD:=bP;have HB:=bO;clear bS bR bQ bP bO;have hHeld:aY.cell? ⟨aG,0,none⟩=some (.int .i64 aN)∧aY.cell? ⟨aG,1,none⟩=some (.int .i64 aM)∧aY.cell? ⟨aG,2,none⟩=some (.slice aU aI.length aT)∧aY.cell? ⟨aG,3,none⟩=some (.slice aW aH.length aV):=hS_;refine q1j (a':=?_) ?_ ?_;rotate_left
 ·simp only[q3t,Act.put,z_L];rfl
 refine zo 10 13 HT_ (fun K hK=>?_);refine q4u Kd.bool (w0:=w) w.heap.size (by rfl) (.tmp 10) (.tmp 12) 31 4 (.bool false) 1 rfl Try.underlying31 q9a rfl (by decide) (by omega) v646 aZ aH _ _ _ (fun _=>True) (fun _=>False) rfl rfl ?aO ?aR (fun _ _ h=>h) (fun _ h=>h.elim) ?aF ?aB ?aS ?aL ?_;(case aR=>repeat (first|exact(q3z bN.out HB.out)|(with_reducible refine q6k ?_ _)|(with_reducible refine q6j ?_ _)|(with_reducible refine q7i ?_)));(case aB=>exact zb);(case aF=>exact(fun _ _=>trivial));(case aO=>exact(zR aJ));(case aS=>exact(q0f zb));(case aL=>have:=bV.out;omega);intro v649 bC ho hb hg hat;rw[←Ny648.out] at ho;replace aA:=zgr aA hg (q5s aJ.out aA.out (by decide));replace aD:=zgr aD hg (q5s aJ.out aD.out (by decide));replace aK:=zA (q7r (zR aK) (q7q (zR aJ)) (by decide) hg);replace HB:=zA hb;have bI:=zA ho;clear aJ;clear ho hb hg hat;obtain⟨bX,bU,bM⟩:=q0j bI.out;(first|subst bM|(injection bM with f1_ f2_ f3_;have f4_:=f1_.symm;have f5_:=f3_.symm;clear f1_ f2_ f3_;subst f4_;subst f5_));obtain⟨bW,bT,bL⟩:=q0j aK.out;(first|subst bL|(injection bL with f1_ f2_ f3_;have f4_:=f1_.symm;have f5_:=f3_.symm;clear f1_ f2_ f3_;subst f4_;subst f5_));refine hK.out _ _ ⟨zq aA 0,zq aA 1,zq aA 2,zq aA 3⟩ (fun hHeld=>?_);clear hK K;refine q1j zV ?_;refine z_p 11 ?_;refine zon 12 HT_ (fun K hK=>?_);have cT:bC.cell? ⟨aE,0,none⟩=some (.int .i64 0):=zq aD 0;have cK:=q0c aD.out 0;have cB:=aC.out;have cF:=aQ.out;have cS:bC.cell? ⟨aE,1,none⟩=some (.int .i64 0):=zq aD 1;have cJ:=q0c aD.out 1;have cA:=aC.out;have cE:=aQ.out;have cR:bC.cell? ⟨aE,2,none⟩=some (.slice none 0 0):=zq aD 2;have cI:=q0c aD.out 2;have bZ:=aC.out;have cD:=aQ.out;have cQ:bC.cell? ⟨aE,3,none⟩=some (.slice none 0 0):=zq aD 3;have cH:=q0c aD.out 3;have bY:=aC.out;have cC:=aQ.out;refine q6i (w1:=?_) (by rfl) rfl ?_ ?_;rotate_left
 ·go_simp
  rfl
 refine hK.out _ _ ⟨(zCF hHeld.1),(zCF hHeld.2.1),(zCF hHeld.2.2.1),(zCF hHeld.2.2.2)⟩ (fun hHeld=>?_);clear hK K;refine q4j (q2e HT_.out (by kernel_rfl)) ?_
 try go_wp2
 refine bodyPost_ret (results_cell_row rfl _ _ aE 33 #[.int .i64 aN,.int .i64 aM,.slice bW aX.length bT,.slice bX bK.length bU] (0,0) _ rfl (zkp aD) Try.underlying33 rfl (by kernel_rfl)) rfl ?_;exact⟨_,_,zE,zF1 aK aD,zF1 bI aD,zb⟩

def q2p.l0:Nat→Int→List (S95)→Int→Int→Option (Int)
  |0,_,_,_,_=>none
  |k+1,c,b,d,a=>if a<d then(if 0≤a then(if a<(b.length:Int) then(if ((q0n b a).f3=true) then(q2p.l0 k c b d (wrap64 (a+1))) else(q2p.l0 k (wrap64 (c+((q0n b a).f1))) b d (wrap64 (a+1)))) else(none)) else(none)) else(some c)
def q2p.f (k:Nat) (a:List (S95)):Option (Int):=(q0u.f k a).bind fun b=>(if b=true then(q2p.l0 k 0 a (a.length:Int) 0) else(some 0))
theorem q2p.calls (k:Nat) (A0:Option Addr) (c0:Nat) (l0:List (S95)) (r:Int) (w:World) (aW:Kd.C k95 w A0 l0.length l0) (aX:l0.length≤c0) (h:q2p.f k l0=some r) :
  Calls Try.prog 56 #[.slice A0 l0.length c0] w fun e w'=>e=.returned (.int .i64 r)∧Below w.heap.size w w':=by
 have hu95:=Try.underlying95;have aM:=zA aW;have aY:=zA aX;clear aW aX;have HB:=zA (Below.refl w.heap.size w);have H:=h;clear h;unfold q2p.f at H;obtain⟨aZ,A2,H⟩:=zB H;go_enter Try.func56,Try.ntmps56
 by_cases c3:aZ=true
 ·subst c3;rw[if_pos rfl] at H;have H':=zA H;clear H
  go_wp2_with (first|((with_reducible refine zgf 62 rfl ?_);refine zgl 7 Try.func62 #[.slice A0 l0.length c0] ?_;(with_reducible refine(q0u.calls k _ _ l0 true _ ?s1 ?s2 A2.out).mono ?_);(case s1=>exact zCx aM.out);(case s2=>exact aY.out);rintro e w4 ⟨rfl,hb⟩;refine⟨_,rfl,?_⟩;replace HB:=zbs hb;(try clear hb)))
  go_loopg [3,11] k (fun kq v3 v11 w'=>∃ (aD:Int) (aA:Int),v3=.int .i64 aD∧v11=.int .i64 aA∧q0a (q2p.l0 kq aD l0 (l0.length:Int) aA=some r)∧q0a (kq≤k)∧q0a (Below w.heap.size w w'))
  case atStart=>exact⟨(0),(0),zr,zr,H',⟨Nat.le_refl _⟩,⟨zb⟩⟩
  case round =>
   clear H';(try clear c3);obtain⟨aD,aA,rfl,rfl,HA,HK1,HB⟩:=hrel
   cases gk with
   |zero=>exact absurd HA.out (by simp[q2p.l0])
   |succ k1 =>
    have H:=HA.out;clear HA;simp only[q2p.l0] at H
    by_cases c5:aA<(l0.length:Int)
    ·rw[if_pos c5] at H;have bB:=decide_eq_true c5;clear c5;obtain⟨bX,H⟩:=q5b H;obtain⟨bW,H⟩:=q5b H;obtain⟨bq8,hbq8⟩:∃ b_:Bool,b_=((q0n l0 aA).f3):=⟨_,rfl⟩
     replace H:(if (bq8=true) then(q2p.l0 k1 aD l0 (l0.length:Int) (wrap64 (aA+1))) else(q2p.l0 k1 (wrap64 (aD+((q0n l0 aA).f1))) l0 (l0.length:Int) (wrap64 (aA+1))))=some r:=by rw[←hbq8] at H;exact H
     have Nbq8:=zA hbq8;clear hbq8;have bV:=zT (0≤(aA:Int));have bU:=zT (aA<(l0.length:Int));obtain⟨bT,bA,aI,aH,aG,aE⟩:=q7o aM.out aA zd zd;(try rw[←Nbq8.out] at aE);cases bA;replace aI:=zC HB aI;replace aH:=zC HB aH;replace aG:=zC HB aG;replace aE:=zC HB aE
     by_cases c9:(bq8=true)
     ·subst c9;rw[if_pos rfl] at H;have H':=zA H;clear H
      go_wp2_with (first|((with_reducible refine zgd 5 rfl ?_);refine zbx 5 #[.int .i64 0,.int .i64 0,.int .i64 0,.bool false] 95 ?_;intro aN hg cA hbox hb;have aJ:=zA hbox;have aU:=zga (w:=w) hg;replace HB:=zbs hb;clear hb hbox hg;obtain⟨bR,bQ,bP,bO,bJ,bI,bH,bG⟩:=ze4 aJ))
      go_roundg k1
      case measure=>have:=HK1.out;omega
      case rel=>exact⟨(aD),(wrap64 (aA+1)),zr,zr,H',⟨by have:=HK1.out;omega⟩,⟨zb⟩⟩
     ·replace c9:=Bool.eq_false_iff.mpr c9;subst c9;rw[if_neg zNo] at H;have H':=zA H;clear H
      go_wp2_with (first|((with_reducible refine zgd 5 rfl ?_);refine zbx 5 #[.int .i64 0,.int .i64 0,.int .i64 0,.bool false] 95 ?_;intro aN hg bZ hbox hb;have aJ:=zA hbox;have aU:=zga (w:=w) hg;replace HB:=zbs hb;clear hb hbox hg;obtain⟨bN,bM,bL,bK,bF,bE,bD,bC⟩:=ze4 aJ))
      go_roundg k1
      case measure=>have:=HK1.out;omega
      case rel=>exact⟨(wrap64 (aD+((q0n l0 aA).f1))),(wrap64 (aA+1)),zr,zr,H',⟨by have:=HK1.out;omega⟩,⟨zb⟩⟩
    ·rw[if_neg c5] at H;have bB:=decide_eq_false c5;clear c5;obtain rfl:=zI H;go_wp2;go_ret;exact⟨zE,zb⟩
 ·replace c3:=Bool.eq_false_iff.mpr c3;subst c3;rw[if_neg zNo] at H;obtain rfl:=zI H
  go_wp2_with (first|((with_reducible refine zgf 62 rfl ?_);refine zgl 7 Try.func62 #[.slice A0 l0.length c0] ?_;(with_reducible refine(q0u.calls k _ _ l0 false _ ?s1 ?s2 A2.out).mono ?_);(case s1=>exact zCx aM.out);(case s2=>exact aY.out);rintro e bY ⟨rfl,hb⟩;refine⟨_,rfl,?_⟩;replace HB:=zbs hb;(try clear hb)))
  go_ret;exact⟨zE,zb⟩

def q1s.f (k:Nat) (e:Int) (a:Int) (b:List (S95)) (f:List Bool):Option (Int):=if a<0 then(some 0) else((q2p.f k b).bind fun c=>(if a≥c then(some 0) else((q2p.f k b).bind fun d=>(some (wrap64 (d-a))))))
def q1s.T1:Bool × List (List Nat × List Nat):=(true,[([],[]),([0],[0]),([1],[1]),([2],[2]),([3],[3]),([4,3],[3,4]),([3],[3]),([6,3],[3,6]),([7,3,3],[3,7]),([5,8,3],[3,5,8]),([3,9],[3,9])])
def q1s.B1:List Nat:=[0,1,3,7,15,31,15,79,207,511,1023]
theorem q1s.tab1:q6q .any (opsOf Try.f34 1)=q1s.T1:=by kernel_rfl
theorem q1s.q8h:q4a q1s.T1.2 q1s.B1=true:=by kernel_rfl
theorem q1s.calls (k:Nat) (aK:Int) (aE:Int) (aI:Option Addr) (aH:Nat) (aD:List (S95)) (aM:Option Addr) (aJ:Nat) (aG:List Bool) (r:Int) (w:World) (aX:Kd.C k95 w aI aD.length aD) (aZ:aD.length≤aH) (aW:Kd.C Kd.bool w aM aG.length aG) (aY:aG.length≤aJ) (h:q1s.f k aK aE aD aG=some r) :
  Calls Try.prog 34 #[.agg #[.int .i64 aK,.int .i64 aE,.slice aI aD.length aH,.slice aM aG.length aJ]] w fun e w'=>e=.returned (.int .i64 r)∧Below w.heap.size w w':=by
 have hu33:=Try.underlying33;have aQ:=zA aX;have aT:=zA aZ;clear aX aZ;have bG:=zA aW;have bH:=zA aY;clear aW aY;have HB:=zA (Below.refl w.heap.size w);have H:=h;clear h;unfold q1s.f at H;go_enter Try.func34,Try.ntmps34
 by_cases c2:aE<0
 ·rw[if_pos c2] at H;have aV:=decide_eq_true c2;clear c2;obtain rfl:=zI H;(try simp only[aV])
  try go_wp2_with (first|((with_reducible refine zgd 1 rfl ?_);refine zbx 1 #[.int .i64 aK,.int .i64 aE,.slice aI aD.length aH,.slice aM aG.length aJ] 33 ?_;intro aC hg w3 hbox hb;have aA:=zA hbox;have bA:=zga (w:=w) hg;replace HB:=zbs hb;clear hb hbox hg))
  replace aA:=q4h aA;replace HB:=z_b HB;refine q3g (n:=11) (S:=fun w'=>w'.cell? ⟨aC,0,none⟩=some (.int .i64 aK)∧w'.cell? ⟨aC,1,none⟩=some (.int .i64 aE)∧w'.cell? ⟨aC,2,none⟩=some (.slice aI aD.length aH)∧w'.cell? ⟨aC,3,none⟩=some (.slice aM aG.length aJ)) (ds:=[]) _ (by kernel_rfl) rfl rfl ⟨zq aA 0,zq aA 1,zq aA 2,zq aA 3⟩ (fun hHeld=>?_);refine q1m q1s.tab1 q1s.q8h (fun HT_ HW_=>?_);generalize w3.drew=w4 at aA HB hHeld ⊢;refine z_p 0 ?_;refine zt 1 4 HT_ HW_ hHeld ?_;refine z_p 2 ?_;refine z_p 3 ?_;refine z_u 4 ?_;refine z_u 5 ?_;refine z_u 6 ?_;refine z_u 7 ?_;refine z_u 8 ?_;refine z_u 9 ?_;refine z_p 10 ?_;refine q4j (q2e HT_.out (by kernel_rfl)) ?_
  try go_wp2
  go_ret;exact⟨zE,zb⟩
 ·rw[if_neg c2] at H;have aV:=decide_eq_false c2;clear c2;obtain⟨aN,A5,H⟩:=zB H;(try simp only[aV])
  by_cases c6:aE≥aN
  ·rw[if_pos c6] at H;have aU:decide (aN≤aE)=true:=decide_eq_true c6;clear c6;obtain rfl:=zI H;(try simp only[aU])
   try go_wp2_with (first|((with_reducible refine zgd 1 rfl ?_);refine zbx 1 #[.int .i64 aK,.int .i64 aE,.slice aI aD.length aH,.slice aM aG.length aJ] 33 ?_;intro aC hg w7 hbox hb;have aA:=zA hbox;have bA:=zga (w:=w) hg;replace HB:=zbs hb;clear hb hbox hg))
   replace aA:=q4h aA;replace HB:=z_b HB;refine q3g (n:=11) (S:=fun w'=>w'.cell? ⟨aC,0,none⟩=some (.int .i64 aK)∧w'.cell? ⟨aC,1,none⟩=some (.int .i64 aE)∧w'.cell? ⟨aC,2,none⟩=some (.slice aI aD.length aH)∧w'.cell? ⟨aC,3,none⟩=some (.slice aM aG.length aJ)) (ds:=[]) _ (by kernel_rfl) rfl rfl ⟨zq aA 0,zq aA 1,zq aA 2,zq aA 3⟩ (fun hHeld=>?_);refine q1m q1s.tab1 q1s.q8h (fun HT_ HW_=>?_);generalize w7.drew=w8 at aA HB hHeld ⊢;refine z_p 0 ?_;refine zt 1 4 HT_ HW_ hHeld ?_;refine z_p 2 ?_;refine z_p 3 ?_;refine z_p 4 ?_;refine z_p 6 ?_;refine zt 5 8 HT_ HW_ hHeld ?_;refine zt 7 10 HT_ HW_ hHeld ?_;refine zo 8 11 HT_ (fun K hK=>?_);refine zgo Try.func56 #[.slice aI aD.length aH] ?_
   with_reducible refine(q2p.calls k _ _ aD aN _ ?s1 ?s2 A5.out).mono ?_
   (case s1=>exact zCb aQ);(case s2=>exact aT.out);rintro e w9 ⟨rfl,hb⟩;refine⟨_,rfl,?_⟩;replace aA:=zkb aA hb;replace HB:=zbs hb;(try clear hb);refine hK.out _ _ ⟨zq aA 0,zq aA 1,zq aA 2,zq aA 3⟩ (fun hHeld=>?_);clear hK K;refine q1j zV ?_;refine z_p 9 ?_;refine z_p 10 ?_;refine q4j (q2e HT_.out (by kernel_rfl)) ?_
   try go_wp2
   go_ret;exact⟨zE,zb⟩
  ·rw[if_neg c6] at H;have aU:decide (aN≤aE)=false:=decide_eq_false c6;clear c6;obtain⟨bB,bF,H⟩:=zB H;obtain rfl:=zI H;(try simp only[aU])
   try go_wp2_with (first|((with_reducible refine zgd 1 rfl ?_);refine zbx 1 #[.int .i64 aK,.int .i64 aE,.slice aI aD.length aH,.slice aM aG.length aJ] 33 ?_;intro aC hg bD hbox hb;have aA:=zA hbox;have bA:=zga (w:=w) hg;replace HB:=zbs hb;clear hb hbox hg))
   replace aA:=q4h aA;replace HB:=z_b HB;refine q3g (n:=11) (S:=fun w'=>w'.cell? ⟨aC,0,none⟩=some (.int .i64 aK)∧w'.cell? ⟨aC,1,none⟩=some (.int .i64 aE)∧w'.cell? ⟨aC,2,none⟩=some (.slice aI aD.length aH)∧w'.cell? ⟨aC,3,none⟩=some (.slice aM aG.length aJ)) (ds:=[]) _ (by kernel_rfl) rfl rfl ⟨zq aA 0,zq aA 1,zq aA 2,zq aA 3⟩ (fun hHeld=>?_);refine q1m q1s.tab1 q1s.q8h (fun HT_ HW_=>?_);generalize bD.drew=bM at aA HB hHeld ⊢;refine z_p 0 ?_;refine zt 1 4 HT_ HW_ hHeld ?_;refine z_p 2 ?_;refine z_p 3 ?_;refine z_p 4 ?_;refine z_p 6 ?_;refine zt 5 8 HT_ HW_ hHeld ?_;refine zt 7 10 HT_ HW_ hHeld ?_;refine zo 8 11 HT_ (fun K hK=>?_);refine zgo Try.func56 #[.slice aI aD.length aH] ?_
   with_reducible refine(q2p.calls k _ _ aD aN _ ?s1 ?s2 A5.out).mono ?_
   (case s1=>exact zCb aQ);(case s2=>exact aT.out);rintro e bC ⟨rfl,hb⟩;refine⟨_,rfl,?_⟩;replace aA:=zkb aA hb;replace HB:=zbs hb;(try clear hb);refine hK.out _ _ ⟨zq aA 0,zq aA 1,zq aA 2,zq aA 3⟩ (fun hHeld=>?_);clear hK K;refine q1j zV ?_;refine z_p 9 ?_;refine z_p 10 ?_;refine q4j (q2e HT_.out (by kernel_rfl)) ?_
   try go_wp2
   replace aA:=q4h aA;replace HB:=z_b HB;refine q3g (n:=7) (S:=fun w'=>w'.cell? ⟨aC,0,none⟩=some (.int .i64 aK)∧w'.cell? ⟨aC,1,none⟩=some (.int .i64 aE)∧w'.cell? ⟨aC,2,none⟩=some (.slice aI aD.length aH)∧w'.cell? ⟨aC,3,none⟩=some (.slice aM aG.length aJ)) (ds:=[]) _ (by kernel_rfl) rfl rfl ⟨zq aA 0,zq aA 1,zq aA 2,zq aA 3⟩ (fun hHeld=>?_);generalize bC.drew=bL at aA HB hHeld ⊢;refine q5d (i:=0) (N:=some 14) (v:=?_) (a':=?_) #[true,false,false,false,false,false,false] rfl rfl (by kernel_rfl) (fun _ _ _ h=>h) (Or.inl ⟨by rfl,?_⟩) ?_ ?_;rotate_left
   ·intro w'
    go_simp
    with_reducible rfl
   rotate_left
   ·exact zW
   refine q5d (i:=3) (N:=some 17) (v:=?_) (a':=?_) #[true,false,false,true,false,false,false] rfl rfl (by kernel_rfl) (fun _ _ _ h=>h) (Or.inl ⟨by rfl,?_⟩) ?_ ?_;rotate_left
   ·intro w'
    go_simp
    with_reducible rfl
   rotate_left
   ·exact zW
   refine q8w (i:=1) (N:=some 15) (v:=?_) (a':=?_) #[true,true,false,true,false,false,false] rfl rfl (by kernel_rfl) (fun _ _ _ h=>h) (Or.inl ⟨by rfl,?_⟩) hHeld ?_ ?_;rotate_left
   ·rintro w' ⟨s0,s1,s2,s3⟩
    go_simp
    with_reducible rfl
   rotate_left
   ·exact zW
   refine q8w (i:=4) (N:=some 18) (v:=?_) (a':=?_) #[true,true,false,true,true,false,false] rfl rfl (by kernel_rfl) (fun _ _ _ h=>h) (Or.inl ⟨by rfl,?_⟩) hHeld ?_ ?_;rotate_left
   ·rintro w' ⟨s0,s1,s2,s3⟩
    go_simp
    with_reducible rfl
   rotate_left
   ·exact zW
   refine one_ (i:=2) (N:=some 16) #[true,true,true,true,true,false,false] rfl rfl (by kernel_rfl) (by decide) (fun K hK=>?_);refine zgo Try.func56 #[.slice aI aD.length aH] ?_
   with_reducible refine(q2p.calls k _ _ aD bB _ ?s1 ?s2 bF.out).mono ?_
   (case s1=>exact zCb aQ);(case s2=>exact aT.out);rintro e bK ⟨rfl,hb⟩;refine⟨_,rfl,?_⟩;replace aA:=zkb aA hb;replace HB:=zbs hb;(try clear hb);refine hK.out _ _ ⟨zq aA 0,zq aA 1,zq aA 2,zq aA 3⟩ (fun hHeld=>?_);clear hK K;refine q1j zV ?_;refine q5d (i:=5) (N:=some 19) (v:=?_) (a':=?_) #[true,true,true,true,true,true,false] rfl rfl (by kernel_rfl) (fun _ _ _ h=>h) (Or.inl ⟨by rfl,?_⟩) ?_ ?_;rotate_left
   ·intro w'
    go_simp
    with_reducible rfl
   rotate_left
   ·exact zW
   refine q5d (i:=6) (N:=some 2) (v:=?_) (a':=?_) #[true,true,true,true,true,true,true] rfl rfl (by kernel_rfl) (fun _ _ _ h=>h) (Or.inl ⟨by rfl,?_⟩) ?_ ?_;rotate_left
   ·intro w'
    go_simp
    with_reducible rfl
   rotate_left
   ·exact zW
   refine q4j (by kernel_rfl) ?_
   try go_wp2
   go_ret;exact⟨zE,zb⟩

def q4c.f (k:Nat) (c:Int) (d:Int) (e:List (S95)) (f:List Bool) (b:Int):Option (Int × Int × (List (S95)) × List Bool × Int):=(q1c.f c d e f).bind fun a=>(if b<0 then(some (a.1,a.2.1,a.2.2.1,a.2.2.2,0)) else((q1s.f k c d e f).bind fun g=>(some (a.1,wrap64 (a.2.1+(mn b g)),a.2.2.1,a.2.2.2,mn b g))))
theorem q4c.calls (k:Nat) (aK:Int) (aJ:Int) (bA:Option Addr) (aY:Nat) (aI:List (S95)) (aZ:Option Addr) (aX:Nat) (aH:List Bool) (a1:Int) (r1:Int) (r2:Int) (r3:List (S95)) (r4:List Bool) (r5:Int) (w:World) (bN:Kd.C k95 w bA aI.length aI) (bP:aI.length≤aY) (bM:Kd.C Kd.bool w aZ aH.length aH) (bO:aH.length≤aX) (h:q4c.f k aK aJ aI aH a1=some (r1,r2,r3,r4,r5)) :
  Calls Try.prog 44 #[.agg #[.int .i64 aK,.int .i64 aJ,.slice bA aI.length aY,.slice aZ aH.length aX],.int .i64 a1] w fun e w'=>∃ v2_ v3_:Value,e=.returned (.tuple #[.agg #[.int .i64 r1,.int .i64 r2,v2_,v3_],.int .i64 r5])∧Kd.R k95 95 w' w.heap.size (fun _=>True) v2_ r3∧Kd.R Kd.bool 4 w' w.heap.size (fun _=>True) v3_ r4∧Below w.heap.size w w':=by
 have hu33:=Try.underlying33;have bJ:=zA bN;have bL:=zA bP;clear bN bP;have bI:=zA bM;have bK:=zA bO;clear bM bO;have HB:=zA (Below.refl w.heap.size w);have H:=h;clear h;unfold q4c.f at H;obtain⟨⟨bE,bD,bC,bB⟩,A3,H⟩:=zB H
 by_cases c4:a1<0
 ·rw[if_pos c4] at H;have cH:=decide_eq_true c4;clear c4;simp only[Option.some.injEq,Prod.mk.injEq] at H;obtain⟨rfl,rfl,rfl,rfl,rfl⟩:=H;go_enter Try.func44,Try.ntmps44
  go_wp2_with (first|((with_reducible refine zgd 2 rfl ?_);refine zbx 2 #[.int .i64 aK,.int .i64 aJ,.slice bA aI.length aY,.slice aZ aH.length aX] 33 ?_;intro bW hg w5 hbox hb;have aA:=zA hbox;have bZ:=zga (w:=w) hg;replace HB:=zbs hb;clear hb hbox hg)|((with_reducible refine zgd 4 rfl ?_);refine zbx 4 #[.int .i64 0,.int .i64 0,.slice none 0 0,.slice none 0 0] 33 ?_;intro bH hg w6 hbox hb;have aC:=zA hbox;have bY:=zga (w:=w) hg;replace HB:=zbs hb;replace aA:=zlh aA hg hb;obtain⟨aV,aT,aA⟩:=aA;clear hb hbox hg;have fJ:=aV.out;have fI:=aT.out;obtain⟨eX,eW,eV,eU,eT,eS,eR,eQ⟩:=ze4 aA)|((with_reducible refine zgf 15 rfl ?_);refine zgl 8 Try.func15 #[.agg #[.int .i64 aK,.int .i64 aJ,.slice bA aI.length aY,.slice aZ aH.length aX]] ?_;(with_reducible refine(q1c.calls aK aJ _ _ aI _ _ aH bE bD bC bB _ ?s1 ?s2 ?s3 ?s4 A3.out).mono ?_);(case s1=>exact zCb bJ);(case s2=>exact bL.out);(case s3=>exact zCb bI);(case s4=>exact bK.out);rintro e w9 ⟨v662,v665,rfl,ho0,ho1,hb⟩;refine⟨_,rfl,?_⟩;have aG:=z_l ho0;have aE:=z_l ho1;replace aA:=zkb aA hb;replace aC:=zkb aC hb;replace HB:=zbs hb;(try clear hb);(try clear ho0);(try clear ho1))|((with_reducible refine zgd 6 rfl ?_);refine zbx 6 #[.int .i64 0,.int .i64 0,.slice none 0 0,.slice none 0 0] 33 ?_;intro bQ hg fP hbox hb;replace aG:=zRb aG hb;replace aE:=zRb aE hb;have aD:=zA hbox;have bX:=zga (w:=w) hg;replace HB:=zbs hb;replace aA:=zlh aA hg hb;obtain⟨aU,aN,aA⟩:=aA;replace aC:=zlh aC hg hb;obtain⟨aQ,aM,aC⟩:=aC;clear hb hbox hg;have fH:=aN.out;have fC:=aU.out;have fG:=aM.out;have fB:=aQ.out;obtain⟨eO,eN,eM,eL,dM,dL,dK,dJ⟩:=ze4 aD;obtain⟨cJ,cG,cE⟩:=q0j aG.out;subst cE;obtain⟨cI,cF,cD⟩:=q0j aE.out;subst cD;obtain⟨eK,eJ,eI,eH,dI,dH,dG,dF⟩:=ze4 aC))
  refine bodyPost_ret (q6g rfl _ _ bH 33 #[.int .i64 bE,.int .i64 bD,.slice cJ bC.length cG,.slice cI bB.length cF] (0,0) _ rfl (zkp aC) Try.underlying33 rfl (by kernel_rfl)) rfl ?_;exact⟨_,_,zE,zF2 aG aD aC,zF2 aE aD aC,zb⟩
 ·rw[if_neg c4] at H;have cH:=decide_eq_false c4;clear c4;obtain⟨bF,cA,H⟩:=zB H;obtain⟨bG,aW⟩:∃ j_:Int,(mn a1 bF)=j_:=⟨_,rfl⟩
  replace H:(some (bE,wrap64 (bD+(bG)),bC,bB,bG))=some (r1,r2,r3,r4,r5):=by first|(rw[aW] at H;exact H)|(simp only[aW] at H ⊢;exact H)
  (try rw[aW] at A3);(try rw[aW] at cA);have eP:(if bF<a1 then bF else a1)=bG:=aW;simp only[Option.some.injEq,Prod.mk.injEq] at H;obtain⟨rfl,rfl,rfl,rfl,rfl⟩:=H;go_enter Try.func44,Try.ntmps44
  go_wp2_with (first|((with_reducible refine zgd 2 rfl ?_);refine zbx 2 #[.int .i64 aK,.int .i64 aJ,.slice bA aI.length aY,.slice aZ aH.length aX] 33 ?_;intro bW hg fO hbox hb;have aA:=zA hbox;have bZ:=zga (w:=w) hg;replace HB:=zbs hb;clear hb hbox hg)|((with_reducible refine zgd 4 rfl ?_);refine zbx 4 #[.int .i64 0,.int .i64 0,.slice none 0 0,.slice none 0 0] 33 ?_;intro bH hg fN hbox hb;have aC:=zA hbox;have bY:=zga (w:=w) hg;replace HB:=zbs hb;replace aA:=zlh aA hg hb;obtain⟨aV,aT,aA⟩:=aA;clear hb hbox hg;have fF:=aV.out;have fA:=aT.out;obtain⟨eG,eF,eE,eD,dE,dD,dC,dB⟩:=ze4 aA)|((with_reducible refine zgf 15 rfl ?_);refine zgl 8 Try.func15 #[.agg #[.int .i64 aK,.int .i64 aJ,.slice bA aI.length aY,.slice aZ aH.length aX]] ?_;(with_reducible refine(q1c.calls aK aJ _ _ aI _ _ aH bE bD bC bB _ ?s1 ?s2 ?s3 ?s4 A3.out).mono ?_);(case s1=>exact zCb bJ);(case s2=>exact bL.out);(case s3=>exact zCb bI);(case s4=>exact bK.out);rintro e fM ⟨v662,v665,rfl,ho0,ho1,hb⟩;refine⟨_,rfl,?_⟩;have aG:=z_l ho0;have aE:=z_l ho1;replace aA:=zkb aA hb;replace aC:=zkb aC hb;replace HB:=zbs hb;(try clear hb);(try clear ho0);(try clear ho1))|((with_reducible refine zgd 6 rfl ?_);refine zbx 6 #[.int .i64 0,.int .i64 0,.slice none 0 0,.slice none 0 0] 33 ?_;intro bQ hg fL hbox hb;replace aG:=zRb aG hb;replace aE:=zRb aE hb;have aD:=zA hbox;have bX:=zga (w:=w) hg;replace HB:=zbs hb;replace aA:=zlh aA hg hb;obtain⟨aU,aN,aA⟩:=aA;replace aC:=zlh aC hg hb;obtain⟨aQ,aM,aC⟩:=aC;clear hb hbox hg;have fE:=aN.out;have eZ:=aU.out;have fD:=aM.out;have eY:=aQ.out;obtain⟨eC,eB,eA,dZ,dA,cZ,cY,cX⟩:=ze4 aD;obtain⟨bV,bT,cC⟩:=q0j aG.out;subst cC;obtain⟨bU,bS,cB⟩:=q0j aE.out;subst cB;obtain⟨dY,dX,dW,dV,cW,cV,cU,cT⟩:=ze4 aA)|((with_reducible refine zgf 34 rfl ?_);refine zgl 14 Try.func34 #[.agg #[.int .i64 aK,.int .i64 aJ,.slice bA aI.length aY,.slice aZ aH.length aX]] ?_;(with_reducible refine(q1s.calls k aK aJ _ _ aI _ _ aH bF _ ?s1 ?s2 ?s3 ?s4 cA.out).mono ?_);(case s1=>exact q3z bJ.out zb);(case s2=>exact bL.out);(case s3=>exact q3z bI.out zb);(case s4=>exact bK.out);rintro e fK ⟨rfl,hb⟩;refine⟨_,rfl,?_⟩;replace aG:=zA (q2r (zF1 aG aD) hb);replace aE:=zA (q2r (zF1 aE aD) hb);replace aA:=zbf aA hb;replace aC:=zbf aC hb;replace aD:=zA (q1f (g:=bQ) (o:=.cells #[.int .i64 bE,.int .i64 bD,.slice bV bC.length bT,.slice bU bB.length bS] 33 (0,0)) (zkp aD) hb);replace HB:=zbs hb;(try clear hb);obtain⟨dU,dT,dS,dR,cS,cR,cQ,cP⟩:=ze4 aD;obtain⟨dQ,dP,dO,dN,cO,cN,cM,cL⟩:=ze4 aC))
  refine bodyPost_ret (q6g rfl _ _ bH 33 #[.int .i64 bE,.int .i64 (wrap64 (bD+(bG))),.slice bV bC.length bT,.slice bU bB.length bS] (0,0) _ rfl (zkp aC) Try.underlying33 rfl (by kernel_rfl)) rfl ?_;exact⟨_,_,by first|rfl|(simp[q1o,q1n] <;> rfl)|(simp only[←aW];first|rfl|(simp[q1o,q1n] <;> rfl))|(simp[*,q1o,q1n] <;> rfl),zF2 aG aD aC,zF2 aE aD aC,zb⟩

def q2f.l0:Nat→Int→List (S59)→Int→Int→Option (Int)
  |0,_,_,_,_=>none
  |k+1,c,b,d,a=>if a<d then(if 0≤a then(if a<(b.length:Int) then(if ((q0e b a).f0)=c then(some ((q0e b a).f1)) else(q2f.l0 k c b d (wrap64 (a+1)))) else(none)) else(none)) else(some 0)
def q2f.f (k:Nat) (a:List (S59)) (b:Int):Option (Int):=q2f.l0 k b a (a.length:Int) 0
theorem q2f.calls (k:Nat) (A0:Option Addr) (c0:Nat) (l0:List (S59)) (a1:Int) (r:Int) (w:World) (aK:Kd.C k59 w A0 l0.length l0) (aM:l0.length≤c0) (h:q2f.f k l0 a1=some r) :
  Calls Try.prog 45 #[.slice A0 l0.length c0,.int .i64 a1] w fun e w'=>e=.returned (.int .i64 r)∧Below w.heap.size w w':=by
 have hu59:=Try.underlying59;have bE:=zA aK;have bL:=zA aM;clear aK aM;have HB:=zA (Below.refl w.heap.size w);have H:=h;clear h;unfold q2f.f at H;have H':=zA H;clear H;go_enter Try.func45,Try.ntmps45;go_wp2
 go_loopg [9] k (fun kq v9 w'=>∃ (aA:Int),v9=.int .i64 aA∧q0a (q2f.l0 kq a1 l0 (l0.length:Int) aA=some r)∧q0a (kq≤k)∧q0a (Below w.heap.size w w'))
 case atStart=>exact⟨(0),zr,H',⟨Nat.le_refl _⟩,⟨zb⟩⟩
 case round =>
  clear H';obtain⟨aA,rfl,HA,HK1,HB⟩:=hrel
  cases gk with
  |zero=>exact absurd HA.out (by simp[q2f.l0])
  |succ k1 =>
   have H:=HA.out;clear HA;simp only[q2f.l0] at H
   by_cases c3:aA<(l0.length:Int)
   ·rw[if_pos c3] at H;have aU:=decide_eq_true c3;clear c3;obtain⟨bK,H⟩:=q5b H;obtain⟨bJ,H⟩:=q5b H;have bI:=zT (0≤(aA:Int));have bH:=zT (aA<(l0.length:Int));obtain⟨bG,aN,aE,aD⟩:=q5x bE.out aA zd zd;cases aN;replace aE:=zC HB aE;replace aD:=zC HB aD
    by_cases c6:((q0e l0 aA).f0)=a1
    ·rw[if_pos c6] at H;have aT:(((q0e l0 aA).f0)==a1)=true:=beq_iff_eq.mpr c6;have aQ:(((q0e l0 aA).f0) != a1)=false:=bne_eq_false_iff_eq.mpr c6;clear c6;obtain rfl:=zI H
     go_wp2_with (first|((with_reducible refine zgd 6 rfl ?_);refine zbx 6 #[.int .i64 0,.int .i64 0] 59 ?_;intro aI hg w7 hbox hb;have aG:=zA hbox;have aJ:=zga (w:=w) hg;replace HB:=zbs hb;clear hb hbox hg;obtain⟨bC,bB,bA,aZ⟩:=ze2 aG))
     go_ret;exact⟨zE,zb⟩
    ·rw[if_neg c6] at H;have aT:(((q0e l0 aA).f0)==a1)=false:=beq_eq_false_iff_ne.mpr c6;have aQ:(((q0e l0 aA).f0) != a1)=true:=bne_iff_ne.mpr c6;have H':=zA H;clear H
     go_wp2_with (first|((with_reducible refine zgd 6 rfl ?_);refine zbx 6 #[.int .i64 0,.int .i64 0] 59 ?_;intro aI hg w9 hbox hb;have aG:=zA hbox;have aJ:=zga (w:=w) hg;replace HB:=zbs hb;clear hb hbox hg;obtain⟨aY,aX,aW,aV⟩:=ze2 aG))
     go_roundg k1
     case measure=>have:=HK1.out;omega
     case rel=>exact⟨(wrap64 (aA+1)),zr,H',⟨by have:=HK1.out;omega⟩,⟨zb⟩⟩
   ·rw[if_neg c3] at H;have aU:=decide_eq_false c3;clear c3;obtain rfl:=zI H;go_wp2;go_ret;exact⟨zE,zb⟩

def q3h.l0:Nat→Int→List (S95)→Int→Int→Option (Int)
  |0,_,_,_,_=>none
  |k+1,c,b,d,a=>if a<d then(if 0≤a then(if a<(b.length:Int) then(q3h.l0 k (wrap64 (c+((q0n b a).f2))) b d (wrap64 (a+1))) else(none)) else(none)) else(some c)
def q3h.f (k:Nat) (a:List (S95)):Option (Int):=(q0u.f k a).bind fun b=>(if b=true then(q3h.l0 k 0 a (a.length:Int) 0) else(some 0))
theorem q3h.calls (k:Nat) (A0:Option Addr) (c0:Nat) (l0:List (S95)) (r:Int) (w:World) (aT:Kd.C k95 w A0 l0.length l0) (aU:l0.length≤c0) (h:q3h.f k l0=some r) :
  Calls Try.prog 66 #[.slice A0 l0.length c0] w fun e w'=>e=.returned (.int .i64 r)∧Below w.heap.size w w':=by
 have hu95:=Try.underlying95;have aK:=zA aT;have aV:=zA aU;clear aT aU;have HB:=zA (Below.refl w.heap.size w);have H:=h;clear h;unfold q3h.f at H;obtain⟨aW,A2,H⟩:=zB H;go_enter Try.func66,Try.ntmps66
 by_cases c3:aW=true
 ·subst c3;rw[if_pos rfl] at H;have H':=zA H;clear H
  go_wp2_with (first|((with_reducible refine zgf 62 rfl ?_);refine zgl 7 Try.func62 #[.slice A0 l0.length c0] ?_;(with_reducible refine(q0u.calls k _ _ l0 true _ ?s1 ?s2 A2.out).mono ?_);(case s1=>exact zCx aK.out);(case s2=>exact aV.out);rintro e w4 ⟨rfl,hb⟩;refine⟨_,rfl,?_⟩;replace HB:=zbs hb;(try clear hb)))
  go_loopg [3,11] k (fun kq v3 v11 w'=>∃ (aI:Int) (aA:Int),v3=.int .i64 aI∧v11=.int .i64 aA∧q0a (q3h.l0 kq aI l0 (l0.length:Int) aA=some r)∧q0a (kq≤k)∧q0a (Below w.heap.size w w'))
  case atStart=>exact⟨(0),(0),zr,zr,H',⟨Nat.le_refl _⟩,⟨zb⟩⟩
  case round =>
   clear H';(try clear c3);obtain⟨aI,aA,rfl,rfl,HA,HK1,HB⟩:=hrel
   cases gk with
   |zero=>exact absurd HA.out (by simp[q3h.l0])
   |succ k1 =>
    have H:=HA.out;clear HA;simp only[q3h.l0] at H
    by_cases c5:aA<(l0.length:Int)
    ·rw[if_pos c5] at H;have aY:=decide_eq_true c5;clear c5;obtain⟨bO,H⟩:=q5b H;obtain⟨bN,H⟩:=q5b H;have H':=zA H;clear H;have bM:=zT (0≤(aA:Int));have bL:=zT (aA<(l0.length:Int));obtain⟨bJ,aX,aH,aG,aE,aD⟩:=q7o aK.out aA zd zd;cases aX;replace aH:=zC HB aH;replace aG:=zC HB aG;replace aE:=zC HB aE;replace aD:=zC HB aD
     go_wp2_with (first|((with_reducible refine zgd 5 rfl ?_);refine zbx 5 #[.int .i64 0,.int .i64 0,.int .i64 0,.bool false] 95 ?_;intro bI hg w8 hbox hb;have aN:=zA hbox;have bK:=zga (w:=w) hg;replace HB:=zbs hb;clear hb hbox hg;obtain⟨bG,bF,bE,bD,bC,bB,bA,aZ⟩:=ze4 aN))
     go_roundg k1
     case measure=>have:=HK1.out;omega
     case rel=>exact⟨(wrap64 (aI+((q0n l0 aA).f2))),(wrap64 (aA+1)),zr,zr,H',⟨by have:=HK1.out;omega⟩,⟨zb⟩⟩
    ·rw[if_neg c5] at H;have aY:=decide_eq_false c5;clear c5;obtain rfl:=zI H;go_wp2;go_ret;exact⟨zE,zb⟩
 ·replace c3:=Bool.eq_false_iff.mpr c3;subst c3;rw[if_neg zNo] at H;obtain rfl:=zI H
  go_wp2_with (first|((with_reducible refine zgf 62 rfl ?_);refine zgl 7 Try.func62 #[.slice A0 l0.length c0] ?_;(with_reducible refine(q0u.calls k _ _ l0 false _ ?s1 ?s2 A2.out).mono ?_);(case s1=>exact zCx aK.out);(case s2=>exact aV.out);rintro e bP ⟨rfl,hb⟩;refine⟨_,rfl,?_⟩;replace HB:=zbs hb;(try clear hb)))
  go_ret;exact⟨zE,zb⟩

def q3s.f (k:Nat) (d:Int) (c:Int) (b:List (S95)) (e:List Bool):Option (Int × Int × (List (S95)) × List Bool × Bool):=(q1c.f d c b e).bind fun a=>((q0u.f k b).bind fun f=>(if f=true then((q3h.f k b).bind fun g=>(if c<g then(some (a.1,a.2.1,a.2.2.1,a.2.2.2,false)) else((q3h.f k b).bind fun h=>(some (a.1,wrap64 (a.2.1-h),a.2.2.1,a.2.2.2,true))))) else(some (a.1,a.2.1,a.2.2.1,a.2.2.2,false))))
def q3s.T2:Bool × List (List Nat × List Nat):=(true,[([],[]),([0],[0]),([1],[1]),([2],[2]),([3,2],[3]),([4],[4]),([5,4],[4,5]),([4],[4]),([7,4],[4,7]),([8,4,4],[4,8]),([6,9,4],[4,6,9]),([4,10],[4,10])])
def q3s.B2:List Nat:=[0,1,3,7,15,31,63,31,159,415,1023,2047]
theorem q3s.tab2:q6q .any (opsOf Try.f46 2)=q3s.T2:=by kernel_rfl
theorem q3s.bits2:q4a q3s.T2.2 q3s.B2=true:=by kernel_rfl
def q3s.T4:Bool × List (List Nat × List Nat):=(true,[([],[]),([0],[0]),([],[]),([2],[2]),([3],[3]),([1,4],[1,4]),([0,1,2,3,4,5],[]),([6,5,4,0,1,2,3,4,5],[5,6])])
def q3s.B4:List Nat:=[0,1,0,4,12,31,63,127]
theorem q3s.q9n:q6q .any (opsOf Try.f46 4)=q3s.T4:=by kernel_rfl
theorem q3s.q6y:q4a q3s.T4.2 q3s.B4=true:=by kernel_rfl
theorem q3s.calls (k:Nat) (bB:Int) (bA:Int) (aZ:Option Addr) (aY:Nat) (aI:List (S95)) (bD:Option Addr) (bC:Nat) (aX:List Bool) (r1:Int) (r2:Int) (r3:List (S95)) (r4:List Bool) (r5:Bool) (w:World) (bQ:Kd.C k95 w aZ aI.length aI) (bS:aI.length≤aY) (bP:Kd.C Kd.bool w bD aX.length aX) (bR:aX.length≤bC) (h:q3s.f k bB bA aI aX=some (r1,r2,r3,r4,r5)) :
  Calls Try.prog 46 #[.agg #[.int .i64 bB,.int .i64 bA,.slice aZ aI.length aY,.slice bD aX.length bC]] w fun e w'=>∃ v2_ v3_:Value,e=.returned (.tuple #[.agg #[.int .i64 r1,.int .i64 r2,v2_,v3_],.bool r5])∧Kd.R k95 95 w' w.heap.size (fun _=>True) v2_ r3∧Kd.R Kd.bool 4 w' w.heap.size (fun _=>True) v3_ r4∧Below w.heap.size w w':=by
 have hu33:=Try.underlying33;have bJ:=zA bQ;have bK:=zA bS;clear bQ bS;have cD:=zA bP;have cE:=zA bR;clear bP bR;have HB:=zA (Below.refl w.heap.size w);have H:=h;clear h;unfold q3s.f at H;obtain⟨⟨aN,aM,aK,aJ⟩,A2,H⟩:=zB H;obtain⟨bV,A3,H⟩:=zB H;go_enter Try.func46,Try.ntmps46
 try go_wp2_with (first|((with_reducible refine zgd 1 rfl ?_);refine zbx 1 #[.int .i64 bB,.int .i64 bA,.slice aZ aI.length aY,.slice bD aX.length bC] 33 ?_;intro aW hg w7 hbox hb;have aA:=zA hbox;have fI:=zga (w:=w) hg;replace HB:=zbs hb;clear hb hbox hg)|((with_reducible refine zgd 2 rfl ?_);refine zbx 2 #[.int .i64 0,.int .i64 0,.slice none 0 0,.slice none 0 0] 33 ?_;intro bI hg w8 hbox hb;have aE:=zA hbox;have fH:=zga (w:=w) hg;replace HB:=zbs hb;replace aA:=zlh aA hg hb;obtain⟨bN,bM,aA⟩:=aA;clear hb hbox hg;have fL:=bN.out;have fK:=bM.out;obtain⟨eW,eV,eU,eT,dQ,dP,dO,dN⟩:=ze4 aA)|((with_reducible refine zgf 15 rfl ?_);refine zgl 6 Try.func15 #[.agg #[.int .i64 bB,.int .i64 bA,.slice aZ aI.length aY,.slice bD aX.length bC]] ?_;(with_reducible refine(q1c.calls bB bA _ _ aI _ _ aX aN aM aK aJ _ ?s1 ?s2 ?s3 ?s4 A2.out).mono ?_);(case s1=>exact zCb bJ);(case s2=>exact bK.out);(case s3=>exact zCb cD);(case s4=>exact cE.out);rintro e fS ⟨v679,v682,rfl,ho0,ho1,hb⟩;refine⟨_,rfl,?_⟩;have aH:=z_l ho0;have aG:=z_l ho1;replace aA:=zkb aA hb;replace aE:=zkb aE hb;replace HB:=zbs hb;(try clear hb);(try clear ho0);(try clear ho1))|((with_reducible refine zgd 4 rfl ?_);refine zbx 4 #[.int .i64 0,.int .i64 0,.slice none 0 0,.slice none 0 0] 33 ?_;intro aC hg bL hbox hb;replace aH:=zRb aH hb;replace aG:=zRb aG hb;have aD:=zA hbox;have fG:=zga (w:=w) hg;replace HB:=zbs hb;replace aA:=zlh aA hg hb;obtain⟨bH,bF,aA⟩:=aA;replace aE:=zlh aE hg hb;obtain⟨bG,bE,aE⟩:=aE;clear hb hbox hg;have fE:=bF.out;have fC:=bH.out;have fD:=bE.out;have fB:=bG.out;obtain⟨eS,eR,eQ,eP,dM,dL,dK,dJ⟩:=ze4 aD;obtain⟨aV,aT,cG⟩:=q0j aH.out;subst cG;obtain⟨aU,aQ,cF⟩:=q0j aG.out;subst cF))
 obtain⟨eZ,hx_⟩:∃ x_,x_=(((bL.setCell ⟨aC,0,none⟩ (.int .i64 aN)).setCell ⟨aC,1,none⟩ (.int .i64 aM)).setCell ⟨aC,2,none⟩ (.slice aV aK.length aT)).setCell ⟨aC,3,none⟩ (.slice aU aJ.length aQ):=⟨_,rfl⟩;have cB:q0a (Kd.R k95 95 eZ w.heap.size (fun _=>True) (.slice aV aK.length aT) aK):=⟨by rw[hx_];exact zF1 aH aD⟩;have cA:q0a (Kd.R Kd.bool 4 eZ w.heap.size (fun _=>True) (.slice aU aJ.length aQ) aJ):=⟨by rw[hx_];exact zF1 aG aD⟩;have bZ:q0a (eZ.heap[aW]?=some (.cells #[.int .i64 bB,.int .i64 bA,.slice aZ aI.length aY,.slice bD aX.length bC] 33 (0,0))):=⟨by rw[hx_];exact zkf aA⟩;have bY:q0a (eZ.heap[bI]?=some (.cells #[.int .i64 0,.int .i64 0,.slice none 0 0,.slice none 0 0] 33 (0,0))):=⟨by rw[hx_];exact zkf aE⟩;have bX:q0a (eZ.heap[aC]?=some (.cells #[.int .i64 aN,.int .i64 aM,.slice aV aK.length aT,.slice aU aJ.length aQ] 33 (0,0))):=⟨by rw[hx_];exact zkp aD⟩
 have bW:q0a (Below w.heap.size w eZ):=⟨by rw[hx_];exact zb⟩;(try clear aH aG aA aE aD HB);rw[← hx_];clear hx_;have aH:=cB;have aG:=cA;have aA:=bZ;have aE:=bY;have aD:=bX;have HB:=bW;clear cB cA bZ bY bX bW;replace aH:=z_d aH;replace aG:=z_d aG;replace aA:=q4h aA;replace aE:=q4h aE;replace aD:=q4h aD;replace HB:=z_b HB;refine q3g (n:=12) (S:=fun w'=>w'.cell? ⟨aW,0,none⟩=some (.int .i64 bB)∧w'.cell? ⟨aW,1,none⟩=some (.int .i64 bA)∧w'.cell? ⟨aW,2,none⟩=some (.slice aZ aI.length aY)∧w'.cell? ⟨aW,3,none⟩=some (.slice bD aX.length bC)) (ds:=[]) _ (by kernel_rfl) rfl rfl ⟨zq aA 0,zq aA 1,zq aA 2,zq aA 3⟩ (fun hHeld=>?_);refine q1m q3s.tab2 q3s.bits2 (fun HT_ HW_=>?_);generalize eZ.drew=fR at aH aG aA aE aD HB hHeld ⊢;refine z_p 0 ?_;refine zt 1 8 HT_ HW_ hHeld ?_;refine zo 2 9 HT_ (fun K hK=>?_);refine zgo Try.func62 #[.slice aZ aI.length aY] ?_
 with_reducible refine(q0u.calls k _ _ aI bV _ ?s1 ?s2 A3.out).mono ?_
 (case s1=>exact zCb bJ);(case s2=>exact bK.out);rintro e fQ ⟨rfl,hb⟩;refine⟨_,rfl,?_⟩;replace aH:=zRb aH hb;replace aG:=zRb aG hb;replace aA:=zkb aA hb;replace aE:=zkb aE hb;replace aD:=zkb aD hb;replace HB:=zbs hb;(try clear hb);refine hK.out _ _ ⟨zq aA 0,zq aA 1,zq aA 2,zq aA 3⟩ (fun hHeld=>?_);clear hK K;refine q1j zV ?_;refine z_p 3 ?_;refine z_p 4 ?_
 by_cases c4:bV=true
 ·subst c4;rw[if_pos rfl] at H;obtain⟨bU,A5,H⟩:=zB H;refine z_p 5 ?_;refine z_p 7 ?_;refine zt 6 13 HT_ HW_ hHeld ?_;refine zt 8 15 HT_ HW_ hHeld ?_;refine zo 9 16 HT_ (fun K hK=>?_);refine zgo Try.func66 #[.slice aZ aI.length aY] ?_
  with_reducible refine(q3h.calls k _ _ aI bU _ ?s1 ?s2 A5.out).mono ?_
  (case s1=>exact zCb bJ);(case s2=>exact bK.out);rintro e eY ⟨rfl,hb⟩;refine⟨_,rfl,?_⟩;replace aH:=zRb aH hb;replace aG:=zRb aG hb;replace aA:=zkb aA hb;replace aE:=zkb aE hb;replace aD:=zkb aD hb;replace HB:=zbs hb;(try clear hb);refine hK.out _ _ ⟨zq aA 0,zq aA 1,zq aA 2,zq aA 3⟩ (fun hHeld=>?_);clear hK K;refine q1j zV ?_;refine z_p 10 ?_;refine z_p 11 ?_;refine q4j (q2e HT_.out (by kernel_rfl)) ?_
  by_cases c6:bA<bU
  ·rw[if_pos c6] at H;have bO:=decide_eq_true c6;clear c6;simp only[Option.some.injEq,Prod.mk.injEq] at H;obtain⟨rfl,rfl,rfl,rfl,rfl⟩:=H;(try simp only[bO]);obtain⟨eO,eN,eM,eL,dI,dH,dG,dF⟩:=ze4 aD;obtain⟨eK,eJ,eI,eH,dE,dD,dC,dB⟩:=ze4 aE
   try go_wp2
   refine bodyPost_ret (q6g rfl _ _ bI 33 #[.int .i64 aN,.int .i64 aM,.slice aV aK.length aT,.slice aU aJ.length aQ] (0,0) _ rfl (zkp aE) Try.underlying33 rfl (by kernel_rfl)) rfl ?_;exact⟨_,_,zE,zF1 aH aE,zF1 aG aE,zb⟩
  ·rw[if_neg c6] at H;have bO:=decide_eq_false c6;clear c6;obtain⟨bT,fA,H⟩:=zB H;simp only[Option.some.injEq,Prod.mk.injEq] at H;obtain⟨rfl,rfl,rfl,rfl,rfl⟩:=H;(try simp only[bO])
   try go_wp2
   replace aH:=z_d aH;replace aG:=z_d aG;replace aA:=q4h aA;replace aE:=q4h aE;replace aD:=q4h aD;replace HB:=z_b HB;refine q3g (n:=8) (S:=fun w'=>w'.cell? ⟨aC,0,none⟩=some (.int .i64 aN)∧w'.cell? ⟨aC,1,none⟩=some (.int .i64 aM)∧w'.cell? ⟨aC,2,none⟩=some (.slice aV aK.length aT)∧w'.cell? ⟨aC,3,none⟩=some (.slice aU aJ.length aQ)∧w'.cell? ⟨aW,0,none⟩=some (.int .i64 bB)∧w'.cell? ⟨aW,1,none⟩=some (.int .i64 bA)∧w'.cell? ⟨aW,2,none⟩=some (.slice aZ aI.length aY)∧w'.cell? ⟨aW,3,none⟩=some (.slice bD aX.length bC)) (ds:=[7]) #[false,false,false,false,false,false,false,false] (by kernel_rfl) rfl rfl ⟨zq aD 0,zq aD 1,zq aD 2,zq aD 3,zq aA 0,zq aA 1,zq aA 2,zq aA 3⟩ (fun hHeld=>?_);refine q1m q3s.q9n q3s.q6y (fun HT_ HW_=>?_);generalize eY.drew=fP at aH aG aA aE aD HB hHeld ⊢;refine z_p 0 ?_;refine z_p 2 ?_;refine zt 1 21 HT_ HW_ hHeld ?_;refine zt 3 23 HT_ HW_ hHeld ?_;refine zo 4 24 HT_ (fun K hK=>?_);refine zgo Try.func66 #[.slice aZ aI.length aY] ?_
   with_reducible refine(q3h.calls k _ _ aI bT _ ?s1 ?s2 fA.out).mono ?_
   (case s1=>exact zCb bJ);(case s2=>exact bK.out);rintro e eX ⟨rfl,hb⟩;refine⟨_,rfl,?_⟩;replace aH:=zRb aH hb;replace aG:=zRb aG hb;replace aA:=zkb aA hb;replace aE:=zkb aE hb;replace aD:=zkb aD hb;replace HB:=zbs hb;(try clear hb);refine hK.out _ _ ⟨zq aD 0,zq aD 1,zq aD 2,zq aD 3,zq aA 0,zq aA 1,zq aA 2,zq aA 3⟩ (fun hHeld=>?_);clear hK K;refine q1j zV ?_;refine z_p 5 ?_;refine z_p 6 ?_;refine last_ (i:=7) (N:=none) #[true,true,true,true,true,true,true,true] rfl rfl (q8k HT_.out (by kernel_rfl)) (by decide) (fun K hK=>?_);have fJ:eX.cell? ⟨aC,1,none⟩=some (.int .i64 aM):=zq aD 1;have fF:=q0c aD.out 1;have cI:=bH.out;have cH:=bG.out;have cK:=bF.out;have cJ:=bE.out;refine q6i (w1:=?_) (by rfl) rfl ?_ ?_;rotate_left
   ·go_simp
    rfl
   refine hK.out _ _ ?_;clear hK K;refine q4j (q2e HT_.out (by kernel_rfl)) ?_;obtain⟨eG,eF,eE,eD,dA,cZ,cY,cX⟩:=ze4 aD;obtain⟨eC,eB,eA,dZ,cW,cV,cU,cT⟩:=ze4 aE
   try go_wp2
   refine bodyPost_ret (q6g rfl _ _ bI 33 #[.int .i64 aN,.int .i64 (wrap64 (aM-bT)),.slice aV aK.length aT,.slice aU aJ.length aQ] (0,0) _ rfl (zkp aE) Try.underlying33 rfl (by kernel_rfl)) rfl ?_;exact⟨_,_,zE,zF2 aH aD aE,zF2 aG aD aE,zb⟩
 ·replace c4:=Bool.eq_false_iff.mpr c4;subst c4;rw[if_neg zNo] at H;simp only[Option.some.injEq,Prod.mk.injEq] at H;obtain⟨rfl,rfl,rfl,rfl,rfl⟩:=H;refine z_u 5 ?_;refine z_u 6 ?_;refine z_u 7 ?_;refine z_u 8 ?_;refine z_u 9 ?_;refine z_u 10 ?_;refine z_p 11 ?_;refine q4j (q2e HT_.out (by kernel_rfl)) ?_;obtain⟨dY,dX,dW,dV,cS,cR,cQ,cP⟩:=ze4 aD;obtain⟨dU,dT,dS,dR,cO,cN,cM,cL⟩:=ze4 aE
  try go_wp2
  refine bodyPost_ret (q6g rfl _ _ bI 33 #[.int .i64 aN,.int .i64 aM,.slice aV aK.length aT,.slice aU aJ.length aQ] (0,0) _ rfl (zkp aE) Try.underlying33 rfl (by kernel_rfl)) rfl ?_;exact⟨_,_,zE,zF1 aH aE,zF1 aG aE,zb⟩

def q1d.l0:Nat→Int→List Bool→Int→Int→Option (Int)
  |0,_,_,_,_=>none
  |k+1,c,b,d,a=>if a<d then(if 0≤a then(if a<(b.length:Int) then(if rdOf false b a=true then(q1d.l0 k (wrap64 (c+1)) b d (wrap64 (a+1))) else(q1d.l0 k c b d (wrap64 (a+1)))) else(none)) else(none)) else(some c)
def q1d.f (k:Nat) (a:List Bool):Option (Int):=q1d.l0 k 0 a (a.length:Int) 0
theorem q1d.calls (k:Nat) (A0:Option Addr) (c0:Nat) (l0:List Bool) (r:Int) (w:World) (aJ:Kd.C Kd.bool w A0 l0.length l0) (aK:l0.length≤c0) (h:q1d.f k l0=some r) :
  Calls Try.prog 67 #[.slice A0 l0.length c0] w fun e w'=>e=.returned (.int .i64 r)∧q2k w w':=by
 have aT:=zA aJ;have aY:=zA aK;clear aJ aK;have H:=h;clear h;unfold q1d.f at H;have H':=zA H;clear H;go_enter Try.func67,Try.ntmps67;go_wp2
 go_loopg [3,8] k (fun kq v3 v8 w'=>∃ (aC:Int) (aA:Int),v3=.int .i64 aC∧v8=.int .i64 aA∧q0a (q1d.l0 kq aC l0 (l0.length:Int) aA=some r)∧q0a (kq≤k)∧q2k w w')
 case atStart=>exact⟨(0),(0),zr,zr,H',⟨Nat.le_refl _⟩,by repeat (first|exact q2k.refl _|apply q2k.step)⟩
 case round =>
  clear H';obtain⟨aC,aA,rfl,rfl,HA,HK1,⟨m1,rfl⟩⟩:=hrel
  cases gk with
  |zero=>exact absurd HA.out (by simp[q1d.l0])
  |succ k1 =>
   have H:=HA.out;clear HA;simp only[q1d.l0] at H
   by_cases c2:aA<(l0.length:Int)
   ·rw[if_pos c2] at H;have aN:=decide_eq_true c2;clear c2;obtain⟨aX,H⟩:=q5b H;obtain⟨aW,H⟩:=q5b H;obtain⟨bq5,hbq5⟩:∃ b_:Bool,b_=(rdOf false l0 aA):=⟨_,rfl⟩
    replace H:(if bq5=true then(q1d.l0 k1 (wrap64 (aC+1)) l0 (l0.length:Int) (wrap64 (aA+1))) else(q1d.l0 k1 aC l0 (l0.length:Int) (wrap64 (aA+1))))=some r:=by rw[←hbq5] at H;exact H
    have Nbq5:=zA hbq5;clear hbq5;have aG:0≤(aA:Int):=zd;have aE:aA<(l0.length:Int):=zd;obtain⟨aV,aM,aH⟩:=at_bool aT.out aA aG aE;(try rw[←Nbq5.out] at aH);cases aM;replace aG:=eq_true aG;replace aE:=eq_true aE
    by_cases c6:bq5=true
    ·subst c6;rw[if_pos rfl] at H;have H':=zA H;clear H;go_wp2
     go_roundg k1
     case measure=>have:=HK1.out;omega
     case rel=>exact⟨(wrap64 (aC+1)),(wrap64 (aA+1)),zr,zr,H',⟨by have:=HK1.out;omega⟩,by repeat (first|exact q2k.refl _|apply q2k.step)⟩
    ·replace c6:=Bool.eq_false_iff.mpr c6;subst c6;rw[if_neg zNo] at H;have H':=zA H;clear H;go_wp2
     go_roundg k1
     case measure=>have:=HK1.out;omega
     case rel=>exact⟨(aC),(wrap64 (aA+1)),zr,zr,H',⟨by have:=HK1.out;omega⟩,by repeat (first|exact q2k.refl _|apply q2k.step)⟩
   ·rw[if_neg c2] at H;have aN:=decide_eq_false c2;clear c2;obtain rfl:=zI H;go_wp2;go_ret;exact⟨by first|rfl|(simp;done)|(simp[*];done),by repeat (first|exact q2k.refl _|apply q2k.step)⟩

def q4f.f (a:List Bool) (b:Int):Option (List Bool):=if 0≤(mx (wrap64 ((a.length:Int)-b)) 0) then(if (mx (wrap64 ((a.length:Int)-b)) 0)≤(a.length:Int) then(some (a.drop ((mx (wrap64 ((a.length:Int)-b)) 0):Int).toNat)) else(none)) else(none)
theorem q4f.calls (P0_:Nat→Prop) (u9000_:Value) (l0:List Bool) (a1:Int) (r:List Bool) (w0 w:World) (hB:Below w0.heap.size w0 w) (ho0:Kd.R Kd.bool 4 w w0.heap.size P0_ u9000_ l0) (h:q4f.f l0 a1=some r) :
  Calls Try.prog 68 #[u9000_,.int .i64 a1] w fun e w'=>∃ v0_:Value,e=.returned (v0_)∧Kd.Q Kd.bool 4 w' w0.heap.size (fun k_=>(P0_ k_∨w.heap.size≤k_)) v0_ r∧Below w0.heap.size w0 w'∧Kept w w' (fun k_=>P0_ k_):=by
 have aM:=zA (show Kd.R Kd.bool 4 w w0.heap.size (fun k_=>(P0_ k_∨w.heap.size≤k_)) u9000_ l0 from q2s ho0 (fun k_ hk=>(.inl hk)));have HK:=zA (Kept.refl w (fun k_=>P0_ k_));have HW0:=zA hB.size;have HB:=zA hB;clear hB;have H:=h;clear h;unfold q4f.f at H;obtain⟨aA,aE⟩:∃ j_:Int,(mx (wrap64 ((l0.length:Int)-a1)) 0)=j_:=⟨_,rfl⟩
 replace H:(if 0≤(aA) then(if (aA)≤(l0.length:Int) then(some (l0.drop ((aA):Int).toNat)) else(none)) else(none))=some r:=by first|(rw[aE] at H;exact H)|(simp only[aE] at H ⊢;exact H)
 (try (have hji3l:0≤aA:=by(rw[←aE];unfold mx;(repeat' split) <;> omega)));(try (have hji3m:0≤aA:=by omega));have aY:(if (wrap64 ((l0.length:Int)-a1))<0 then 0 else(wrap64 ((l0.length:Int)-a1)))=aA:=aE;obtain⟨c4,H⟩:=zif H;have bC:=eq_true c4;have bB:=decide_eq_true c4;clear c4;obtain⟨c5,H⟩:=zif H;have bA:=eq_true c5;have aZ:=decide_eq_true c5;clear c5;obtain⟨aD,aG⟩:∃ y_:List Bool,y_=(l0.drop ((aA):Int).toNat):=⟨_,rfl⟩
 replace H:(some aD)=some r:=zY aG H
 have Ny689:=zA aG;clear aG;obtain rfl:=zI H;obtain⟨aH,aI,aV⟩:=q0j aM.out;subst aV;have q7:((aA):Int)≤((l0.length:Int):Int):=zd;obtain⟨i07,hi07,_,hsz7,_⟩:=info_parts q9a;have hcut7:=q9j (P:=Try.prog) 31 4 .i64 Try.underlying31 hi07 1 hsz7 aH l0.length aI (aA) zd q7;have hr7:=Q_drop (k:=((aA):Int).toNat) (q7t aM.out) (by omega);obtain⟨A7,hA7⟩:∃ A1,A1=(if aI=((aA):Int).toNat then aH else(aH:Option Addr).map (·.add (((aA):Int).toNat * 1))):=⟨_,rfl⟩;obtain⟨c7,hc7⟩:∃ c1,c1=aI-((aA):Int).toNat:=⟨_,rfl⟩;have aJ:aD.length=l0.length-((aA):Int).toNat:=(by rw[Ny689.out,List.length_drop]);rw[←Ny689.out] at hr7;rw[←aJ,←hA7,←hc7] at hcut7;replace hr7:Kd.Q Kd.bool 4 w w0.heap.size (fun k_=>(P0_ k_∨w.heap.size≤k_)) (.slice A7 aD.length c7) aD:=(by rw[hA7,hc7,aJ];exact hr7);have HE7:q0a ((Value.slice A7 aD.length c7).ownBlock=(.slice aH l0.length aI:Value).ownBlock):=⟨by rw[hA7];split <;> (cases (aH:Option Addr) <;> first|rfl|(simp[Value.ownBlock,Addr.add];done)|(simp only[Option.map,Value.ownBlock,Addr.add];split <;> rfl))⟩;clear aJ hi07 hsz7 aM hA7 hc7;have aN:=zA hr7;clear hr7;replace q7:=eq_true q7;go_enter Try.func68,Try.ntmps68;go_wp2;go_ret;exact⟨_,by first|rfl|(simp[q1o,q1n] <;> rfl)|(simp only[←aE];first|rfl|(simp[q1o,q1n] <;> rfl))|(simp[*,q1o,q1n] <;> rfl),zQ aN,zb,by repeat (first|(with_reducible first|exact HK.out|apply Kept.alloc|apply Kept.drewN|apply Kept.drew)|exact HK.out)⟩

theorem q4f.callsC (A0:Option Addr) (c0:Nat) (l0:List Bool) (a1:Int) (r:List Bool) (w:World) (aJ:Kd.C Kd.bool w A0 l0.length l0) (aI:l0.length≤c0) (h:q4f.f l0 a1=some r) :
  Calls Try.prog 68 #[.slice A0 l0.length c0,.int .i64 a1] w fun e w'=>∃ A' c',e=.returned (.slice A' r.length c')∧r.length≤c'∧(∀ w2:World,Kd.C Kd.bool w2 A0 l0.length l0→Kd.C Kd.bool w2 A' r.length r)∧w'=w:=by
 unfold q4f.f at h
 obtain⟨aC,aD⟩:∃ j_:Int,(mx (wrap64 ((l0.length:Int)-a1)) 0)=j_:=⟨_,rfl⟩
 rw[aD] at h
 have hji3_:(if (wrap64 ((l0.length:Int)-a1))<0 then 0 else(wrap64 ((l0.length:Int)-a1)))=aC:=aD
 obtain⟨c4,h⟩:=zif h
 obtain⟨c5,h⟩:=zif h
 obtain rfl:=Option.some.inj h
 obtain⟨i07,hi07,_,hsz7,_⟩:=info_parts q9a
 obtain⟨A7,hcut7,hrd7,hc7⟩:=q9g (P:=Try.prog) Value.bool false 31 4 .i64 Try.underlying31 hi07 hsz7 A0 c0 l0 aC c4 c5 aI
 go_enter Try.func68,Try.ntmps68
 go_wp2
 go_ret
 exact⟨A7,c0-aC.toNat,by first|rfl|(simp;done),by have h_:=hc7;first|exact h_|(rw[List.length_drop] at h_;first|exact h_|omega),fun w2 h2=>by have h_:=q9q (h1:=fun _=>rfl) (hrd7 w2 (Kd.q8b h2));first|exact h_|(rw[List.length_drop] at h_;exact h_),rfl⟩
def q2g.f (k:Nat) (a:Int) (b:Int) (c:List Bool):Option (Bool):=(q4m.f a b).bind fun d=>(if d=true then((q4f.f c (wrap64 (b-1))).bind fun e=>((q1d.f k e).bind fun f=>(some (decide (f<a))))) else(some false))
def q2g.T1:Bool × List (List Nat × List Nat):=(true,[([],[]),([0],[0]),([1,1],[1]),([2],[2]),([2],[2]),([4,2],[2,4]),([5,2],[2,5]),([3,6,2,2],[2,3,6]),([7,7,2],[2,7]),([2],[2]),([9,2],[2,9]),([8,10,2],[2,8,10]),([2,11],[2,11]),([12,8,0,1,2,3,4,5,6,7,8,9,10,11,12],[12])])
def q2g.B1:List Nat:=[0,1,3,7,7,23,55,127,255,7,519,2047,4095,8191]
theorem q2g.tab1:q6q .any (opsOf Try.f47 1)=q2g.T1:=by kernel_rfl
theorem q2g.q8h:q4a q2g.T1.2 q2g.B1=true:=by kernel_rfl
theorem q2g.calls (k:Nat) (aD:Int) (aC:Int) (A1:Option Addr) (c1:Nat) (l1:List Bool) (r:Bool) (w:World) (aZ:Kd.C Kd.bool w A1 l1.length l1) (bA:l1.length≤c1) (h:q2g.f k aD aC l1=some r) :
  Calls Try.prog 47 #[.agg #[.int .i64 aD,.int .i64 aC],.slice A1 l1.length c1] w fun e w'=>e=.returned (.bool r)∧Below w.heap.size w w':=by
 have hu38:=Try.underlying28
 have HR1:=zA aZ
 have HC1:=zA bA
 clear aZ bA
 have HB:=zA (Below.refl w.heap.size w)
 have H:((q4m.f aD aC).bind fun t519=>(if t519=true then((q4f.f l1 (wrap64 (aC-1))).bind fun t520=>((q1d.f k t520).bind fun t521=>(some (decide (t521<aD))))) else(some false)))=some r:=h
 clear h
 replace H:=Option.bind_eq_some_iff.mp H
 obtain⟨t519,A30,H⟩:=H
 replace H:(if t519=true then((q4f.f l1 (wrap64 (aC-1))).bind fun t520=>((q1d.f k t520).bind fun t521=>(some (decide (t521<aD))))) else(some false))=some r:=H
 have A3:=zA A30
 clear A30
 by_cases c4:t519=true
 ·subst c4
  have H1:((q4f.f l1 (wrap64 (aC-1))).bind fun t520=>((q1d.f k t520).bind fun t521=>(some (decide (t521<aD)))))=some r:=by rw[if_pos rfl] at H;exact H
  clear H
  have H:=H1
  clear H1
  obtain⟨aN,hji5⟩:∃ j_:Int,(wrap64 (aC-1))=j_:=⟨_,rfl⟩
  replace H:((q4f.f l1 (aN)).bind fun t520=>((q1d.f k t520).bind fun t521=>(some (decide (t521<aD)))))=some r:=by first|(rw[hji5] at H;exact H)|(simp only[hji5] at H ⊢;exact H)
  (try rw[hji5] at A3)
  have aQ:(IntKind.i64.wrap (aC-1))=aN:=(q2n _).trans hji5
  obtain⟨t520,A7,H⟩:=zB H
  replace H:=Option.bind_eq_some_iff.mp H
  obtain⟨t521,A80,H⟩:=H
  replace H:(some (decide (t521<aD)))=some r:=H
  have A8:=zA A80
  clear A80
  obtain rfl:=zI H
  go_enter Try.func47,Try.ntmps47
  try go_wp2_with (first|((with_reducible refine zgd 2 rfl ?_);refine q9k ?hg (N:=2) ?hd (cs:=#[.int .i64 aD,.int .i64 aC]) (t:=28) ?hr ?_;(case hd=>rfl);(case hg=>rfl);(case hr=>first|(go_simp;done)|(go_simp;rfl));intro aE hg w9 hbox hb;have aH:=zA (q1b (zb) hb);have aG:=zA hbox;have aM:=zA ((by rw[hg];exact(q0f (zb)):w.heap.size≤aE));have aK:=zA ((by rw[hg];exact(q0f (zb)):w.heap.size≤aE));clear HB;have HB:=aH;have aA:=aG;have aX:=aM;have aI:=aK;clear aH aG aM aK;clear hb hbox hg))
  have aH:=q4h aA
  have aG:=z_b HB
  clear aA
  clear HB
  have aA:=aH
  have HB:=aG
  clear aH aG
  refine q3g (n:=14) (S:=fun w'=>w'.cell? ⟨aE,0,none⟩=some (.int .i64 aD)∧w'.cell? ⟨aE,1,none⟩=some (.int .i64 aC)) (ds:=[]) #[false,false,false,false,false,false,false,false,false,false,false,false,false,false] (by kernel_rfl) rfl rfl ⟨(q2t aA.out 0).trans rfl,(q2t aA.out 1).trans rfl⟩ (fun hHeld=>?_);refine q1m q2g.tab1 q2g.q8h (fun HT_ HW_=>?_)
  generalize w9.drew=bI at aA HB hHeld ⊢
  refine q8w (i:=0) (N:=some 5) (v:=?_) (a':=?_) #[true,false,false,false,false,false,false,false,false,false,false,false,false,false] rfl rfl (q7u HT_.out HW_.out (by kernel_rfl)) (fun _ _ _ h=>h) (Or.inl ⟨by rfl,?_⟩) hHeld ?_ ?_
  rotate_left
  ·rintro w' ⟨s0,s1⟩
   go_simp
   with_reducible rfl
  rotate_left
  ·simp only[Act.put,z_L,q2n,q3a]
   rfl
  refine one_ (i:=1) (N:=some 6) #[true,true,false,false,false,false,false,false,false,false,false,false,false,false] rfl rfl (q8k HT_.out (by kernel_rfl)) (by decide) (fun K hK=>?_)
  refine goes_ Try.func41 (by kernel_rfl) rfl #[.agg #[.int .i64 aD,.int .i64 aC]] (by rfl) rfl rfl (by(try simp only[List.map_toArray,List.map_cons,List.map_nil]);first|done|rfl|(simp only[List.length_drop,List.length_take];rfl)) ?_
  with_reducible refine(q4m.calls aD aC true _ A3.out).mono ?_
  rintro e bH ⟨rfl,hb⟩
  refine⟨_,rfl,?_⟩
  have aH:=zA (q1f (g:=aE) (o:=.cells #[.int .i64 aD,.int .i64 aC] 28 (0,0)) (by(with_reducible repeat (first|refine q3m ?_ _|refine q3w ?_|refine q3b ?_ _));exact aA.out) hb)
  have aG:=zA (q1b (zb) hb)
  clear aA
  clear HB
  have aA:=aH
  have HB:=aG
  clear aH aG
  (try clear hb)
  (try clear hb2)
  (try clear hk)
  (try clear hi)
  refine hK.out _ _ ⟨(q2t aA.out 0).trans rfl,(q2t aA.out 1).trans rfl⟩ (fun hHeld=>?_)
  clear hK K
  refine q1j (a':=?_) ?_ ?_
  rotate_left
  ·show Act.put _ (some 6) _=_
   simp only[Act.put,z_L,q2n,q3a]
   rfl
  refine q5d (i:=2) (N:=some 7) (v:=?_) (a':=?_) #[true,true,true,false,false,false,false,false,false,false,false,false,false,false] rfl rfl (q4x HT_.out (by kernel_rfl)) (fun _ _ _ h=>h) (Or.inl ⟨by rfl,?_⟩) ?_ ?_
  rotate_left
  ·intro w'
   go_simp
   with_reducible rfl
  rotate_left
  ·simp only[Act.put,z_L,q2n,q3a]
   rfl
  refine q5d (i:=3) (N:=some 8) (v:=?_) (a':=?_) #[true,true,true,true,false,false,false,false,false,false,false,false,false,false] rfl rfl (q4x HT_.out (by kernel_rfl)) (fun _ _ _ h=>h) (Or.inl ⟨by rfl,?_⟩) ?_ ?_
  rotate_left
  ·intro w'
   go_simp
   with_reducible rfl
  rotate_left
  ·simp only[Act.put,z_L,q2n,q3a]
   rfl
  refine q5d (i:=4) (N:=some 9) (v:=?_) (a':=?_) #[true,true,true,true,true,false,false,false,false,false,false,false,false,false] rfl rfl (q4x HT_.out (by kernel_rfl)) (fun _ _ _ h=>h) (Or.inl ⟨by rfl,?_⟩) ?_ ?_
  rotate_left
  ·intro w'
   go_simp
   with_reducible rfl
  rotate_left
  ·simp only[Act.put,z_L,q2n,q3a]
   rfl
  refine q5d (i:=9) (N:=some 14) (v:=?_) (a':=?_) #[true,true,true,true,true,false,false,false,false,true,false,false,false,false] rfl rfl (q4x HT_.out (by kernel_rfl)) (fun _ _ _ h=>h) (Or.inl ⟨by rfl,?_⟩) ?_ ?_
  rotate_left
  ·intro w'
   go_simp
   with_reducible rfl
  rotate_left
  ·simp only[Act.put,z_L,q2n,q3a]
   rfl
  refine q8w (i:=5) (N:=some 10) (v:=?_) (a':=?_) #[true,true,true,true,true,true,false,false,false,true,false,false,false,false] rfl rfl (q7u HT_.out HW_.out (by kernel_rfl)) (fun _ _ _ h=>h) (Or.inl ⟨by rfl,?_⟩) hHeld ?_ ?_
  rotate_left
  ·rintro w' ⟨s0,s1⟩
   go_simp
   with_reducible rfl
  rotate_left
  ·simp only[Act.put,z_L,q2n,q3a]
   rfl
  refine q5d (i:=6) (N:=some 11) (v:=?_) (a':=?_) #[true,true,true,true,true,true,true,false,false,true,false,false,false,false] rfl rfl (q4x HT_.out (by kernel_rfl)) (fun _ _ _ h=>h) (Or.inl ⟨by rfl,?_⟩) ?_ ?_
  rotate_left
  ·intro w'
   go_simp
   with_reducible rfl
  rotate_left
  ·simp only[Act.put,z_L,q2n,q3a]
   rfl
  refine q8w (i:=10) (N:=some 15) (v:=?_) (a':=?_) #[true,true,true,true,true,true,true,false,false,true,true,false,false,false] rfl rfl (q7u HT_.out HW_.out (by kernel_rfl)) (fun _ _ _ h=>h) (Or.inl ⟨by rfl,?_⟩) hHeld ?_ ?_
  rotate_left
  ·rintro w' ⟨s0,s1⟩
   go_simp
   with_reducible rfl
  rotate_left
  ·simp only[Act.put,z_L,q2n,q3a]
   rfl
  refine one_ (i:=7) (N:=some 12) #[true,true,true,true,true,true,true,true,false,true,true,false,false,false] rfl rfl (q8k HT_.out (by kernel_rfl)) (by decide) (fun K hK=>?_)
  refine goes_ Try.func68 (by kernel_rfl) rfl #[.slice A1 l1.length c1,.int .i64 aN] (by rfl) rfl rfl (by(try simp only[List.map_toArray,List.map_cons,List.map_nil]);first|done|rfl|(simp only[hji5];rfl)|(simp only[aQ];rfl)) ?_
  with_reducible refine(q4f.callsC A1 c1 l1 aN t520 _ (q3z HR1.out HB.out) HC1.out A7.out).mono ?_
  rintro e w' ⟨bD,bC,rfl,hc12,hrd12,rfl⟩
  refine⟨_,rfl,?_⟩
  have aV:=zA (hrd12 _ HR1.out);have aW:=zA hc12;clear hrd12 hc12
  refine hK.out _ _ ⟨(q2t aA.out 0).trans rfl,(q2t aA.out 1).trans rfl⟩ (fun hHeld=>?_)
  clear hK K
  refine q1j (a':=?_) ?_ ?_
  rotate_left
  ·show Act.put _ (some 12) _=_
   simp only[Act.put,z_L,q2n,q3a]
   rfl
  refine one_ (i:=8) (N:=some 13) #[true,true,true,true,true,true,true,true,true,true,true,false,false,false] rfl rfl (q8k HT_.out (by kernel_rfl)) (by decide) (fun K hK=>?_)
  refine goes_ Try.func67 (by kernel_rfl) rfl #[.slice bD t520.length bC] (by rfl) rfl rfl (by(try simp only[List.map_toArray,List.map_cons,List.map_nil]);first|done|(rw[show t520.length=(l1.length-(aN).toNat) from List.length_drop] <;> rfl)|(simp only[hji5];rfl)|rfl|(simp only[List.length_drop,List.length_take];rfl)) ?_
  with_reducible refine(q1d.calls k _ _ t520 t521 _ ?s1 ?s2 A8.out).mono ?_
  (case s1=>repeat (first|exact(q3z aV.out HB.out)|(with_reducible refine q6k ?_ _)|(with_reducible refine q6j ?_ _)|(with_reducible refine q7i ?_)))
  (case s2=>exact aW.out)
  rintro e w' ⟨rfl,⟨nd,rfl⟩⟩
  refine⟨_,rfl,?_⟩
  refine hK.out _ _ ⟨(q2t aA.out 0).trans rfl,(q2t aA.out 1).trans rfl⟩ (fun hHeld=>?_)
  clear hK K
  refine q1j (a':=?_) ?_ ?_
  rotate_left
  ·show Act.put _ (some 13) _=_
   simp only[Act.put,z_L,q2n,q3a]
   rfl
  refine q5d (i:=11) (N:=some 16) (v:=?_) (a':=?_) #[true,true,true,true,true,true,true,true,true,true,true,true,false,false] rfl rfl (q4x HT_.out (by kernel_rfl)) (fun _ _ _ h=>h) (Or.inl ⟨by rfl,?_⟩) ?_ ?_
  rotate_left
  ·intro w'
   go_simp
   with_reducible rfl
  rotate_left
  ·simp only[Act.put,z_L,q2n,q3a]
   rfl
  refine q5d (i:=12) (N:=some 17) (v:=?_) (a':=?_) #[true,true,true,true,true,true,true,true,true,true,true,true,true,false] rfl rfl (q4x HT_.out (by kernel_rfl)) (fun _ _ _ h=>h) (Or.inl ⟨by rfl,?_⟩) ?_ ?_
  rotate_left
  ·intro w'
   go_simp
   with_reducible rfl
  rotate_left
  ·simp only[Act.put,z_L,q2n,q3a]
   rfl
  refine q5d (i:=13) (N:=some 4) (v:=?_) (a':=?_) #[true,true,true,true,true,true,true,true,true,true,true,true,true,true] rfl rfl (q4x HT_.out (by kernel_rfl)) (fun _ _ _ h=>h) (Or.inl ⟨by rfl,?_⟩) ?_ ?_
  rotate_left
  ·intro w'
   go_simp
   with_reducible rfl
  rotate_left
  ·simp only[Act.put,z_L,q2n,q3a]
   rfl
  refine q4j (q2e HT_.out (by kernel_rfl)) ?_
  try go_wp2
  go_ret
  exact⟨by first|rfl|(simp[q1o,q1n] <;> rfl)|(simp only[←hji5];first|rfl|(simp[q1o,q1n] <;> rfl))|(simp[*,q1o,q1n] <;> rfl),zb⟩
 ·replace c4:=Bool.eq_false_iff.mpr c4
  subst c4
  have H1:(some false)=some r:=by rw[if_neg zNo] at H;exact H
  clear H
  have H:=H1
  clear H1
  obtain rfl:=zI H
  go_enter Try.func47,Try.ntmps47
  try go_wp2_with (first|((with_reducible refine zgd 2 rfl ?_);refine q9k ?hg (N:=2) ?hd (cs:=#[.int .i64 aD,.int .i64 aC]) (t:=28) ?hr ?_;(case hd=>rfl);(case hg=>rfl);(case hr=>first|(go_simp;done)|(go_simp;rfl));intro aE hg bB hbox hb;have aH:=zA (q1b (zb) hb);have aG:=zA hbox;have aM:=zA ((by rw[hg];exact(q0f (zb)):w.heap.size≤aE));have aK:=zA ((by rw[hg];exact(q0f (zb)):w.heap.size≤aE));clear HB;have HB:=aH;have aA:=aG;have aX:=aM;have aI:=aK;clear aH aG aM aK;clear hb hbox hg))
  have aH:=q4h aA
  have aG:=z_b HB
  clear aA
  clear HB
  have aA:=aH
  have HB:=aG
  clear aH aG
  refine q3g (n:=14) (S:=fun w'=>w'.cell? ⟨aE,0,none⟩=some (.int .i64 aD)∧w'.cell? ⟨aE,1,none⟩=some (.int .i64 aC)) (ds:=[]) #[false,false,false,false,false,false,false,false,false,false,false,false,false,false] (by kernel_rfl) rfl rfl ⟨(q2t aA.out 0).trans rfl,(q2t aA.out 1).trans rfl⟩ (fun hHeld=>?_);refine q1m q2g.tab1 q2g.q8h (fun HT_ HW_=>?_)
  generalize bB.drew=bG at aA HB hHeld ⊢
  refine q8w (i:=0) (N:=some 5) (v:=?_) (a':=?_) #[true,false,false,false,false,false,false,false,false,false,false,false,false,false] rfl rfl (q7u HT_.out HW_.out (by kernel_rfl)) (fun _ _ _ h=>h) (Or.inl ⟨by rfl,?_⟩) hHeld ?_ ?_
  rotate_left
  ·rintro w' ⟨s0,s1⟩
   go_simp
   with_reducible rfl
  rotate_left
  ·simp only[Act.put,z_L,q2n,q3a]
   rfl
  refine one_ (i:=1) (N:=some 6) #[true,true,false,false,false,false,false,false,false,false,false,false,false,false] rfl rfl (q8k HT_.out (by kernel_rfl)) (by decide) (fun K hK=>?_)
  refine goes_ Try.func41 (by kernel_rfl) rfl #[.agg #[.int .i64 aD,.int .i64 aC]] (by rfl) rfl rfl (by(try simp only[List.map_toArray,List.map_cons,List.map_nil]);first|done|rfl|(simp only[List.length_drop,List.length_take];rfl)) ?_
  with_reducible refine(q4m.calls aD aC false _ A3.out).mono ?_
  rintro e bF ⟨rfl,hb⟩
  refine⟨_,rfl,?_⟩
  have aH:=zA (q1f (g:=aE) (o:=.cells #[.int .i64 aD,.int .i64 aC] 28 (0,0)) (by(with_reducible repeat (first|refine q3m ?_ _|refine q3w ?_|refine q3b ?_ _));exact aA.out) hb)
  have aG:=zA (q1b (zb) hb)
  clear aA
  clear HB
  have aA:=aH
  have HB:=aG
  clear aH aG
  (try clear hb)
  (try clear hb2)
  (try clear hk)
  (try clear hi)
  refine hK.out _ _ ⟨(q2t aA.out 0).trans rfl,(q2t aA.out 1).trans rfl⟩ (fun hHeld=>?_)
  clear hK K
  refine q1j (a':=?_) ?_ ?_
  rotate_left
  ·show Act.put _ (some 6) _=_
   simp only[Act.put,z_L,q2n,q3a]
   rfl
  refine q5d (i:=2) (N:=some 7) (v:=?_) (a':=?_) #[true,true,true,false,false,false,false,false,false,false,false,false,false,false] rfl rfl (q4x HT_.out (by kernel_rfl)) (fun _ _ _ h=>h) (Or.inl ⟨by rfl,?_⟩) ?_ ?_
  rotate_left
  ·intro w'
   go_simp
   with_reducible rfl
  rotate_left
  ·simp only[Act.put,z_L,q2n,q3a]
   rfl
  refine q5d (i:=3) (N:=some 8) (v:=undef) (a':=?_) #[true,true,true,true,false,false,false,false,false,false,false,false,false,false] rfl rfl (q4x HT_.out (by kernel_rfl)) (fun _ _ _ h=>h) (Or.inr ⟨by rfl,rfl⟩) ?_ ?_
  rotate_left
  ·simp only[Act.put,z_L,q2n,q3a]
   rfl
  refine q5d (i:=4) (N:=some 9) (v:=undef) (a':=?_) #[true,true,true,true,true,false,false,false,false,false,false,false,false,false] rfl rfl (q4x HT_.out (by kernel_rfl)) (fun _ _ _ h=>h) (Or.inr ⟨by rfl,rfl⟩) ?_ ?_
  rotate_left
  ·simp only[Act.put,z_L,q2n,q3a]
   rfl
  refine q5d (i:=5) (N:=some 10) (v:=undef) (a':=?_) #[true,true,true,true,true,true,false,false,false,false,false,false,false,false] rfl rfl (q4x HT_.out (by kernel_rfl)) (fun _ _ _ h=>h) (Or.inr ⟨by rfl,rfl⟩) ?_ ?_
  rotate_left
  ·simp only[Act.put,z_L,q2n,q3a]
   rfl
  refine q5d (i:=6) (N:=some 11) (v:=undef) (a':=?_) #[true,true,true,true,true,true,true,false,false,false,false,false,false,false] rfl rfl (q4x HT_.out (by kernel_rfl)) (fun _ _ _ h=>h) (Or.inr ⟨by rfl,rfl⟩) ?_ ?_
  rotate_left
  ·simp only[Act.put,z_L,q2n,q3a]
   rfl
  refine q5d (i:=7) (N:=some 12) (v:=undef) (a':=?_) #[true,true,true,true,true,true,true,true,false,false,false,false,false,false] rfl rfl (q4x HT_.out (by kernel_rfl)) (fun _ _ _ h=>h) (Or.inr ⟨by rfl,rfl⟩) ?_ ?_
  rotate_left
  ·simp only[Act.put,z_L,q2n,q3a]
   rfl
  refine q5d (i:=8) (N:=some 13) (v:=undef) (a':=?_) #[true,true,true,true,true,true,true,true,true,false,false,false,false,false] rfl rfl (q4x HT_.out (by kernel_rfl)) (fun _ _ _ h=>h) (Or.inr ⟨by rfl,rfl⟩) ?_ ?_
  rotate_left
  ·simp only[Act.put,z_L,q2n,q3a]
   rfl
  refine q5d (i:=9) (N:=some 14) (v:=undef) (a':=?_) #[true,true,true,true,true,true,true,true,true,true,false,false,false,false] rfl rfl (q4x HT_.out (by kernel_rfl)) (fun _ _ _ h=>h) (Or.inr ⟨by rfl,rfl⟩) ?_ ?_
  rotate_left
  ·simp only[Act.put,z_L,q2n,q3a]
   rfl
  refine q5d (i:=10) (N:=some 15) (v:=undef) (a':=?_) #[true,true,true,true,true,true,true,true,true,true,true,false,false,false] rfl rfl (q4x HT_.out (by kernel_rfl)) (fun _ _ _ h=>h) (Or.inr ⟨by rfl,rfl⟩) ?_ ?_
  rotate_left
  ·simp only[Act.put,z_L,q2n,q3a]
   rfl
  refine q5d (i:=11) (N:=some 16) (v:=undef) (a':=?_) #[true,true,true,true,true,true,true,true,true,true,true,true,false,false] rfl rfl (q4x HT_.out (by kernel_rfl)) (fun _ _ _ h=>h) (Or.inr ⟨by rfl,rfl⟩) ?_ ?_
  rotate_left
  ·simp only[Act.put,z_L,q2n,q3a]
   rfl
  refine q5d (i:=12) (N:=some 17) (v:=?_) (a':=?_) #[true,true,true,true,true,true,true,true,true,true,true,true,true,false] rfl rfl (q4x HT_.out (by kernel_rfl)) (fun _ _ _ h=>h) (Or.inl ⟨by rfl,?_⟩) ?_ ?_
  rotate_left
  ·intro w'
   go_simp
   with_reducible rfl
  rotate_left
  ·simp only[Act.put,z_L,q2n,q3a]
   rfl
  refine q5d (i:=13) (N:=some 4) (v:=?_) (a':=?_) #[true,true,true,true,true,true,true,true,true,true,true,true,true,true] rfl rfl (q4x HT_.out (by kernel_rfl)) (fun _ _ _ h=>h) (Or.inl ⟨by rfl,?_⟩) ?_ ?_
  rotate_left
  ·intro w'
   go_simp
   with_reducible rfl
  rotate_left
  ·simp only[Act.put,z_L,q2n,q3a]
   rfl
  refine q4j (q2e HT_.out (by kernel_rfl)) ?_
  try go_wp2
  go_ret
  exact⟨zE,zb⟩

def q5m.f (a:List Bool) (f:Bool):Option (List Bool):=(some (([]:List Bool):List Bool)).bind fun b=>(if b.length+a.length<140737488355328 then((some (b++a:List Bool)).bind fun c=>(if c.length<140737488355328 then((some (([]:List Bool):List Bool)).bind fun d=>((q4f.f (c++[f]) 10).bind fun e=>(if d.length+e.length<140737488355328 then(some (d++e)) else(none)))) else(none))) else(none))
theorem q5m.calls (A0:Option Addr) (c0:Nat) (l0:List Bool) (a1:Bool) (r:List Bool) (w:World) (bB:Kd.C Kd.bool w A0 l0.length l0) (bC:l0.length≤c0) (h:q5m.f l0 a1=some r) :
  Calls Try.prog 48 #[.slice A0 l0.length c0,.bool a1] w fun e w'=>∃ v0_:Value,e=.returned (v0_)∧Kd.R Kd.bool 4 w' w.heap.size (fun _=>True) v0_ r∧Below w.heap.size w w':=by
 have bM:=zA bB;have bT:=zA bC;clear bB bC;have HB:=zA (Below.refl w.heap.size w);have H:=h;clear h;unfold q5m.f at H;obtain⟨aJ,aU⟩:∃ y_:List Bool,y_=(([]:List Bool)):=⟨_,rfl⟩
 replace H:(if aJ.length+l0.length<140737488355328 then((some (aJ++l0:List Bool)).bind fun aG=>(if aG.length<140737488355328 then((some (([]:List Bool):List Bool)).bind fun aC=>((q4f.f (aG++[a1]) 10).bind fun aA=>(if aC.length+aA.length<140737488355328 then(some (aC++aA)) else(none)))) else(none))) else(none))=some r:=zY aU H
 have Ny696:=zA aU;clear aU;obtain⟨bJ,H⟩:=q8c H;obtain⟨aG,aT⟩:∃ y_:List Bool,y_=(aJ++l0):=⟨_,rfl⟩
 replace H:(if aG.length<140737488355328 then((some (([]:List Bool):List Bool)).bind fun aC=>((q4f.f (aG++[a1]) 10).bind fun aA=>(if aC.length+aA.length<140737488355328 then(some (aC++aA)) else(none)))) else(none))=some r:=zY aT H
 have Ny699:=zA aT;clear aT;obtain⟨bI,H⟩:=q8c H;obtain⟨aI,aQ⟩:∃ y_:List Bool,y_=(aG++[a1]):=⟨_,rfl⟩
 replace H:((some (([]:List Bool):List Bool)).bind fun aC=>((q4f.f aI 10).bind fun aA=>(if aC.length+aA.length<140737488355328 then(some (aC++aA)) else(none))))=some r:=zY aQ H
 have Ny702:=zA aQ;clear aQ;obtain⟨aC,aN⟩:∃ y_:List Bool,y_=(([]:List Bool)):=⟨_,rfl⟩
 replace H:((q4f.f aI 10).bind fun aA=>(if aC.length+aA.length<140737488355328 then(some (aC++aA)) else(none)))=some r:=zY aN H
 have Ny705:=zA aN;clear aN;obtain⟨aA,A5,H⟩:=zB H;obtain⟨bH,H⟩:=q8c H;obtain⟨bD,aM⟩:∃ y_:List Bool,y_=(aC++aA):=⟨_,rfl⟩
 replace H:(some bD)=some r:=zY aM H
 have Ny711:=zA aM;clear aM;obtain rfl:=zI H;go_enter Try.func48,Try.ntmps48
 go_wp2_with (first|((with_reducible refine zgd 6 rfl ?_);refine q5z Kd.bool _ 4 ?hg (N:=6) ?hd (xs:=([]:List Bool)) (inner:=[]) (ok:=fun _=>True) (okp:=fun _=>True) ?hr ?hp (fun _ hk=>hk) trivial (Below.refl _ _) (Nat.le_refl _) (by simp) ?_;(case hd=>rfl);(case hg=>rfl);(case hr=>first|(go_simp;done)|(go_simp;rfl));(case hp=>exact(q3o.none _ _));intro v697 w7 ho8 hb hg_ hnew_;clear hg_ hnew_;(first|rw[←Ny696.out] at ho8|(simp only[Int.reduceToNat] at ho8;rw[←Ny696.out] at ho8));have aZ:=z_l ho8;replace HB:=zbs hb;clear hb ho8)|((with_reducible refine q0t (b:=.append) (xs:=#[.tmp 6,.tmp 7]) rfl ?_);at_builtin;refine q6h Kd.bool (w0:=w) w.heap.size rfl (.tmp 6) (.tmp 7) 31 4 (.bool false) 1 rfl Try.underlying31 q9a rfl (by decide) (by omega) v697 aJ l0 _ _ _ (fun _=>True) (fun _=>False) rfl rfl ?aO ?aR (fun _ _ h=>h) (fun _ h=>h.elim) ?aF ?aB ?aS ?aL ?_;(case aR=>repeat (first|exact(q3z bM.out HB.out)|(with_reducible refine q6k ?_ _)|(with_reducible refine q6j ?_ _)|(with_reducible refine q7i ?_)));(case aB=>exact zb);(case aF=>exact(fun _ _=>trivial));(case aO=>exact(zR aZ));(case aS=>exact(q0f zb));(case aL=>have:=bJ.out;omega);intro v700 w9 ho hb hg hat;rw[←Ny699.out] at ho;replace HB:=zA hb;have aY:=zA ho;clear aZ;clear ho hb hg hat)|((with_reducible refine q0t (b:=.append) (xs:=#[.tmp 8,.tmp 10]) rfl ?_);at_builtin;refine q2j Kd.bool (w0:=w) w.heap.size rfl (.tmp 8) (.tmp 10) 31 4 (.bool false) 1 rfl Try.underlying31 q9a rfl (by decide) (by omega) v700 aG a1 [.bool a1] (fun _=>True) (fun _=>False) rfl rfl ?aP (fun _ hk=>hk.elim) ?aF ?aO ?aB ?aS ?aL ?_;(case aP=>exact rfl);(case aB=>exact zb);(case aF=>exact(fun _ _=>trivial));(case aO=>exact(zR aY));(case aS=>exact(q0f zb));(case aL=>have:=bI.out;omega);intro v703 bS ho hb hg hat;rw[←Ny702.out] at ho;replace HB:=zA hb;have aE:=zA ho;clear aY;clear ho hb hg hat)|((with_reducible refine zgd 12 rfl ?_);refine q5z Kd.bool _ 4 ?hg (N:=12) ?hd (xs:=([]:List Bool)) (inner:=[]) (ok:=fun _=>True) (okp:=fun _=>True) ?hr ?hp (fun _ hk=>hk) trivial (Below.refl _ _) (Nat.le_refl _) (by simp) ?_;(case hd=>rfl);(case hg=>rfl);(case hr=>first|(go_simp;done)|(go_simp;rfl));(case hp=>exact(q3o.none _ _));intro v706 bR ho12 hb hg_ hnew_;clear hg_ hnew_;(first|rw[←Ny705.out] at ho12|(simp only[Int.reduceToNat] at ho12;rw[←Ny705.out] at ho12));have aD:=z_l (z_n ho12 aE);replace aE:=z_e aE ho12 hb;replace HB:=zbs hb;clear hb ho12;obtain⟨aX,aV,bF⟩:=q0j aE.out;subst bF)|((with_reducible refine zgf 68 rfl ?_);refine zgl 14 Try.func68 #[.slice aX aI.length aV,.int .i64 10] ?_;(with_reducible refine(q4f.calls (fun k_=>some k_=(.slice aX aI.length aV:Value).ownBlock) (.slice aX aI.length aV) aI 10 aA w _ ?s1 ?s2 A5.out).mono ?_);(case s1=>exact zb);(case s2=>exact R_tight rfl aE.out);rintro e bQ ⟨v709,rfl,ho0,hb,hkp⟩;refine⟨_,rfl,?_⟩;have aH:=zA (q6p (ok':=fun k_=>some k_≠(v706:Value).ownBlock) ho0 (fun k_ hk_=>Or.elim hk_ (fun hs_=>fun e_=>(((aD.out).1 k_ e_.symm).2) hs_) (fun hn_=>(fresh' (q7f (zR aD)) k_ hn_))));replace aD:=zA (q2s (ok':=fun k_=>some k_≠(v709:Value).ownBlock) (R_keptB (aD.out) hkp (fun k_ hk_ hs_=>(hk_.2) hs_)) (fun k_ hk_=>fun e_=>Or.elim (ho0.1 k_ e_.symm) (fun hs_=>hk_.2.1 hs_) (fun hn_=>Nat.not_le.2 hk_.2.2 hn_)));replace HB:=zA hb;clear aE;(try clear hb);(try clear hkp);(try clear ho0);obtain⟨bK,bG,bE,_⟩:=q7h aH.out;subst bE)|((with_reducible refine q0t (b:=.append) (xs:=#[.tmp 12,.tmp 14]) rfl ?_);at_builtin;refine q6h Kd.bool (w0:=w) w.heap.size rfl (.tmp 12) (.tmp 14) 31 4 (.bool false) 1 rfl Try.underlying31 q9a rfl (by decide) (by omega) v706 aC aA _ _ _ (fun k_=>some k_≠(.slice bK aA.length bG:Value).ownBlock) (fun _=>False) rfl rfl ?aO ?aR (fun _ _ h=>h) (fun _ h=>h.elim) ?aF ?aB ?aS ?aL ?_;(case aR=>repeat (first|exact(q2q aH.out).2.2|(with_reducible refine q6k ?_ _)|(with_reducible refine q6j ?_ _)|(with_reducible refine q7i ?_)));(case aB=>exact zb);(case aF=>exact(fun k_ hk=>fresh' (Q_lt (zQ aH)) k_ hk));(case aO=>exact(zR aD));(case aS=>exact(q0f zb));(case aL=>have:=bH.out;omega);intro v712 bP ho hb hg hat;rw[←Ny711.out] at ho;replace aH:=zA (Q_after (ok:=(fun _=>True)) (by(with_reducible repeat (first|apply q8t|apply q8s|apply q7e));exact q6p aH.out (fun _ hk=>⟨trivial,hk⟩)) hg hat);replace HB:=zA hb;have bA:=zA ho;clear aD;clear ho hb hg hat))
 go_ret;exact⟨_,zE,z_t bA,zb⟩
end Go.Proofs.Ytkonccdanjhngaa.Q
