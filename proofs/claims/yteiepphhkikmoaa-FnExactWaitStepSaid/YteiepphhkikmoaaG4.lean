/- Walks of 15 functions of the program: each comes to what a plain function tells. -/
import Derived.Test.YteiepphhkikmoaaG0
import Derived.Test.YteiepphhkikmoaaG3
namespace Go.Proofs.Yteiepphhkikmoaa.Q
open Go.RowKit Go.Proofs.YteiepphhkikmoaaW.PrintWords Go.Proofs.YteiepphhkikmoaaW.PrintLast Go.Proofs.YteiepphhkikmoaaW.PrintMore Go.Proofs.YteiepphhkikmoaaW.Zip
attribute [local go_sem] max2_int min2_int max_two min_two max_three min_three max_four min_four   -- for this text's walks alone
set_option linter.unusedVariables false
set_option maxHeartbeats 8000000
set_option maxRecDepth 100000
set_option linter.unusedSimpArgs false

def X5.l0:Nat->List (S117)->List (S117)->Int->Int->Option (Bool)
  |0,_,_,_,_=>none
  |k+1,x0,x5,x6,x7=>if x7<x6 then(if 0<=x7 then(if x7<(x5.length:Int) then((X0.f ((rd_T117 x5 x7).f0) 1 99).bind fun t553=>(if t553=true then(if x7>0 then(if 0<=(wrap64 (x7-1)) then(if (wrap64 (x7-1))<(x0.length:Int) then(if ((rd_T117 x5 x7).f0)<=((rd_T117 x0 (wrap64 (x7-1))).f0) then(some false) else((X0.f ((rd_T117 x5 x7).f1) 0 100).bind fun t555=>(if t555=true then((X0.f ((rd_T117 x5 x7).f2) 1 10).bind fun t556=>(if t556=true then(X5.l0 k x0 x5 x6 (wrap64 (x7+1))) else(some false))) else(some false)))) else(none)) else(none)) else((X0.f ((rd_T117 x5 x7).f1) 0 100).bind fun t557=>(if t557=true then((X0.f ((rd_T117 x5 x7).f2) 1 10).bind fun t558=>(if t558=true then(X5.l0 k x0 x5 x6 (wrap64 (x7+1))) else(some false))) else(some false)))) else(some false))) else(none)) else(none)) else((X0.f (x0.length:Int) 1 8).bind fun t550=>(some t550))
def X5.f (k:Nat) (l0:List (S117)):Option (Bool):=X5.l0 k l0 l0 (l0.length:Int) 0
def X5.T4:Bool × List (List Nat × List Nat):=(true,[([],[]),([0],[0]),([1],[1]),([2],[2]),([3,2],[3]),([4],[4]),([5,4],[4,5]),([6,4,4],[4,6]),([7],[7]),([8,7],[7,8]),([7],[7]),([7],[7]),([11,7],[7,11]),([10,12,7],[7,10,12]),([13,7],[7,13]),([14,7],[7,14]),([9,15,7],[7,9,15]),([7,16,4],[4,7,16]),([4,17],[4,17]),([18,7],[18]),([19],[19]),([20,19],[19,20]),([21,19,19],[19,21]),([22,19],[19,22]),([19,23],[19,23]),([24,22],[24]),([25],[25]),([26,25],[25,26]),([27,25,25],[25,27]),([28,25],[25,28]),([25,29],[25,29])])
def X5.B4:List Nat:=[0,1,3,7,15,31,63,127,255,511,255,255,2303,7423,15615,31999,65535,131071,262143,524287,1048575,2097151,4194303,8388607,16777215,33554431,67108863,134217727,268435455,536870911,1073741823]
theorem X5.tab4:rtab .any (opsOf Try.f145 4)=X5.T4:=by kernel_rfl
theorem X5.bits4:waitsOk X5.T4.2 X5.B4=true:=by kernel_rfl
theorem X5.calls (k:Nat) (A0:Option Addr) (c0:Nat) (l0:List (S117)) (r:Bool) (w:World) (cA:Kd.C k117 w A0 l0.length l0) (cB:l0.length<=c0) (h:X5.f k l0=some r) :
  Calls Try.prog 145 #[.slice A0 l0.length c0] w fun e w'=>e=.returned (.bool r)/\Below w.heap.size w w':=by
 have hu117:=Try.underlying117;have bA:=zA cA;have fU:=zA cB;clear cA cB;have HB:=zA (Below.refl w.heap.size w);have H:=h;clear h;unfold X5.f at H;have H':=zA H;clear H;go_enter Try.func145,Try.ntmps145;go_wp2
 go_loopg [7] k (fun kq v7 w'=>∃ (aA:Int),v7=.int .i64 aA/\Aside0 (X5.l0 kq l0 l0 (l0.length:Int) aA=some r)/\Aside0 (kq<=k)/\Aside0 (Below w.heap.size w w'))
 case atStart=>exact⟨(0),zr,H',⟨Nat.le_refl _⟩,⟨zb⟩⟩
 case round =>
  clear H';obtain⟨aA,rfl,HA,HK1,HB⟩:=hrel
  cases gk with
  |zero=>exact absurd HA.out (by simp[X5.l0])
  |succ k1 =>
   have H:=HA.out;clear HA;simp only[X5.l0] at H
   by_cases c2:aA<(l0.length:Int)
   ·rw[if_pos c2] at H;have cJ:=decide_eq_true c2;clear c2;obtain⟨fL,H⟩:=zifD H;obtain⟨fK,H⟩:=zifD H;obtain⟨cG,A5,H⟩:=zB H
    by_cases c6:cG=true
    ·subst c6;rw[if_pos rfl] at H
     by_cases c7:aA>0
     ·rw[if_pos c7] at H;have cI:decide (0<aA)=true:=decide_eq_true c7;clear c7;obtain⟨aH,bD⟩:∃ j_:Int,(wrap64 (aA-1))=j_:=⟨_,rfl⟩
      replace H:(if 0<=(aH) then(if (aH)<(l0.length:Int) then(if ((rd_T117 l0 aA).f0)<=((rd_T117 l0 (aH)).f0) then(some false) else((X0.f ((rd_T117 l0 aA).f1) 0 100).bind fun bH=>(if bH=true then((X0.f ((rd_T117 l0 aA).f2) 1 10).bind fun bG=>(if bG=true then(X5.l0 k1 l0 l0 (l0.length:Int) (wrap64 (aA+1))) else(some false))) else(some false)))) else(none)) else(none))=some r:=by first|(rw[bD] at H;exact H)|(simp only[bD] at H ⊢;exact H)
      (try rw[bD] at A5);have fH:(IntKind.i64.wrap (aA-1))=aH:=(i64_w _).trans bD;obtain⟨fJ,H⟩:=zifD H;obtain⟨fI,H⟩:=zifD H
      by_cases c11:((rd_T117 l0 aA).f0)<=((rd_T117 l0 (aH)).f0)
      ·rw[if_pos c11] at H;have bZ:=decide_eq_true c11;clear c11;obtain rfl:=zI H;have bC:=zT (0<=(aA:Int));have bB:=zT (aA<(l0.length:Int));obtain⟨aG,aX,aM,aK,aJ,aI⟩:=at_T117 bA.out aA zd zd;cases aX;replace aM:=zC HB aM;replace aK:=zC HB aK;replace aJ:=zC HB aJ;replace aI:=zC HB aI
       try go_wp2_with (first|((with_reducible refine zgd 4 rfl ?_);refine zbx 4 #[.int .i64 0,.int .i64 0,.int .i64 0,.bool false] 117 ?_;intro aD hg bV b' hb;have aC:=zA b';have aZ:=zga (w:=w) hg;replace HB:=zbs hb;clear hb b' hg;obtain⟨eV,eU,eT,eS,dP,dO,dN,dM⟩:=ze4 aC))
       have aW:Aside0 (((((bV.setCell ⟨aD,0,none⟩ (.int .i64 ((rd_T117 l0 aA).f0))).setCell ⟨aD,1,none⟩ (.int .i64 ((rd_T117 l0 aA).f1))).setCell ⟨aD,2,none⟩ (.int .i64 ((rd_T117 l0 aA).f2))).setCell ⟨aD,3,none⟩ (.bool ((rd_T117 l0 aA).f3))).heap[aD]?=some (.cells #[.int .i64 ((rd_T117 l0 aA).f0),.int .i64 ((rd_T117 l0 aA).f1),.int .i64 ((rd_T117 l0 aA).f2),.bool ((rd_T117 l0 aA).f3)] 117 (0,0))):=⟨zkp aC⟩;have aV:Aside0 (Below w.heap.size w ((((bV.setCell ⟨aD,0,none⟩ (.int .i64 ((rd_T117 l0 aA).f0))).setCell ⟨aD,1,none⟩ (.int .i64 ((rd_T117 l0 aA).f1))).setCell ⟨aD,2,none⟩ (.int .i64 ((rd_T117 l0 aA).f2))).setCell ⟨aD,3,none⟩ (.bool ((rd_T117 l0 aA).f3)))):=⟨zb⟩;(try clear aC HB);generalize ((((bV.setCell ⟨aD,0,none⟩ (.int .i64 ((rd_T117 l0 aA).f0))).setCell ⟨aD,1,none⟩ (.int .i64 ((rd_T117 l0 aA).f1))).setCell ⟨aD,2,none⟩ (.int .i64 ((rd_T117 l0 aA).f2))).setCell ⟨aD,3,none⟩ (.bool ((rd_T117 l0 aA).f3)))=fD at aW aV ⊢;have aC:=aW;have HB:=aV;clear aW aV;replace aC:=zA (blk_drew aC.out);replace HB:=zA (below_drew1 HB.out);have bJ:=zT (0<=((aH):Int));have bI:=zT ((aH)<(l0.length:Int));obtain⟨aY,bE,aU,aT,aQ,aN⟩:=at_T117 bA.out (aH) zd zd;obtain rfl:aG=aY:=(by injection bE);refine start_ (n:=31) (S:=fun w'=>w'.cell? ⟨aD,0,none⟩=some (.int .i64 ((rd_T117 l0 aA).f0))/\w'.cell? ⟨aD,1,none⟩=some (.int .i64 ((rd_T117 l0 aA).f1))/\w'.cell? ⟨aD,2,none⟩=some (.int .i64 ((rd_T117 l0 aA).f2))/\w'.cell? ⟨aD,3,none⟩=some (.bool ((rd_T117 l0 aA).f3))/\w'.cell? (aG.add (((aH)).toNat * 4))=some (.int .i64 ((rd_T117 l0 (aH)).f0))/\w'.cell? ⟨(aG.add (((aH)).toNat * 4)).block,(aG.add (((aH)).toNat * 4)).off+1,none⟩=some (.int .i64 ((rd_T117 l0 (aH)).f1))/\w'.cell? ⟨(aG.add (((aH)).toNat * 4)).block,(aG.add (((aH)).toNat * 4)).off+2,none⟩=some (.int .i64 ((rd_T117 l0 (aH)).f2))/\w'.cell? ⟨(aG.add (((aH)).toNat * 4)).block,(aG.add (((aH)).toNat * 4)).off+3,none⟩=some (.bool ((rd_T117 l0 (aH)).f3))) (ds:=[]) _ (by kernel_rfl) rfl rfl ⟨zq aC 0,zq aC 1,zq aC 2,zq aC 3,(zC HB aU),(zC HB aT),(zC HB aQ),(zC HB aN)⟩ (fun h'=>?_);refine with_tabW X5.tab4 X5.bits4 (fun T_ W_=>?_)
       generalize fD.drew=fT at aC HB h' ⊢;refine zp 0 12 T_ ?_;refine zt 1 13 T_ W_ h' ?_;refine zo 2 14 T_ (fun K hK=>?_);refine zgo Try.func95 #[.int .i64 ((rd_T117 l0 aA).f0),.int .i64 1,.int .i64 99] ?_
       refine(X0.calls ((rd_T117 l0 aA).f0) 1 99 true _ A5.out).mono ?_
       rintro e w' ⟨rfl,⟨nd,rfl⟩⟩;refine⟨_,rfl,?_⟩;refine hK.out _ _ ⟨zq aC 0,zq aC 1,zq aC 2,zq aC 3,(zC HB aU :),(zC HB aT :),(zC HB aQ :),(zC HB aN :)⟩ (fun h'=>?_);clear hK K;refine norm_ zV ?_;refine zp 3 15 T_ ?_;refine zp 4 16 T_ ?_;refine zp 5 17 T_ ?_;refine zp 6 18 T_ ?_;refine zp 7 19 T_ ?_;refine zp 8 20 T_ ?_;refine zp 10 22 T_ ?_;refine zp 11 23 T_ ?_;refine zp 12 24 T_ ?_;refine zp 13 25 T_ ?_;refine zp 14 26 T_ ?_;refine zt 9 21 T_ W_ h' ?_;refine zt 15 27 T_ W_ h' ?_;refine zp 16 28 T_ ?_;refine zp 17 29 T_ ?_;refine zp 18 30 T_ ?_;refine zp 19 31 T_ ?_;refine zu 20 32 T_ ?_;refine zu 21 33 T_ ?_;refine zu 22 34 T_ ?_;refine zu 23 35 T_ ?_;refine zp 24 36 T_ ?_;refine zp 25 37 T_ ?_;refine zu 26 38 T_ ?_;refine zu 27 39 T_ ?_;refine zu 28 40 T_ ?_;refine zu 29 41 T_ ?_;refine zp 30 42 T_ ?_;refine done_ (done_of T_.out (by kernel_rfl)) ?_
       try go_wp2
       go_ret;exact⟨by first|rfl|(simp[errW_none,errW_some] <;> rfl)|(simp only[<-bD];first|rfl|(simp[errW_none,errW_some] <;> rfl))|(simp[*,errW_none,errW_some] <;> rfl),zb⟩
      ·rw[if_neg c11] at H;have bZ:=decide_eq_false c11;clear c11;obtain⟨bH,bX,H⟩:=zB H
       by_cases bN:bH=true
       ·subst bN;rw[if_pos rfl] at H;obtain⟨bG,cD,H⟩:=zB H
        by_cases bM:bG=true
        ·subst bM;rw[if_pos rfl] at H;have H':=zA H;clear H;have bC:=zT (0<=(aA:Int));have bB:=zT (aA<(l0.length:Int));obtain⟨aG,aX,aM,aK,aJ,aI⟩:=at_T117 bA.out aA zd zd;cases aX;replace aM:=zC HB aM;replace aK:=zC HB aK;replace aJ:=zC HB aJ;replace aI:=zC HB aI
         try go_wp2_with (first|((with_reducible refine zgd 4 rfl ?_);refine zbx 4 #[.int .i64 0,.int .i64 0,.int .i64 0,.bool false] 117 ?_;intro aD hg bU b' hb;have aC:=zA b';have aZ:=zga (w:=w) hg;replace HB:=zbs hb;clear hb b' hg;obtain⟨eR,eQ,eP,eO,dL,dK,dJ,dI⟩:=ze4 aC))
         have aW:Aside0 (((((bU.setCell ⟨aD,0,none⟩ (.int .i64 ((rd_T117 l0 aA).f0))).setCell ⟨aD,1,none⟩ (.int .i64 ((rd_T117 l0 aA).f1))).setCell ⟨aD,2,none⟩ (.int .i64 ((rd_T117 l0 aA).f2))).setCell ⟨aD,3,none⟩ (.bool ((rd_T117 l0 aA).f3))).heap[aD]?=some (.cells #[.int .i64 ((rd_T117 l0 aA).f0),.int .i64 ((rd_T117 l0 aA).f1),.int .i64 ((rd_T117 l0 aA).f2),.bool ((rd_T117 l0 aA).f3)] 117 (0,0))):=⟨zkp aC⟩;have aV:Aside0 (Below w.heap.size w ((((bU.setCell ⟨aD,0,none⟩ (.int .i64 ((rd_T117 l0 aA).f0))).setCell ⟨aD,1,none⟩ (.int .i64 ((rd_T117 l0 aA).f1))).setCell ⟨aD,2,none⟩ (.int .i64 ((rd_T117 l0 aA).f2))).setCell ⟨aD,3,none⟩ (.bool ((rd_T117 l0 aA).f3)))):=⟨zb⟩;(try clear aC HB);generalize ((((bU.setCell ⟨aD,0,none⟩ (.int .i64 ((rd_T117 l0 aA).f0))).setCell ⟨aD,1,none⟩ (.int .i64 ((rd_T117 l0 aA).f1))).setCell ⟨aD,2,none⟩ (.int .i64 ((rd_T117 l0 aA).f2))).setCell ⟨aD,3,none⟩ (.bool ((rd_T117 l0 aA).f3)))=fC at aW aV ⊢;have aC:=aW;have HB:=aV;clear aW aV;replace aC:=zA (blk_drew aC.out);replace HB:=zA (below_drew1 HB.out);have bJ:=zT (0<=((aH):Int));have bI:=zT ((aH)<(l0.length:Int));obtain⟨aY,bE,aU,aT,aQ,aN⟩:=at_T117 bA.out (aH) zd zd;obtain rfl:aG=aY:=(by injection bE);refine start_ (n:=31) (S:=fun w'=>w'.cell? ⟨aD,0,none⟩=some (.int .i64 ((rd_T117 l0 aA).f0))/\w'.cell? ⟨aD,1,none⟩=some (.int .i64 ((rd_T117 l0 aA).f1))/\w'.cell? ⟨aD,2,none⟩=some (.int .i64 ((rd_T117 l0 aA).f2))/\w'.cell? ⟨aD,3,none⟩=some (.bool ((rd_T117 l0 aA).f3))/\w'.cell? (aG.add (((aH)).toNat * 4))=some (.int .i64 ((rd_T117 l0 (aH)).f0))/\w'.cell? ⟨(aG.add (((aH)).toNat * 4)).block,(aG.add (((aH)).toNat * 4)).off+1,none⟩=some (.int .i64 ((rd_T117 l0 (aH)).f1))/\w'.cell? ⟨(aG.add (((aH)).toNat * 4)).block,(aG.add (((aH)).toNat * 4)).off+2,none⟩=some (.int .i64 ((rd_T117 l0 (aH)).f2))/\w'.cell? ⟨(aG.add (((aH)).toNat * 4)).block,(aG.add (((aH)).toNat * 4)).off+3,none⟩=some (.bool ((rd_T117 l0 (aH)).f3))) (ds:=[]) _ (by kernel_rfl) rfl rfl ⟨zq aC 0,zq aC 1,zq aC 2,zq aC 3,(zC HB aU),(zC HB aT),(zC HB aQ),(zC HB aN)⟩ (fun h'=>?_);refine with_tabW X5.tab4 X5.bits4 (fun T_ W_=>?_)
         generalize fC.drew=fS at aC HB h' ⊢;refine zp 0 12 T_ ?_;refine zt 1 13 T_ W_ h' ?_;refine zo 2 14 T_ (fun K hK=>?_);refine zgo Try.func95 #[.int .i64 ((rd_T117 l0 aA).f0),.int .i64 1,.int .i64 99] ?_
         refine(X0.calls ((rd_T117 l0 aA).f0) 1 99 true _ A5.out).mono ?_
         rintro e w' ⟨rfl,⟨nd,rfl⟩⟩;refine⟨_,rfl,?_⟩;refine hK.out _ _ ⟨zq aC 0,zq aC 1,zq aC 2,zq aC 3,(zC HB aU :),(zC HB aT :),(zC HB aQ :),(zC HB aN :)⟩ (fun h'=>?_);clear hK K;refine norm_ zV ?_;refine zp 3 15 T_ ?_;refine zp 4 16 T_ ?_;refine zp 5 17 T_ ?_;refine zp 6 18 T_ ?_;refine zp 7 19 T_ ?_;refine zp 8 20 T_ ?_;refine zp 10 22 T_ ?_;refine zp 11 23 T_ ?_;refine zp 12 24 T_ ?_;refine zp 13 25 T_ ?_;refine zp 14 26 T_ ?_;refine zt 9 21 T_ W_ h' ?_;refine zt 15 27 T_ W_ h' ?_;refine zp 16 28 T_ ?_;refine zp 17 29 T_ ?_;refine zp 18 30 T_ ?_;refine zp 19 31 T_ ?_;refine zp 20 32 T_ ?_;refine zt 21 33 T_ W_ h' ?_;refine zo 22 34 T_ (fun K hK=>?_);refine zgo Try.func95 #[.int .i64 ((rd_T117 l0 aA).f1),.int .i64 0,.int .i64 100] ?_
         refine(X0.calls ((rd_T117 l0 aA).f1) 0 100 true _ bX.out).mono ?_
         rintro e w' ⟨rfl,⟨nd,rfl⟩⟩;refine⟨_,rfl,?_⟩;refine hK.out _ _ ⟨zq aC 0,zq aC 1,zq aC 2,zq aC 3,(zC HB aU :),(zC HB aT :),(zC HB aQ :),(zC HB aN :)⟩ (fun h'=>?_);clear hK K;refine norm_ zV ?_;refine zp 23 35 T_ ?_;refine zp 24 36 T_ ?_;refine zp 25 37 T_ ?_;refine zp 26 38 T_ ?_;refine zt 27 39 T_ W_ h' ?_;refine zo 28 40 T_ (fun K hK=>?_);refine zgo Try.func95 #[.int .i64 ((rd_T117 l0 aA).f2),.int .i64 1,.int .i64 10] ?_
         refine(X0.calls ((rd_T117 l0 aA).f2) 1 10 true _ cD.out).mono ?_
         rintro e w' ⟨rfl,⟨nd,rfl⟩⟩;refine⟨_,rfl,?_⟩;refine hK.out _ _ ⟨zq aC 0,zq aC 1,zq aC 2,zq aC 3,(zC HB aU :),(zC HB aT :),(zC HB aQ :),(zC HB aN :)⟩ (fun h'=>?_);clear hK K;refine norm_ zV ?_;refine zp 29 41 T_ ?_;refine zp 30 42 T_ ?_;refine done_ (done_of T_.out (by kernel_rfl)) ?_
         try go_wp2
         go_roundg k1
         case measure=>have:=HK1.out;omega
         case rel=>exact⟨(wrap64 (aA+1)),zr,H',⟨by have:=HK1.out;omega⟩,⟨zb⟩⟩
        ·replace bM:=zbq bM;subst bM;rw[if_neg zNo] at H;obtain rfl:=zI H;have bC:=zT (0<=(aA:Int));have bB:=zT (aA<(l0.length:Int));obtain⟨aG,aX,aM,aK,aJ,aI⟩:=at_T117 bA.out aA zd zd;cases aX;replace aM:=zC HB aM;replace aK:=zC HB aK;replace aJ:=zC HB aJ;replace aI:=zC HB aI
         try go_wp2_with (first|((with_reducible refine zgd 4 rfl ?_);refine zbx 4 #[.int .i64 0,.int .i64 0,.int .i64 0,.bool false] 117 ?_;intro aD hg bT b' hb;have aC:=zA b';have aZ:=zga (w:=w) hg;replace HB:=zbs hb;clear hb b' hg;obtain⟨eN,eM,eL,eK,dH,dG,dF,dE⟩:=ze4 aC))
         have aW:Aside0 (((((bT.setCell ⟨aD,0,none⟩ (.int .i64 ((rd_T117 l0 aA).f0))).setCell ⟨aD,1,none⟩ (.int .i64 ((rd_T117 l0 aA).f1))).setCell ⟨aD,2,none⟩ (.int .i64 ((rd_T117 l0 aA).f2))).setCell ⟨aD,3,none⟩ (.bool ((rd_T117 l0 aA).f3))).heap[aD]?=some (.cells #[.int .i64 ((rd_T117 l0 aA).f0),.int .i64 ((rd_T117 l0 aA).f1),.int .i64 ((rd_T117 l0 aA).f2),.bool ((rd_T117 l0 aA).f3)] 117 (0,0))):=⟨zkp aC⟩;have aV:Aside0 (Below w.heap.size w ((((bT.setCell ⟨aD,0,none⟩ (.int .i64 ((rd_T117 l0 aA).f0))).setCell ⟨aD,1,none⟩ (.int .i64 ((rd_T117 l0 aA).f1))).setCell ⟨aD,2,none⟩ (.int .i64 ((rd_T117 l0 aA).f2))).setCell ⟨aD,3,none⟩ (.bool ((rd_T117 l0 aA).f3)))):=⟨zb⟩;(try clear aC HB);generalize ((((bT.setCell ⟨aD,0,none⟩ (.int .i64 ((rd_T117 l0 aA).f0))).setCell ⟨aD,1,none⟩ (.int .i64 ((rd_T117 l0 aA).f1))).setCell ⟨aD,2,none⟩ (.int .i64 ((rd_T117 l0 aA).f2))).setCell ⟨aD,3,none⟩ (.bool ((rd_T117 l0 aA).f3)))=fB at aW aV ⊢;have aC:=aW;have HB:=aV;clear aW aV;replace aC:=zA (blk_drew aC.out);replace HB:=zA (below_drew1 HB.out);have bJ:=zT (0<=((aH):Int));have bI:=zT ((aH)<(l0.length:Int));obtain⟨aY,bE,aU,aT,aQ,aN⟩:=at_T117 bA.out (aH) zd zd;obtain rfl:aG=aY:=(by injection bE);refine start_ (n:=31) (S:=fun w'=>w'.cell? ⟨aD,0,none⟩=some (.int .i64 ((rd_T117 l0 aA).f0))/\w'.cell? ⟨aD,1,none⟩=some (.int .i64 ((rd_T117 l0 aA).f1))/\w'.cell? ⟨aD,2,none⟩=some (.int .i64 ((rd_T117 l0 aA).f2))/\w'.cell? ⟨aD,3,none⟩=some (.bool ((rd_T117 l0 aA).f3))/\w'.cell? (aG.add (((aH)).toNat * 4))=some (.int .i64 ((rd_T117 l0 (aH)).f0))/\w'.cell? ⟨(aG.add (((aH)).toNat * 4)).block,(aG.add (((aH)).toNat * 4)).off+1,none⟩=some (.int .i64 ((rd_T117 l0 (aH)).f1))/\w'.cell? ⟨(aG.add (((aH)).toNat * 4)).block,(aG.add (((aH)).toNat * 4)).off+2,none⟩=some (.int .i64 ((rd_T117 l0 (aH)).f2))/\w'.cell? ⟨(aG.add (((aH)).toNat * 4)).block,(aG.add (((aH)).toNat * 4)).off+3,none⟩=some (.bool ((rd_T117 l0 (aH)).f3))) (ds:=[]) _ (by kernel_rfl) rfl rfl ⟨zq aC 0,zq aC 1,zq aC 2,zq aC 3,(zC HB aU),(zC HB aT),(zC HB aQ),(zC HB aN)⟩ (fun h'=>?_);refine with_tabW X5.tab4 X5.bits4 (fun T_ W_=>?_)
         generalize fB.drew=fR at aC HB h' ⊢;refine zp 0 12 T_ ?_;refine zt 1 13 T_ W_ h' ?_;refine zo 2 14 T_ (fun K hK=>?_);refine zgo Try.func95 #[.int .i64 ((rd_T117 l0 aA).f0),.int .i64 1,.int .i64 99] ?_
         refine(X0.calls ((rd_T117 l0 aA).f0) 1 99 true _ A5.out).mono ?_
         rintro e w' ⟨rfl,⟨nd,rfl⟩⟩;refine⟨_,rfl,?_⟩;refine hK.out _ _ ⟨zq aC 0,zq aC 1,zq aC 2,zq aC 3,(zC HB aU :),(zC HB aT :),(zC HB aQ :),(zC HB aN :)⟩ (fun h'=>?_);clear hK K;refine norm_ zV ?_;refine zp 3 15 T_ ?_;refine zp 4 16 T_ ?_;refine zp 5 17 T_ ?_;refine zp 6 18 T_ ?_;refine zp 7 19 T_ ?_;refine zp 8 20 T_ ?_;refine zp 10 22 T_ ?_;refine zp 11 23 T_ ?_;refine zp 12 24 T_ ?_;refine zp 13 25 T_ ?_;refine zp 14 26 T_ ?_;refine zt 9 21 T_ W_ h' ?_;refine zt 15 27 T_ W_ h' ?_;refine zp 16 28 T_ ?_;refine zp 17 29 T_ ?_;refine zp 18 30 T_ ?_;refine zp 19 31 T_ ?_;refine zp 20 32 T_ ?_;refine zt 21 33 T_ W_ h' ?_;refine zo 22 34 T_ (fun K hK=>?_);refine zgo Try.func95 #[.int .i64 ((rd_T117 l0 aA).f1),.int .i64 0,.int .i64 100] ?_
         refine(X0.calls ((rd_T117 l0 aA).f1) 0 100 true _ bX.out).mono ?_
         rintro e w' ⟨rfl,⟨nd,rfl⟩⟩;refine⟨_,rfl,?_⟩;refine hK.out _ _ ⟨zq aC 0,zq aC 1,zq aC 2,zq aC 3,(zC HB aU :),(zC HB aT :),(zC HB aQ :),(zC HB aN :)⟩ (fun h'=>?_);clear hK K;refine norm_ zV ?_;refine zp 23 35 T_ ?_;refine zp 24 36 T_ ?_;refine zp 25 37 T_ ?_;refine zp 26 38 T_ ?_;refine zt 27 39 T_ W_ h' ?_;refine zo 28 40 T_ (fun K hK=>?_);refine zgo Try.func95 #[.int .i64 ((rd_T117 l0 aA).f2),.int .i64 1,.int .i64 10] ?_
         refine(X0.calls ((rd_T117 l0 aA).f2) 1 10 false _ cD.out).mono ?_
         rintro e w' ⟨rfl,⟨nd,rfl⟩⟩;refine⟨_,rfl,?_⟩;refine hK.out _ _ ⟨zq aC 0,zq aC 1,zq aC 2,zq aC 3,(zC HB aU :),(zC HB aT :),(zC HB aQ :),(zC HB aN :)⟩ (fun h'=>?_);clear hK K;refine norm_ zV ?_;refine zp 29 41 T_ ?_;refine zp 30 42 T_ ?_;refine done_ (done_of T_.out (by kernel_rfl)) ?_
         try go_wp2
         go_ret;exact⟨by first|rfl|(simp[errW_none,errW_some] <;> rfl)|(simp only[<-bD];first|rfl|(simp[errW_none,errW_some] <;> rfl))|(simp[*,errW_none,errW_some] <;> rfl),zb⟩
       ·replace bN:=zbq bN;subst bN;rw[if_neg zNo] at H;obtain rfl:=zI H;have bC:=zT (0<=(aA:Int));have bB:=zT (aA<(l0.length:Int));obtain⟨aG,aX,aM,aK,aJ,aI⟩:=at_T117 bA.out aA zd zd;cases aX;replace aM:=zC HB aM;replace aK:=zC HB aK;replace aJ:=zC HB aJ;replace aI:=zC HB aI
        try go_wp2_with (first|((with_reducible refine zgd 4 rfl ?_);refine zbx 4 #[.int .i64 0,.int .i64 0,.int .i64 0,.bool false] 117 ?_;intro aD hg bS b' hb;have aC:=zA b';have aZ:=zga (w:=w) hg;replace HB:=zbs hb;clear hb b' hg;obtain⟨eJ,eI,eH,eG,dD,dC,dB,dA⟩:=ze4 aC))
        have aW:Aside0 (((((bS.setCell ⟨aD,0,none⟩ (.int .i64 ((rd_T117 l0 aA).f0))).setCell ⟨aD,1,none⟩ (.int .i64 ((rd_T117 l0 aA).f1))).setCell ⟨aD,2,none⟩ (.int .i64 ((rd_T117 l0 aA).f2))).setCell ⟨aD,3,none⟩ (.bool ((rd_T117 l0 aA).f3))).heap[aD]?=some (.cells #[.int .i64 ((rd_T117 l0 aA).f0),.int .i64 ((rd_T117 l0 aA).f1),.int .i64 ((rd_T117 l0 aA).f2),.bool ((rd_T117 l0 aA).f3)] 117 (0,0))):=⟨zkp aC⟩;have aV:Aside0 (Below w.heap.size w ((((bS.setCell ⟨aD,0,none⟩ (.int .i64 ((rd_T117 l0 aA).f0))).setCell ⟨aD,1,none⟩ (.int .i64 ((rd_T117 l0 aA).f1))).setCell ⟨aD,2,none⟩ (.int .i64 ((rd_T117 l0 aA).f2))).setCell ⟨aD,3,none⟩ (.bool ((rd_T117 l0 aA).f3)))):=⟨zb⟩;(try clear aC HB);generalize ((((bS.setCell ⟨aD,0,none⟩ (.int .i64 ((rd_T117 l0 aA).f0))).setCell ⟨aD,1,none⟩ (.int .i64 ((rd_T117 l0 aA).f1))).setCell ⟨aD,2,none⟩ (.int .i64 ((rd_T117 l0 aA).f2))).setCell ⟨aD,3,none⟩ (.bool ((rd_T117 l0 aA).f3)))=fA at aW aV ⊢;have aC:=aW;have HB:=aV;clear aW aV;replace aC:=zA (blk_drew aC.out);replace HB:=zA (below_drew1 HB.out);have bJ:=zT (0<=((aH):Int));have bI:=zT ((aH)<(l0.length:Int));obtain⟨aY,bE,aU,aT,aQ,aN⟩:=at_T117 bA.out (aH) zd zd;obtain rfl:aG=aY:=(by injection bE);refine start_ (n:=31) (S:=fun w'=>w'.cell? ⟨aD,0,none⟩=some (.int .i64 ((rd_T117 l0 aA).f0))/\w'.cell? ⟨aD,1,none⟩=some (.int .i64 ((rd_T117 l0 aA).f1))/\w'.cell? ⟨aD,2,none⟩=some (.int .i64 ((rd_T117 l0 aA).f2))/\w'.cell? ⟨aD,3,none⟩=some (.bool ((rd_T117 l0 aA).f3))/\w'.cell? (aG.add (((aH)).toNat * 4))=some (.int .i64 ((rd_T117 l0 (aH)).f0))/\w'.cell? ⟨(aG.add (((aH)).toNat * 4)).block,(aG.add (((aH)).toNat * 4)).off+1,none⟩=some (.int .i64 ((rd_T117 l0 (aH)).f1))/\w'.cell? ⟨(aG.add (((aH)).toNat * 4)).block,(aG.add (((aH)).toNat * 4)).off+2,none⟩=some (.int .i64 ((rd_T117 l0 (aH)).f2))/\w'.cell? ⟨(aG.add (((aH)).toNat * 4)).block,(aG.add (((aH)).toNat * 4)).off+3,none⟩=some (.bool ((rd_T117 l0 (aH)).f3))) (ds:=[]) _ (by kernel_rfl) rfl rfl ⟨zq aC 0,zq aC 1,zq aC 2,zq aC 3,(zC HB aU),(zC HB aT),(zC HB aQ),(zC HB aN)⟩ (fun h'=>?_);refine with_tabW X5.tab4 X5.bits4 (fun T_ W_=>?_)
        generalize fA.drew=fQ at aC HB h' ⊢;refine zp 0 12 T_ ?_;refine zt 1 13 T_ W_ h' ?_;refine zo 2 14 T_ (fun K hK=>?_);refine zgo Try.func95 #[.int .i64 ((rd_T117 l0 aA).f0),.int .i64 1,.int .i64 99] ?_
        refine(X0.calls ((rd_T117 l0 aA).f0) 1 99 true _ A5.out).mono ?_
        rintro e w' ⟨rfl,⟨nd,rfl⟩⟩;refine⟨_,rfl,?_⟩;refine hK.out _ _ ⟨zq aC 0,zq aC 1,zq aC 2,zq aC 3,(zC HB aU :),(zC HB aT :),(zC HB aQ :),(zC HB aN :)⟩ (fun h'=>?_);clear hK K;refine norm_ zV ?_;refine zp 3 15 T_ ?_;refine zp 4 16 T_ ?_;refine zp 5 17 T_ ?_;refine zp 6 18 T_ ?_;refine zp 7 19 T_ ?_;refine zp 8 20 T_ ?_;refine zp 10 22 T_ ?_;refine zp 11 23 T_ ?_;refine zp 12 24 T_ ?_;refine zp 13 25 T_ ?_;refine zp 14 26 T_ ?_;refine zt 9 21 T_ W_ h' ?_;refine zt 15 27 T_ W_ h' ?_;refine zp 16 28 T_ ?_;refine zp 17 29 T_ ?_;refine zp 18 30 T_ ?_;refine zp 19 31 T_ ?_;refine zp 20 32 T_ ?_;refine zt 21 33 T_ W_ h' ?_;refine zo 22 34 T_ (fun K hK=>?_);refine zgo Try.func95 #[.int .i64 ((rd_T117 l0 aA).f1),.int .i64 0,.int .i64 100] ?_
        refine(X0.calls ((rd_T117 l0 aA).f1) 0 100 false _ bX.out).mono ?_
        rintro e w' ⟨rfl,⟨nd,rfl⟩⟩;refine⟨_,rfl,?_⟩;refine hK.out _ _ ⟨zq aC 0,zq aC 1,zq aC 2,zq aC 3,(zC HB aU :),(zC HB aT :),(zC HB aQ :),(zC HB aN :)⟩ (fun h'=>?_);clear hK K;refine norm_ zV ?_;refine zp 23 35 T_ ?_;refine zp 24 36 T_ ?_;refine zp 25 37 T_ ?_;refine zu 26 38 T_ ?_;refine zu 27 39 T_ ?_;refine zu 28 40 T_ ?_;refine zu 29 41 T_ ?_;refine zp 30 42 T_ ?_;refine done_ (done_of T_.out (by kernel_rfl)) ?_
        try go_wp2
        go_ret;exact⟨by first|rfl|(simp[errW_none,errW_some] <;> rfl)|(simp only[<-bD];first|rfl|(simp[errW_none,errW_some] <;> rfl))|(simp[*,errW_none,errW_some] <;> rfl),zb⟩
     ·rw[if_neg c7] at H;have cI:decide (0<aA)=false:=decide_eq_false c7;clear c7;obtain⟨cF,bW,H⟩:=zB H
      by_cases bL:cF=true
      ·subst bL;rw[if_pos rfl] at H;obtain⟨cE,cC,H⟩:=zB H
       by_cases bK:cE=true
       ·subst bK;rw[if_pos rfl] at H;have H':=zA H;clear H;have bC:=zT (0<=(aA:Int));have bB:=zT (aA<(l0.length:Int));obtain⟨aG,aX,aM,aK,aJ,aI⟩:=at_T117 bA.out aA zd zd;cases aX;replace aM:=zC HB aM;replace aK:=zC HB aK;replace aJ:=zC HB aJ;replace aI:=zC HB aI
        try go_wp2_with (first|((with_reducible refine zgd 4 rfl ?_);refine zbx 4 #[.int .i64 0,.int .i64 0,.int .i64 0,.bool false] 117 ?_;intro aD hg bR b' hb;have aC:=zA b';have aZ:=zga (w:=w) hg;replace HB:=zbs hb;clear hb b' hg;obtain⟨eF,eE,eD,eC,cZ,cY,cX,cW⟩:=ze4 aC))
        have aW:Aside0 (((((bR.setCell ⟨aD,0,none⟩ (.int .i64 ((rd_T117 l0 aA).f0))).setCell ⟨aD,1,none⟩ (.int .i64 ((rd_T117 l0 aA).f1))).setCell ⟨aD,2,none⟩ (.int .i64 ((rd_T117 l0 aA).f2))).setCell ⟨aD,3,none⟩ (.bool ((rd_T117 l0 aA).f3))).heap[aD]?=some (.cells #[.int .i64 ((rd_T117 l0 aA).f0),.int .i64 ((rd_T117 l0 aA).f1),.int .i64 ((rd_T117 l0 aA).f2),.bool ((rd_T117 l0 aA).f3)] 117 (0,0))):=⟨zkp aC⟩;have aV:Aside0 (Below w.heap.size w ((((bR.setCell ⟨aD,0,none⟩ (.int .i64 ((rd_T117 l0 aA).f0))).setCell ⟨aD,1,none⟩ (.int .i64 ((rd_T117 l0 aA).f1))).setCell ⟨aD,2,none⟩ (.int .i64 ((rd_T117 l0 aA).f2))).setCell ⟨aD,3,none⟩ (.bool ((rd_T117 l0 aA).f3)))):=⟨zb⟩;(try clear aC HB);generalize ((((bR.setCell ⟨aD,0,none⟩ (.int .i64 ((rd_T117 l0 aA).f0))).setCell ⟨aD,1,none⟩ (.int .i64 ((rd_T117 l0 aA).f1))).setCell ⟨aD,2,none⟩ (.int .i64 ((rd_T117 l0 aA).f2))).setCell ⟨aD,3,none⟩ (.bool ((rd_T117 l0 aA).f3)))=eZ at aW aV ⊢;have aC:=aW;have HB:=aV;clear aW aV;replace aC:=zA (blk_drew aC.out);replace HB:=zA (below_drew1 HB.out);refine start_ (n:=31) (S:=fun w'=>w'.cell? ⟨aD,0,none⟩=some (.int .i64 ((rd_T117 l0 aA).f0))/\w'.cell? ⟨aD,1,none⟩=some (.int .i64 ((rd_T117 l0 aA).f1))/\w'.cell? ⟨aD,2,none⟩=some (.int .i64 ((rd_T117 l0 aA).f2))/\w'.cell? ⟨aD,3,none⟩=some (.bool ((rd_T117 l0 aA).f3))) (ds:=[]) _ (by kernel_rfl) rfl rfl ⟨zq aC 0,zq aC 1,zq aC 2,zq aC 3⟩ (fun h'=>?_);refine with_tabW X5.tab4 X5.bits4 (fun T_ W_=>?_);generalize eZ.drew=fP at aC HB h' ⊢;refine zp 0 12 T_ ?_;refine zt 1 13 T_ W_ h' ?_;refine zo 2 14 T_ (fun K hK=>?_);refine zgo Try.func95 #[.int .i64 ((rd_T117 l0 aA).f0),.int .i64 1,.int .i64 99] ?_
        refine(X0.calls ((rd_T117 l0 aA).f0) 1 99 true _ A5.out).mono ?_
        rintro e w' ⟨rfl,⟨nd,rfl⟩⟩;refine⟨_,rfl,?_⟩;refine hK.out _ _ ⟨zq aC 0,zq aC 1,zq aC 2,zq aC 3⟩ (fun h'=>?_);clear hK K;refine norm_ zV ?_;refine zp 3 15 T_ ?_;refine zp 4 16 T_ ?_;refine zp 5 17 T_ ?_;refine zp 6 18 T_ ?_;refine zp 7 19 T_ ?_;refine zu 8 20 T_ ?_;refine zu 9 21 T_ ?_;refine zu 10 22 T_ ?_;refine zu 11 23 T_ ?_;refine zu 12 24 T_ ?_;refine zu 13 25 T_ ?_;refine zu 14 26 T_ ?_;refine zu 15 27 T_ ?_;refine zu 16 28 T_ ?_;refine zp 17 29 T_ ?_;refine zp 18 30 T_ ?_;refine zp 19 31 T_ ?_;refine zp 20 32 T_ ?_;refine zt 21 33 T_ W_ h' ?_;refine zo 22 34 T_ (fun K hK=>?_);refine zgo Try.func95 #[.int .i64 ((rd_T117 l0 aA).f1),.int .i64 0,.int .i64 100] ?_
        refine(X0.calls ((rd_T117 l0 aA).f1) 0 100 true _ bW.out).mono ?_
        rintro e w' ⟨rfl,⟨nd,rfl⟩⟩;refine⟨_,rfl,?_⟩;refine hK.out _ _ ⟨zq aC 0,zq aC 1,zq aC 2,zq aC 3⟩ (fun h'=>?_);clear hK K;refine norm_ zV ?_;refine zp 23 35 T_ ?_;refine zp 24 36 T_ ?_;refine zp 25 37 T_ ?_;refine zp 26 38 T_ ?_;refine zt 27 39 T_ W_ h' ?_;refine zo 28 40 T_ (fun K hK=>?_);refine zgo Try.func95 #[.int .i64 ((rd_T117 l0 aA).f2),.int .i64 1,.int .i64 10] ?_
        refine(X0.calls ((rd_T117 l0 aA).f2) 1 10 true _ cC.out).mono ?_
        rintro e w' ⟨rfl,⟨nd,rfl⟩⟩;refine⟨_,rfl,?_⟩;refine hK.out _ _ ⟨zq aC 0,zq aC 1,zq aC 2,zq aC 3⟩ (fun h'=>?_);clear hK K;refine norm_ zV ?_;refine zp 29 41 T_ ?_;refine zp 30 42 T_ ?_;refine done_ (done_of T_.out (by kernel_rfl)) ?_
        try go_wp2
        go_roundg k1
        case measure=>have:=HK1.out;omega
        case rel=>exact⟨(wrap64 (aA+1)),zr,H',⟨by have:=HK1.out;omega⟩,⟨zb⟩⟩
       ·replace bK:=zbq bK;subst bK;rw[if_neg zNo] at H;obtain rfl:=zI H;have bC:=zT (0<=(aA:Int));have bB:=zT (aA<(l0.length:Int));obtain⟨aG,aX,aM,aK,aJ,aI⟩:=at_T117 bA.out aA zd zd;cases aX;replace aM:=zC HB aM;replace aK:=zC HB aK;replace aJ:=zC HB aJ;replace aI:=zC HB aI
        try go_wp2_with (first|((with_reducible refine zgd 4 rfl ?_);refine zbx 4 #[.int .i64 0,.int .i64 0,.int .i64 0,.bool false] 117 ?_;intro aD hg bQ b' hb;have aC:=zA b';have aZ:=zga (w:=w) hg;replace HB:=zbs hb;clear hb b' hg;obtain⟨eB,eA,dZ,dY,cV,cU,cT,cS⟩:=ze4 aC))
        have aW:Aside0 (((((bQ.setCell ⟨aD,0,none⟩ (.int .i64 ((rd_T117 l0 aA).f0))).setCell ⟨aD,1,none⟩ (.int .i64 ((rd_T117 l0 aA).f1))).setCell ⟨aD,2,none⟩ (.int .i64 ((rd_T117 l0 aA).f2))).setCell ⟨aD,3,none⟩ (.bool ((rd_T117 l0 aA).f3))).heap[aD]?=some (.cells #[.int .i64 ((rd_T117 l0 aA).f0),.int .i64 ((rd_T117 l0 aA).f1),.int .i64 ((rd_T117 l0 aA).f2),.bool ((rd_T117 l0 aA).f3)] 117 (0,0))):=⟨zkp aC⟩;have aV:Aside0 (Below w.heap.size w ((((bQ.setCell ⟨aD,0,none⟩ (.int .i64 ((rd_T117 l0 aA).f0))).setCell ⟨aD,1,none⟩ (.int .i64 ((rd_T117 l0 aA).f1))).setCell ⟨aD,2,none⟩ (.int .i64 ((rd_T117 l0 aA).f2))).setCell ⟨aD,3,none⟩ (.bool ((rd_T117 l0 aA).f3)))):=⟨zb⟩;(try clear aC HB);generalize ((((bQ.setCell ⟨aD,0,none⟩ (.int .i64 ((rd_T117 l0 aA).f0))).setCell ⟨aD,1,none⟩ (.int .i64 ((rd_T117 l0 aA).f1))).setCell ⟨aD,2,none⟩ (.int .i64 ((rd_T117 l0 aA).f2))).setCell ⟨aD,3,none⟩ (.bool ((rd_T117 l0 aA).f3)))=eY at aW aV ⊢;have aC:=aW;have HB:=aV;clear aW aV;replace aC:=zA (blk_drew aC.out);replace HB:=zA (below_drew1 HB.out);refine start_ (n:=31) (S:=fun w'=>w'.cell? ⟨aD,0,none⟩=some (.int .i64 ((rd_T117 l0 aA).f0))/\w'.cell? ⟨aD,1,none⟩=some (.int .i64 ((rd_T117 l0 aA).f1))/\w'.cell? ⟨aD,2,none⟩=some (.int .i64 ((rd_T117 l0 aA).f2))/\w'.cell? ⟨aD,3,none⟩=some (.bool ((rd_T117 l0 aA).f3))) (ds:=[]) _ (by kernel_rfl) rfl rfl ⟨zq aC 0,zq aC 1,zq aC 2,zq aC 3⟩ (fun h'=>?_);refine with_tabW X5.tab4 X5.bits4 (fun T_ W_=>?_);generalize eY.drew=fO at aC HB h' ⊢;refine zp 0 12 T_ ?_;refine zt 1 13 T_ W_ h' ?_;refine zo 2 14 T_ (fun K hK=>?_);refine zgo Try.func95 #[.int .i64 ((rd_T117 l0 aA).f0),.int .i64 1,.int .i64 99] ?_
        refine(X0.calls ((rd_T117 l0 aA).f0) 1 99 true _ A5.out).mono ?_
        rintro e w' ⟨rfl,⟨nd,rfl⟩⟩;refine⟨_,rfl,?_⟩;refine hK.out _ _ ⟨zq aC 0,zq aC 1,zq aC 2,zq aC 3⟩ (fun h'=>?_);clear hK K;refine norm_ zV ?_;refine zp 3 15 T_ ?_;refine zp 4 16 T_ ?_;refine zp 5 17 T_ ?_;refine zp 6 18 T_ ?_;refine zp 7 19 T_ ?_;refine zu 8 20 T_ ?_;refine zu 9 21 T_ ?_;refine zu 10 22 T_ ?_;refine zu 11 23 T_ ?_;refine zu 12 24 T_ ?_;refine zu 13 25 T_ ?_;refine zu 14 26 T_ ?_;refine zu 15 27 T_ ?_;refine zu 16 28 T_ ?_;refine zp 17 29 T_ ?_;refine zp 18 30 T_ ?_;refine zp 19 31 T_ ?_;refine zp 20 32 T_ ?_;refine zt 21 33 T_ W_ h' ?_;refine zo 22 34 T_ (fun K hK=>?_);refine zgo Try.func95 #[.int .i64 ((rd_T117 l0 aA).f1),.int .i64 0,.int .i64 100] ?_
        refine(X0.calls ((rd_T117 l0 aA).f1) 0 100 true _ bW.out).mono ?_
        rintro e w' ⟨rfl,⟨nd,rfl⟩⟩;refine⟨_,rfl,?_⟩;refine hK.out _ _ ⟨zq aC 0,zq aC 1,zq aC 2,zq aC 3⟩ (fun h'=>?_);clear hK K;refine norm_ zV ?_;refine zp 23 35 T_ ?_;refine zp 24 36 T_ ?_;refine zp 25 37 T_ ?_;refine zp 26 38 T_ ?_;refine zt 27 39 T_ W_ h' ?_;refine zo 28 40 T_ (fun K hK=>?_);refine zgo Try.func95 #[.int .i64 ((rd_T117 l0 aA).f2),.int .i64 1,.int .i64 10] ?_
        refine(X0.calls ((rd_T117 l0 aA).f2) 1 10 false _ cC.out).mono ?_
        rintro e w' ⟨rfl,⟨nd,rfl⟩⟩;refine⟨_,rfl,?_⟩;refine hK.out _ _ ⟨zq aC 0,zq aC 1,zq aC 2,zq aC 3⟩ (fun h'=>?_);clear hK K;refine norm_ zV ?_;refine zp 29 41 T_ ?_;refine zp 30 42 T_ ?_;refine done_ (done_of T_.out (by kernel_rfl)) ?_
        try go_wp2
        go_ret;exact⟨zE,zb⟩
      ·replace bL:=zbq bL;subst bL;rw[if_neg zNo] at H;obtain rfl:=zI H;have bC:=zT (0<=(aA:Int));have bB:=zT (aA<(l0.length:Int));obtain⟨aG,aX,aM,aK,aJ,aI⟩:=at_T117 bA.out aA zd zd;cases aX;replace aM:=zC HB aM;replace aK:=zC HB aK;replace aJ:=zC HB aJ;replace aI:=zC HB aI
       try go_wp2_with (first|((with_reducible refine zgd 4 rfl ?_);refine zbx 4 #[.int .i64 0,.int .i64 0,.int .i64 0,.bool false] 117 ?_;intro aD hg bP b' hb;have aC:=zA b';have aZ:=zga (w:=w) hg;replace HB:=zbs hb;clear hb b' hg;obtain⟨dX,dW,dV,dU,cR,cQ,cP,cO⟩:=ze4 aC))
       have aW:Aside0 (((((bP.setCell ⟨aD,0,none⟩ (.int .i64 ((rd_T117 l0 aA).f0))).setCell ⟨aD,1,none⟩ (.int .i64 ((rd_T117 l0 aA).f1))).setCell ⟨aD,2,none⟩ (.int .i64 ((rd_T117 l0 aA).f2))).setCell ⟨aD,3,none⟩ (.bool ((rd_T117 l0 aA).f3))).heap[aD]?=some (.cells #[.int .i64 ((rd_T117 l0 aA).f0),.int .i64 ((rd_T117 l0 aA).f1),.int .i64 ((rd_T117 l0 aA).f2),.bool ((rd_T117 l0 aA).f3)] 117 (0,0))):=⟨zkp aC⟩;have aV:Aside0 (Below w.heap.size w ((((bP.setCell ⟨aD,0,none⟩ (.int .i64 ((rd_T117 l0 aA).f0))).setCell ⟨aD,1,none⟩ (.int .i64 ((rd_T117 l0 aA).f1))).setCell ⟨aD,2,none⟩ (.int .i64 ((rd_T117 l0 aA).f2))).setCell ⟨aD,3,none⟩ (.bool ((rd_T117 l0 aA).f3)))):=⟨zb⟩;(try clear aC HB);generalize ((((bP.setCell ⟨aD,0,none⟩ (.int .i64 ((rd_T117 l0 aA).f0))).setCell ⟨aD,1,none⟩ (.int .i64 ((rd_T117 l0 aA).f1))).setCell ⟨aD,2,none⟩ (.int .i64 ((rd_T117 l0 aA).f2))).setCell ⟨aD,3,none⟩ (.bool ((rd_T117 l0 aA).f3)))=eX at aW aV ⊢;have aC:=aW;have HB:=aV;clear aW aV;replace aC:=zA (blk_drew aC.out);replace HB:=zA (below_drew1 HB.out);refine start_ (n:=31) (S:=fun w'=>w'.cell? ⟨aD,0,none⟩=some (.int .i64 ((rd_T117 l0 aA).f0))/\w'.cell? ⟨aD,1,none⟩=some (.int .i64 ((rd_T117 l0 aA).f1))/\w'.cell? ⟨aD,2,none⟩=some (.int .i64 ((rd_T117 l0 aA).f2))/\w'.cell? ⟨aD,3,none⟩=some (.bool ((rd_T117 l0 aA).f3))) (ds:=[]) _ (by kernel_rfl) rfl rfl ⟨zq aC 0,zq aC 1,zq aC 2,zq aC 3⟩ (fun h'=>?_);refine with_tabW X5.tab4 X5.bits4 (fun T_ W_=>?_);generalize eX.drew=fN at aC HB h' ⊢;refine zp 0 12 T_ ?_;refine zt 1 13 T_ W_ h' ?_;refine zo 2 14 T_ (fun K hK=>?_);refine zgo Try.func95 #[.int .i64 ((rd_T117 l0 aA).f0),.int .i64 1,.int .i64 99] ?_
       refine(X0.calls ((rd_T117 l0 aA).f0) 1 99 true _ A5.out).mono ?_
       rintro e w' ⟨rfl,⟨nd,rfl⟩⟩;refine⟨_,rfl,?_⟩;refine hK.out _ _ ⟨zq aC 0,zq aC 1,zq aC 2,zq aC 3⟩ (fun h'=>?_);clear hK K;refine norm_ zV ?_;refine zp 3 15 T_ ?_;refine zp 4 16 T_ ?_;refine zp 5 17 T_ ?_;refine zp 6 18 T_ ?_;refine zp 7 19 T_ ?_;refine zu 8 20 T_ ?_;refine zu 9 21 T_ ?_;refine zu 10 22 T_ ?_;refine zu 11 23 T_ ?_;refine zu 12 24 T_ ?_;refine zu 13 25 T_ ?_;refine zu 14 26 T_ ?_;refine zu 15 27 T_ ?_;refine zu 16 28 T_ ?_;refine zp 17 29 T_ ?_;refine zp 18 30 T_ ?_;refine zp 19 31 T_ ?_;refine zp 20 32 T_ ?_;refine zt 21 33 T_ W_ h' ?_;refine zo 22 34 T_ (fun K hK=>?_);refine zgo Try.func95 #[.int .i64 ((rd_T117 l0 aA).f1),.int .i64 0,.int .i64 100] ?_
       refine(X0.calls ((rd_T117 l0 aA).f1) 0 100 false _ bW.out).mono ?_
       rintro e w' ⟨rfl,⟨nd,rfl⟩⟩;refine⟨_,rfl,?_⟩;refine hK.out _ _ ⟨zq aC 0,zq aC 1,zq aC 2,zq aC 3⟩ (fun h'=>?_);clear hK K;refine norm_ zV ?_;refine zp 23 35 T_ ?_;refine zp 24 36 T_ ?_;refine zp 25 37 T_ ?_;refine zu 26 38 T_ ?_;refine zu 27 39 T_ ?_;refine zu 28 40 T_ ?_;refine zu 29 41 T_ ?_;refine zp 30 42 T_ ?_;refine done_ (done_of T_.out (by kernel_rfl)) ?_
       try go_wp2
       go_ret;exact⟨zE,zb⟩
    ·replace c6:=zbq c6;subst c6;rw[if_neg zNo] at H;obtain rfl:=zI H;have bC:=zT (0<=(aA:Int));have bB:=zT (aA<(l0.length:Int));obtain⟨aG,aX,aM,aK,aJ,aI⟩:=at_T117 bA.out aA zd zd;cases aX;replace aM:=zC HB aM;replace aK:=zC HB aK;replace aJ:=zC HB aJ;replace aI:=zC HB aI
     try go_wp2_with (first|((with_reducible refine zgd 4 rfl ?_);refine zbx 4 #[.int .i64 0,.int .i64 0,.int .i64 0,.bool false] 117 ?_;intro aD hg bO b' hb;have aC:=zA b';have aZ:=zga (w:=w) hg;replace HB:=zbs hb;clear hb b' hg;obtain⟨dT,dS,dR,dQ,cN,cM,cL,cK⟩:=ze4 aC))
     have aW:Aside0 (((((bO.setCell ⟨aD,0,none⟩ (.int .i64 ((rd_T117 l0 aA).f0))).setCell ⟨aD,1,none⟩ (.int .i64 ((rd_T117 l0 aA).f1))).setCell ⟨aD,2,none⟩ (.int .i64 ((rd_T117 l0 aA).f2))).setCell ⟨aD,3,none⟩ (.bool ((rd_T117 l0 aA).f3))).heap[aD]?=some (.cells #[.int .i64 ((rd_T117 l0 aA).f0),.int .i64 ((rd_T117 l0 aA).f1),.int .i64 ((rd_T117 l0 aA).f2),.bool ((rd_T117 l0 aA).f3)] 117 (0,0))):=⟨zkp aC⟩;have aV:Aside0 (Below w.heap.size w ((((bO.setCell ⟨aD,0,none⟩ (.int .i64 ((rd_T117 l0 aA).f0))).setCell ⟨aD,1,none⟩ (.int .i64 ((rd_T117 l0 aA).f1))).setCell ⟨aD,2,none⟩ (.int .i64 ((rd_T117 l0 aA).f2))).setCell ⟨aD,3,none⟩ (.bool ((rd_T117 l0 aA).f3)))):=⟨zb⟩;(try clear aC HB);generalize ((((bO.setCell ⟨aD,0,none⟩ (.int .i64 ((rd_T117 l0 aA).f0))).setCell ⟨aD,1,none⟩ (.int .i64 ((rd_T117 l0 aA).f1))).setCell ⟨aD,2,none⟩ (.int .i64 ((rd_T117 l0 aA).f2))).setCell ⟨aD,3,none⟩ (.bool ((rd_T117 l0 aA).f3)))=eW at aW aV ⊢;have aC:=aW;have HB:=aV;clear aW aV;replace aC:=zA (blk_drew aC.out);replace HB:=zA (below_drew1 HB.out);refine start_ (n:=31) (S:=fun w'=>w'.cell? ⟨aD,0,none⟩=some (.int .i64 ((rd_T117 l0 aA).f0))/\w'.cell? ⟨aD,1,none⟩=some (.int .i64 ((rd_T117 l0 aA).f1))/\w'.cell? ⟨aD,2,none⟩=some (.int .i64 ((rd_T117 l0 aA).f2))/\w'.cell? ⟨aD,3,none⟩=some (.bool ((rd_T117 l0 aA).f3))) (ds:=[]) _ (by kernel_rfl) rfl rfl ⟨zq aC 0,zq aC 1,zq aC 2,zq aC 3⟩ (fun h'=>?_);refine with_tabW X5.tab4 X5.bits4 (fun T_ W_=>?_);generalize eW.drew=fM at aC HB h' ⊢;refine zp 0 12 T_ ?_;refine zt 1 13 T_ W_ h' ?_;refine zo 2 14 T_ (fun K hK=>?_);refine zgo Try.func95 #[.int .i64 ((rd_T117 l0 aA).f0),.int .i64 1,.int .i64 99] ?_
     refine(X0.calls ((rd_T117 l0 aA).f0) 1 99 false _ A5.out).mono ?_
     rintro e w' ⟨rfl,⟨nd,rfl⟩⟩;refine⟨_,rfl,?_⟩;refine hK.out _ _ ⟨zq aC 0,zq aC 1,zq aC 2,zq aC 3⟩ (fun h'=>?_);clear hK K;refine norm_ zV ?_;refine zp 3 15 T_ ?_;refine zp 4 16 T_ ?_;refine zu 5 17 T_ ?_;refine zu 6 18 T_ ?_;refine zu 7 19 T_ ?_;refine zu 8 20 T_ ?_;refine zu 9 21 T_ ?_;refine zu 10 22 T_ ?_;refine zu 11 23 T_ ?_;refine zu 12 24 T_ ?_;refine zu 13 25 T_ ?_;refine zu 14 26 T_ ?_;refine zu 15 27 T_ ?_;refine zu 16 28 T_ ?_;refine zu 17 29 T_ ?_;refine zp 18 30 T_ ?_;refine zp 19 31 T_ ?_;refine zu 20 32 T_ ?_;refine zu 21 33 T_ ?_;refine zu 22 34 T_ ?_;refine zu 23 35 T_ ?_;refine zp 24 36 T_ ?_;refine zp 25 37 T_ ?_;refine zu 26 38 T_ ?_;refine zu 27 39 T_ ?_;refine zu 28 40 T_ ?_;refine zu 29 41 T_ ?_;refine zp 30 42 T_ ?_;refine done_ (done_of T_.out (by kernel_rfl)) ?_
     try go_wp2
     go_ret;exact⟨zE,zb⟩
   ·rw[if_neg c2] at H;have cJ:=decide_eq_false c2;clear c2;obtain⟨cH,fF,H⟩:=zB H;obtain rfl:=zI H
    go_wp2_with (first|((with_reducible refine zgf 95 rfl ?_);refine zgl 46 Try.func95 #[.int .i64 (l0.length:Int),.int .i64 1,.int .i64 8] ?_;(refine(X0.calls (l0.length:Int) 1 8 cH _ fF.out).mono ?_);rintro e w' ⟨rfl,⟨nd,rfl⟩⟩;refine⟨_,rfl,?_⟩))
    go_ret;exact⟨zE,zb⟩

def X1r.f (k:Nat) (a0_0:Int) (a0_1:Int) (l0_2:List Int) (a1_0:Int) (a1_1:Int) (l1_2:List (S117)) (l1_3:List Bool):Option (Bool):=(Xg.f k a0_0 a0_1 l0_2 a1_0).bind fun t561=>(if t561=true then((X5.f k l1_2).bind fun t562=>(if t562=true then((X0.f a1_1 0 10000).bind fun t563=>(if t563=true then(some (decide ((l1_3.length:Int)<=10))) else(some false))) else(some false))) else(some false))
theorem X1r.calls (k:Nat) (aJ:Int) (aI:Int) (aN:Option Addr) (aM:Nat) (aD:List Int) (aH:Int) (aT:Int) (aX:Option Addr) (aV:Nat) (aK:List (S117)) (aW:Option Addr) (aU:Nat) (aQ:List Bool) (r:Bool) (w:World) (bI:Kd.C (Kd.int .i64) w aN aD.length aD) (bL:aD.length<=aM) (bH:Kd.C k117 w aX aK.length aK) (bK:aK.length<=aV) (bG:Kd.C Kd.bool w aW aQ.length aQ) (bJ:aQ.length<=aU) (h:X1r.f k aJ aI aD aH aT aK aQ=some r) :
  Calls Try.prog 135 #[.agg #[aJ,aI,.slice aN aD.length aM],.agg #[aH,aT,.slice aX aK.length aV,.slice aW aQ.length aU]] w fun e w'=>e=.returned (.bool r)/\Below w.heap.size w w':=by
 have hu37:=Try.underlying37;have hu42:=Try.underlying42;have aY:=zA bI;have aZ:=zA bL;clear bI bL;have bC:=zA bH;have bD:=zA bK;clear bH bK;have fV:=zA bG;have fW:=zA bJ;clear bG bJ;have HB:=zA (Below.refl w.heap.size w);have H:=h;clear h;unfold X1r.f at H;obtain⟨bS,A3,H⟩:=zB H
 by_cases c4:bS=true
 ·subst c4;rw[if_pos rfl] at H;obtain⟨bR,A5,H⟩:=zB H
  by_cases c6:bR=true
  ·subst c6;rw[if_pos rfl] at H;obtain⟨bQ,A7,H⟩:=zB H
   by_cases c8:bQ=true
   ·subst c8;rw[if_pos rfl] at H;obtain rfl:=zI H;go_enter Try.func135,Try.ntmps135
    go_wp2_with (first|((with_reducible refine zgd 2 rfl ?_);(try (refine gate_guard (by rfl) ?_;dsimp only));refine zbx 2 #[aJ,aI,.slice aN aD.length aM] 37 ?_;intro bB hg w9 b' hb;have aA:=zA b';have bF:=zga (w:=w) hg;replace HB:=zbs hb;clear hb b' hg)|((with_reducible refine zgd 3 rfl ?_);(try (refine gate_guard (by rfl) ?_;dsimp only));refine zbx 3 #[aH,aT,.slice aX aK.length aV,.slice aW aQ.length aU] 42 ?_;intro bA hg gK b' hb;have aC:=zA b';have bE:=zga (w:=w) hg;replace HB:=zbs hb;replace aA:=zlh aA hg hb;obtain⟨aG,aE,aA⟩:=aA;clear hb b' hg;have fU:=aG.out;have fQ:=aE.out;obtain⟨fL,fK,fJ,dP,dO,dN⟩:=ze3 aA;obtain⟨fI,fH,fG,fF,dM,dL,dK,dJ⟩:=ze4 aC)|((with_reducible refine zgf 109 rfl ?_);refine zgl 8 Try.func109 #[.agg #[aJ,aI,.slice aN aD.length aM],aH] ?_;(refine(Xg.calls k aJ aI _ _ aD aH true _ (zCb aY) aZ.out A3.out).mono ?_);rintro e gJ ⟨rfl,hb⟩;refine⟨_,rfl,?_⟩;replace aA:=zkb aA hb;replace aC:=zkb aC hb;replace HB:=zbs hb;(try clear hb);obtain⟨fE,fD,fC,fB,dI,dH,dG,dF⟩:=ze4 aC)|(go_at_call 145;(refine(X5.calls k _ _ aK true _ (zCb bC) bD.out A5.out).mono ?_);rintro e gI ⟨rfl,hb⟩;replace aA:=zkb aA hb;replace aC:=zkb aC hb;replace HB:=zbs hb;(try clear hb);obtain⟨fA,eZ,eY,eX,dE,dD,dC,dB⟩:=ze4 aC)|(go_at_call 95;(refine(X0.calls aT 0 10000 true _ A7.out).mono ?_);rintro e w' ⟨rfl,⟨nd,rfl⟩⟩))
    go_ret;exact⟨zE,zb⟩
   ·replace c8:=zbq c8;subst c8;rw[if_neg zNo] at H;obtain rfl:=zI H;go_enter Try.func135,Try.ntmps135
    go_wp2_with (first|((with_reducible refine zgd 2 rfl ?_);(try (refine gate_guard (by rfl) ?_;dsimp only));refine zbx 2 #[aJ,aI,.slice aN aD.length aM] 37 ?_;intro bB hg gH b' hb;have aA:=zA b';have bF:=zga (w:=w) hg;replace HB:=zbs hb;clear hb b' hg)|((with_reducible refine zgd 3 rfl ?_);(try (refine gate_guard (by rfl) ?_;dsimp only));refine zbx 3 #[aH,aT,.slice aX aK.length aV,.slice aW aQ.length aU] 42 ?_;intro bA hg gG b' hb;have aC:=zA b';have bE:=zga (w:=w) hg;replace HB:=zbs hb;replace aA:=zlh aA hg hb;obtain⟨aG,aE,aA⟩:=aA;clear hb b' hg;have fT:=aG.out;have fP:=aE.out;obtain⟨eW,eV,eU,dA,cZ,cY⟩:=ze3 aA;obtain⟨eT,eS,eR,eQ,cX,cW,cV,cU⟩:=ze4 aC)|((with_reducible refine zgf 109 rfl ?_);refine zgl 8 Try.func109 #[.agg #[aJ,aI,.slice aN aD.length aM],aH] ?_;(refine(Xg.calls k aJ aI _ _ aD aH true _ (zCb aY) aZ.out A3.out).mono ?_);rintro e gF ⟨rfl,hb⟩;refine⟨_,rfl,?_⟩;replace aA:=zkb aA hb;replace aC:=zkb aC hb;replace HB:=zbs hb;(try clear hb);obtain⟨eP,eO,eN,eM,cT,cS,cR,cQ⟩:=ze4 aC)|(go_at_call 145;(refine(X5.calls k _ _ aK true _ (zCb bC) bD.out A5.out).mono ?_);rintro e gE ⟨rfl,hb⟩;replace aA:=zkb aA hb;replace aC:=zkb aC hb;replace HB:=zbs hb;(try clear hb);obtain⟨eL,eK,eJ,eI,cP,cO,cN,cM⟩:=ze4 aC)|(go_at_call 95;(refine(X0.calls aT 0 10000 false _ A7.out).mono ?_);rintro e w' ⟨rfl,⟨nd,rfl⟩⟩))
    go_ret;exact⟨zE,zb⟩
  ·replace c6:=zbq c6;subst c6;rw[if_neg zNo] at H;obtain rfl:=zI H;go_enter Try.func135,Try.ntmps135
   go_wp2_with (first|((with_reducible refine zgd 2 rfl ?_);(try (refine gate_guard (by rfl) ?_;dsimp only));refine zbx 2 #[aJ,aI,.slice aN aD.length aM] 37 ?_;intro bB hg gD b' hb;have aA:=zA b';have bF:=zga (w:=w) hg;replace HB:=zbs hb;clear hb b' hg)|((with_reducible refine zgd 3 rfl ?_);(try (refine gate_guard (by rfl) ?_;dsimp only));refine zbx 3 #[aH,aT,.slice aX aK.length aV,.slice aW aQ.length aU] 42 ?_;intro bA hg gC b' hb;have aC:=zA b';have bE:=zga (w:=w) hg;replace HB:=zbs hb;replace aA:=zlh aA hg hb;obtain⟨aG,aE,aA⟩:=aA;clear hb b' hg;have fS:=aG.out;have fO:=aE.out;obtain⟨eH,eG,eF,cL,cK,cJ⟩:=ze3 aA;obtain⟨eE,eD,eC,eB,cI,cH,cG,cF⟩:=ze4 aC)|((with_reducible refine zgf 109 rfl ?_);refine zgl 8 Try.func109 #[.agg #[aJ,aI,.slice aN aD.length aM],aH] ?_;(refine(Xg.calls k aJ aI _ _ aD aH true _ (zCb aY) aZ.out A3.out).mono ?_);rintro e gB ⟨rfl,hb⟩;refine⟨_,rfl,?_⟩;replace aA:=zkb aA hb;replace aC:=zkb aC hb;replace HB:=zbs hb;(try clear hb);obtain⟨eA,dZ,dY,dX,cE,cD,cC,cB⟩:=ze4 aC)|(go_at_call 145;(refine(X5.calls k _ _ aK false _ (zCb bC) bD.out A5.out).mono ?_);rintro e gA ⟨rfl,hb⟩;replace aA:=zkb aA hb;replace aC:=zkb aC hb;replace HB:=zbs hb;(try clear hb)))
   go_ret;exact⟨zE,zb⟩
 ·replace c4:=zbq c4;subst c4;rw[if_neg zNo] at H;obtain rfl:=zI H;go_enter Try.func135,Try.ntmps135
  go_wp2_with (first|((with_reducible refine zgd 2 rfl ?_);(try (refine gate_guard (by rfl) ?_;dsimp only));refine zbx 2 #[aJ,aI,.slice aN aD.length aM] 37 ?_;intro bB hg fZ b' hb;have aA:=zA b';have bF:=zga (w:=w) hg;replace HB:=zbs hb;clear hb b' hg)|((with_reducible refine zgd 3 rfl ?_);(try (refine gate_guard (by rfl) ?_;dsimp only));refine zbx 3 #[aH,aT,.slice aX aK.length aV,.slice aW aQ.length aU] 42 ?_;intro bA hg fY b' hb;have aC:=zA b';have bE:=zga (w:=w) hg;replace HB:=zbs hb;replace aA:=zlh aA hg hb;obtain⟨aG,aE,aA⟩:=aA;clear hb b' hg;have fR:=aG.out;have fN:=aE.out;obtain⟨dW,dV,dU,cA,bZ,bY⟩:=ze3 aA;obtain⟨dT,dS,dR,dQ,bX,bW,bV,bU⟩:=ze4 aC)|((with_reducible refine zgf 109 rfl ?_);refine zgl 8 Try.func109 #[.agg #[aJ,aI,.slice aN aD.length aM],aH] ?_;(refine(Xg.calls k aJ aI _ _ aD aH false _ (zCb aY) aZ.out A3.out).mono ?_);rintro e fX ⟨rfl,hb⟩;refine⟨_,rfl,?_⟩;replace aA:=zkb aA hb;replace aC:=zkb aC hb;replace HB:=zbs hb;(try clear hb)))
  go_ret;exact⟨zE,zb⟩

def X1g.f (k:Nat) (a0_0:Int) (a0_1:Int) (l0_2:List Int) (a1:Int) (a2_0:Int) (a2_1:Int) (l3:List (S85)) (a4_0:Int) (a4_1:Int) (l4_2:List (S117)) (l4_3:List Bool):Option (List Int):=(XZ.f a2_0 a2_1).bind fun t567=>(if t567=true then((X9.f k a0_0 a0_1 l0_2 l3).bind fun t568=>(if t568=true then((X1r.f k a0_0 a0_1 l0_2 a4_0 a4_1 l4_2 l4_3).bind fun t569=>(if t569=true then((Xi.f k a0_0 a0_1 l0_2 a4_0 a1).bind fun t570=>(some t570)) else(some ([]:List Int)))) else(some ([]:List Int)))) else(some ([]:List Int)))
theorem X1g.calls (k:Nat) (aU:Int) (aT:Int) (bC:Option Addr) (bB:Nat) (aJ:List Int) (a1:Int) (aQ:Int) (aN:Int) (A3:Option Addr) (c3:Nat) (l3:List (S85)) (aX:Int) (aY:Int) (bG:Option Addr) (bE:Nat) (aW:List (S117)) (bF:Option Addr) (bD:Nat) (aV:List Bool) (r:List Int) (w:World) (bQ:Kd.C (Kd.int .i64) w bC aJ.length aJ) (bT:aJ.length<=bB) (cG:Kd.C k85 w A3 l3.length l3) (cH:l3.length<=c3) (bP:Kd.C k117 w bG aW.length aW) (bS:aW.length<=bE) (bO:Kd.C Kd.bool w bF aV.length aV) (bR:aV.length<=bD) (h:X1g.f k aU aT aJ a1 aQ aN l3 aX aY aW aV=some r) :
  Calls Try.prog 98 #[.agg #[aU,aT,.slice bC aJ.length bB],a1,.agg #[aQ,aN],.slice A3 l3.length c3,.agg #[aX,aY,.slice bG aW.length bE,.slice bF aV.length bD]] w fun e w'=>∃ v0_:Value,e=.returned (v0_)/\Kd.R (Kd.int .i64) 3 w' w.heap.size (fun _=>True) v0_ r/\Below w.heap.size w w':=by
 have hu37:=Try.underlying37;have hu38:=Try.underlying38;have hu42:=Try.underlying42;have aZ:=zA bQ;have bA:=zA bT;clear bQ bT;have bZ:=zA cG;have cA:=zA cH;clear cG cH;have bW:=zA bP;have bY:=zA bS;clear bP bS;have bV:=zA bO;have bX:=zA bR;clear bO bR;have HB:=zA (Below.refl w.heap.size w);have H:=h;clear h;unfold X1g.f at H;obtain⟨cM,A6,H⟩:=zB H
 by_cases c7:cM=true
 ·subst c7;rw[if_pos rfl] at H;obtain⟨cL,A8,H⟩:=zB H
  by_cases c9:cL=true
  ·subst c9;rw[if_pos rfl] at H;obtain⟨cK,cI,H⟩:=zB H
   by_cases bU:cK=true
   ·subst bU;rw[if_pos rfl] at H;obtain⟨cJ,fO,H⟩:=zB H;obtain rfl:=zI H;go_enter Try.func98,Try.ntmps98
    go_wp2_with (first|((with_reducible refine zgd 5 rfl ?_);refine zbx 5 #[aU,aT,.slice bC aJ.length bB] 37 ?_;intro bJ hg hH b' hb;have aA:=zA b';have bM:=zga (w:=w) hg;replace HB:=zbs hb;clear hb b' hg)|((with_reducible refine zgd 7 rfl ?_);refine zbx 7 #[aQ,aN] 38 ?_;intro bI hg hG b' hb;have aC:=zA b';have bL:=zga (w:=w) hg;replace HB:=zbs hb;replace aA:=zlh aA hg hb;obtain⟨aI,aH,aA⟩:=aA;clear hb b' hg)|((with_reducible refine zgd 9 rfl ?_);refine zbx 9 #[aX,aY,.slice bG aW.length bE,.slice bF aV.length bD] 42 ?_;intro bH hg hF b' hb;have aD:=zA b';have bK:=zga (w:=w) hg;replace HB:=zbs hb;replace aA:=zlh aA hg hb;obtain⟨aM,aK,aA⟩:=aA;replace aC:=zlh aC hg hb;obtain⟨aG,aE,aC⟩:=aC;clear hb b' hg;have gK:=aH.out;have fZ:=aI.out;have gJ:=aG.out;have fY:=aE.out;obtain⟨fL,fK,dZ,dY⟩:=ze2 aC)|((with_reducible refine zgf 120 rfl ?_);refine zgl 12 Try.func120 #[.agg #[aQ,aN]] ?_;(refine(XZ.calls aQ aN true _ A6.out).mono ?_);rintro e hE ⟨rfl,hb⟩;refine⟨_,rfl,?_⟩;replace aA:=zkb aA hb;replace aC:=zkb aC hb;replace aD:=zkb aD hb;replace HB:=zbs hb;(try clear hb);have gI:=aM.out;have fX:=aK.out;obtain⟨fJ,fI,fH,dX,dW,dV⟩:=ze3 aA)|(go_at_call 133;(refine(X9.calls k aU aT _ _ aJ _ _ l3 true _ (zCb aZ) bA.out (zCb bZ) cA.out A8.out).mono ?_);rintro e hD ⟨rfl,hb⟩;replace aA:=zkb aA hb;replace aC:=zkb aC hb;replace aD:=zkb aD hb;replace HB:=zbs hb;(try clear hb);obtain⟨fG,fF,fE,dU,dT,dS⟩:=ze3 aA;obtain⟨fD,fC,fB,fA,dR,dQ,dP,dO⟩:=ze4 aD)|(go_at_call 135;(refine(X1r.calls k aU aT _ _ aJ aX aY _ _ aW _ _ aV true _ (zCb aZ) bA.out (zCb bW) bY.out (zCb bV) bX.out cI.out).mono ?_);rintro e hC ⟨rfl,hb⟩;replace aA:=zkb aA hb;replace aC:=zkb aC hb;replace aD:=zkb aD hb;replace HB:=zbs hb;(try clear hb);obtain⟨eZ,eY,eX,dN,dM,dL⟩:=ze3 aA;obtain⟨eW,eV,eU,eT,dK,dJ,dI,dH⟩:=ze4 aD)|((with_reducible refine zgf 88 rfl ?_);refine zgl 30 Try.func88 #[.agg #[aU,aT,.slice bC aJ.length bB],aX,a1] ?_;(refine(Xi.calls k aU aT _ _ aJ aX a1 cJ _ (zCb aZ) bA.out fO.out).mono ?_);rintro e hA ⟨v571,rfl,ho0,hb⟩;refine⟨_,rfl,?_⟩;have cE:=zA (Kd.R_lower ho0 (below_size zb));replace aA:=zkb aA hb;replace aC:=zkb aC hb;replace aD:=zkb aD hb;replace HB:=zbs hb;(try clear hb);(try clear ho0)))
    go_ret;exact⟨_,zE,zR cE,zb⟩
   ·replace bU:=zbq bU;subst bU;rw[if_neg zNo] at H;obtain rfl:=zI H;go_enter Try.func98,Try.ntmps98
    go_wp2_with (first|((with_reducible refine zgd 5 rfl ?_);refine zbx 5 #[aU,aT,.slice bC aJ.length bB] 37 ?_;intro bJ hg gZ b' hb;have aA:=zA b';have bM:=zga (w:=w) hg;replace HB:=zbs hb;clear hb b' hg)|((with_reducible refine zgd 7 rfl ?_);refine zbx 7 #[aQ,aN] 38 ?_;intro bI hg gY b' hb;have aC:=zA b';have bL:=zga (w:=w) hg;replace HB:=zbs hb;replace aA:=zlh aA hg hb;obtain⟨aI,aH,aA⟩:=aA;clear hb b' hg)|((with_reducible refine zgd 9 rfl ?_);refine zbx 9 #[aX,aY,.slice bG aW.length bE,.slice bF aV.length bD] 42 ?_;intro bH hg gX b' hb;have aD:=zA b';have bK:=zga (w:=w) hg;replace HB:=zbs hb;replace aA:=zlh aA hg hb;obtain⟨aM,aK,aA⟩:=aA;replace aC:=zlh aC hg hb;obtain⟨aG,aE,aC⟩:=aC;clear hb b' hg;have gH:=aH.out;have fW:=aI.out;have gG:=aG.out;have fV:=aE.out;obtain⟨eS,eR,dG,dF⟩:=ze2 aC)|((with_reducible refine zgf 120 rfl ?_);refine zgl 12 Try.func120 #[.agg #[aQ,aN]] ?_;(refine(XZ.calls aQ aN true _ A6.out).mono ?_);rintro e gW ⟨rfl,hb⟩;refine⟨_,rfl,?_⟩;replace aA:=zkb aA hb;replace aC:=zkb aC hb;replace aD:=zkb aD hb;replace HB:=zbs hb;(try clear hb);have gF:=aM.out;have fU:=aK.out;obtain⟨eQ,eP,eO,dE,dD,dC⟩:=ze3 aA)|(go_at_call 133;(refine(X9.calls k aU aT _ _ aJ _ _ l3 true _ (zCb aZ) bA.out (zCb bZ) cA.out A8.out).mono ?_);rintro e gV ⟨rfl,hb⟩;replace aA:=zkb aA hb;replace aC:=zkb aC hb;replace aD:=zkb aD hb;replace HB:=zbs hb;(try clear hb);obtain⟨eN,eM,eL,dB,dA,cZ⟩:=ze3 aA;obtain⟨eK,eJ,eI,eH,cY,cX,cW,cV⟩:=ze4 aD)|(go_at_call 135;(refine(X1r.calls k aU aT _ _ aJ aX aY _ _ aW _ _ aV false _ (zCb aZ) bA.out (zCb bW) bY.out (zCb bV) bX.out cI.out).mono ?_);rintro e gU ⟨rfl,hb⟩;replace aA:=zkb aA hb;replace aC:=zkb aC hb;replace aD:=zkb aD hb;replace HB:=zbs hb;(try clear hb)))
    go_ret;exact⟨_,zE,by first|exact Kd.R_nil _ _ _ _ _|exact Kd.N_nil _ _ _ _ _|exact Kd.V_nil _ _ _ _ _|exact Kd.Q_nil _ _ _ _ _|exact Kd.S_nil _ _ _ _ _,zb⟩
  ·replace c9:=zbq c9;subst c9;rw[if_neg zNo] at H;obtain rfl:=zI H;go_enter Try.func98,Try.ntmps98
   go_wp2_with (first|((with_reducible refine zgd 5 rfl ?_);refine zbx 5 #[aU,aT,.slice bC aJ.length bB] 37 ?_;intro bJ hg gT b' hb;have aA:=zA b';have bM:=zga (w:=w) hg;replace HB:=zbs hb;clear hb b' hg)|((with_reducible refine zgd 7 rfl ?_);refine zbx 7 #[aQ,aN] 38 ?_;intro bI hg gS b' hb;have aC:=zA b';have bL:=zga (w:=w) hg;replace HB:=zbs hb;replace aA:=zlh aA hg hb;obtain⟨aI,aH,aA⟩:=aA;clear hb b' hg)|((with_reducible refine zgd 9 rfl ?_);refine zbx 9 #[aX,aY,.slice bG aW.length bE,.slice bF aV.length bD] 42 ?_;intro bH hg gR b' hb;have aD:=zA b';have bK:=zga (w:=w) hg;replace HB:=zbs hb;replace aA:=zlh aA hg hb;obtain⟨aM,aK,aA⟩:=aA;replace aC:=zlh aC hg hb;obtain⟨aG,aE,aC⟩:=aC;clear hb b' hg;have gE:=aH.out;have fT:=aI.out;have gD:=aG.out;have fS:=aE.out;obtain⟨eG,eF,cU,cT⟩:=ze2 aC)|((with_reducible refine zgf 120 rfl ?_);refine zgl 12 Try.func120 #[.agg #[aQ,aN]] ?_;(refine(XZ.calls aQ aN true _ A6.out).mono ?_);rintro e gQ ⟨rfl,hb⟩;refine⟨_,rfl,?_⟩;replace aA:=zkb aA hb;replace aC:=zkb aC hb;replace aD:=zkb aD hb;replace HB:=zbs hb;(try clear hb);have gC:=aM.out;have fR:=aK.out;obtain⟨eE,eD,eC,cS,cR,cQ⟩:=ze3 aA)|(go_at_call 133;(refine(X9.calls k aU aT _ _ aJ _ _ l3 false _ (zCb aZ) bA.out (zCb bZ) cA.out A8.out).mono ?_);rintro e gP ⟨rfl,hb⟩;replace aA:=zkb aA hb;replace aC:=zkb aC hb;replace aD:=zkb aD hb;replace HB:=zbs hb;(try clear hb)))
   go_ret;exact⟨_,zE,by first|exact Kd.R_nil _ _ _ _ _|exact Kd.N_nil _ _ _ _ _|exact Kd.V_nil _ _ _ _ _|exact Kd.Q_nil _ _ _ _ _|exact Kd.S_nil _ _ _ _ _,zb⟩
 ·replace c7:=zbq c7;subst c7;rw[if_neg zNo] at H;obtain rfl:=zI H;go_enter Try.func98,Try.ntmps98
  go_wp2_with (first|((with_reducible refine zgd 5 rfl ?_);refine zbx 5 #[aU,aT,.slice bC aJ.length bB] 37 ?_;intro bJ hg gO b' hb;have aA:=zA b';have bM:=zga (w:=w) hg;replace HB:=zbs hb;clear hb b' hg)|((with_reducible refine zgd 7 rfl ?_);refine zbx 7 #[aQ,aN] 38 ?_;intro bI hg gN b' hb;have aC:=zA b';have bL:=zga (w:=w) hg;replace HB:=zbs hb;replace aA:=zlh aA hg hb;obtain⟨aI,aH,aA⟩:=aA;clear hb b' hg)|((with_reducible refine zgd 9 rfl ?_);refine zbx 9 #[aX,aY,.slice bG aW.length bE,.slice bF aV.length bD] 42 ?_;intro bH hg gM b' hb;have aD:=zA b';have bK:=zga (w:=w) hg;replace HB:=zbs hb;replace aA:=zlh aA hg hb;obtain⟨aM,aK,aA⟩:=aA;replace aC:=zlh aC hg hb;obtain⟨aG,aE,aC⟩:=aC;clear hb b' hg;have gB:=aH.out;have fQ:=aI.out;have gA:=aG.out;have fP:=aE.out;obtain⟨eB,eA,cP,cO⟩:=ze2 aC)|((with_reducible refine zgf 120 rfl ?_);refine zgl 12 Try.func120 #[.agg #[aQ,aN]] ?_;(refine(XZ.calls aQ aN false _ A6.out).mono ?_);rintro e gL ⟨rfl,hb⟩;refine⟨_,rfl,?_⟩;replace aA:=zkb aA hb;replace aC:=zkb aC hb;replace aD:=zkb aD hb;replace HB:=zbs hb;(try clear hb)))
  go_ret;exact⟨_,zE,by first|exact Kd.R_nil _ _ _ _ _|exact Kd.N_nil _ _ _ _ _|exact Kd.V_nil _ _ _ _ _|exact Kd.Q_nil _ _ _ _ _|exact Kd.S_nil _ _ _ _ _,zb⟩

def Xu.l0:Nat->Int->List Bool->Int->Int->Option (Int)
  |0,_,_,_,_=>none
  |k+1,x3,x6,x7,x8=>if x8<x7 then(if 0<=x8 then(if x8<(x6.length:Int) then(if rdOf false x6 x8=true then(Xu.l0 k (wrap64 (x3+1)) x6 x7 (wrap64 (x8+1))) else(Xu.l0 k x3 x6 x7 (wrap64 (x8+1)))) else(none)) else(none)) else(some x3)
def Xu.f (k:Nat) (l0:List Bool):Option (Int):=Xu.l0 k 0 l0 (l0.length:Int) 0
theorem Xu.calls (k:Nat) (A0:Option Addr) (c0:Nat) (l0:List Bool) (r:Int) (w:World) (aM:Kd.C Kd.bool w A0 l0.length l0) (aN:l0.length<=c0) (h:Xu.f k l0=some r) :
  Calls Try.prog 121 #[.slice A0 l0.length c0] w fun e w'=>e=.returned (.int .i64 r)/\Drawn0 w w':=by
 have aQ:=zA aM;have aY:=zA aN;clear aM aN;have H:=h;clear h;unfold Xu.f at H;have H':=zA H;clear H;go_enter Try.func121,Try.ntmps121;go_wp2
 go_loopg [3,8] k (fun kq v3 v8 w'=>∃ (aC:Int) (aA:Int),v3=.int .i64 aC/\v8=.int .i64 aA/\Aside0 (Xu.l0 kq aC l0 (l0.length:Int) aA=some r)/\Aside0 (kq<=k)/\Drawn0 w w')
 case atStart=>exact⟨(0),(0),zr,zr,H',⟨Nat.le_refl _⟩,zDr⟩
 case round =>
  clear H';obtain⟨aC,aA,rfl,rfl,HA,HK1,⟨m1,rfl⟩⟩:=hrel
  cases gk with
  |zero=>exact absurd HA.out (by simp[Xu.l0])
  |succ k1 =>
   have H:=HA.out;clear HA;simp only[Xu.l0] at H
   by_cases c2:aA<(l0.length:Int)
   ·rw[if_pos c2] at H;have aT:=decide_eq_true c2;clear c2;obtain⟨aX,H⟩:=zifD H;obtain⟨aW,H⟩:=zifD H;obtain⟨bq5,hbq5⟩:∃ b_:Bool,b_=(rdOf false l0 aA):=⟨_,rfl⟩
    replace H:(if bq5=true then(Xu.l0 k1 (wrap64 (aC+1)) l0 (l0.length:Int) (wrap64 (aA+1))) else(Xu.l0 k1 aC l0 (l0.length:Int) (wrap64 (aA+1))))=some r:=by rw[<-hbq5] at H;exact H
    have Nbq5:=zA hbq5;clear hbq5
    by_cases c6:bq5=true
    ·subst c6;rw[if_pos rfl] at H;have H':=zA H;clear H;have aE:0<=(aA:Int):=zd;have aD:aA<(l0.length:Int):=zd;obtain⟨aK,aI,aH⟩:=Kd.at_bool aQ.out aA aE aD;(try rw[<-Nbq5.out] at aH);cases aI;replace aE:=eq_true aE;replace aD:=eq_true aD;go_wp2
     go_roundg k1
     case measure=>have:=HK1.out;omega
     case rel=>exact⟨(wrap64 (aC+1)),(wrap64 (aA+1)),zr,zr,H',⟨by have:=HK1.out;omega⟩,zDr⟩
    ·replace c6:=zbq c6;subst c6;rw[if_neg zNo] at H;have H':=zA H;clear H;have aE:0<=(aA:Int):=zd;have aD:aA<(l0.length:Int):=zd;obtain⟨aK,aI,aH⟩:=Kd.at_bool aQ.out aA aE aD;(try rw[<-Nbq5.out] at aH);cases aI;replace aE:=eq_true aE;replace aD:=eq_true aD;go_wp2
     go_roundg k1
     case measure=>have:=HK1.out;omega
     case rel=>exact⟨(aC),(wrap64 (aA+1)),zr,zr,H',⟨by have:=HK1.out;omega⟩,zDr⟩
   ·rw[if_neg c2] at H;have aT:=decide_eq_false c2;clear c2;obtain rfl:=zI H;go_wp2;go_ret;exact⟨by first|rfl|(simp;done)|(simp[*];done),zDr⟩

def XA.f (l0:List Bool) (a1:Int):Option (List Bool):=if 0<=(mx (wrap64 ((l0.length:Int)-a1)) 0) then(if (mx (wrap64 ((l0.length:Int)-a1)) 0)<=(l0.length:Int) then(some (l0.drop ((mx (wrap64 ((l0.length:Int)-a1)) 0):Int).toNat)) else(none)) else(none)
theorem XA.calls (P0_:Nat->Prop) (u9000_:Value) (l0:List Bool) (a1:Int) (r:List Bool) (w0 w:World) (hB:Below w0.heap.size w0 w) (ho0:Kd.R Kd.bool 4 w w0.heap.size P0_ u9000_ l0) (h:XA.f l0 a1=some r) :
  Calls Try.prog 122 #[u9000_,a1] w fun e w'=>∃ v0_:Value,e=.returned (v0_)/\Kd.Q Kd.bool 4 w' w0.heap.size (fun k_=>(P0_ k_\/w.heap.size<=k_)) v0_ r/\Below w0.heap.size w0 w'/\Kept w w' (fun k_=>P0_ k_):=by
 have aM:=zA (show Kd.R Kd.bool 4 w w0.heap.size (fun k_=>(P0_ k_\/w.heap.size<=k_)) u9000_ l0 from Kd.R_mono ho0 (fun k_ hk=>(.inl hk)));have HK:=zA (Kept.refl w (fun k_=>P0_ k_));have HW0:=zA hB.size;have HB:=zA hB;clear hB;have H:=h;clear h;unfold XA.f at H;obtain⟨aA,aE⟩:∃ j_:Int,(mx (wrap64 ((l0.length:Int)-a1)) 0)=j_:=⟨_,rfl⟩
 replace H:(if 0<=(aA) then(if (aA)<=(l0.length:Int) then(some (l0.drop ((aA):Int).toNat)) else(none)) else(none))=some r:=by first|(rw[aE] at H;exact H)|(simp only[aE] at H ⊢;exact H)
 (try (have hji3l:0<=aA:=by(rw[<-aE];unfold mx;(repeat' split) <;> omega)));(try (have hji3m:0<=aA:=by omega));have aY:(if (wrap64 ((l0.length:Int)-a1))<0 then 0 else(wrap64 ((l0.length:Int)-a1)))=aA:=aE;obtain⟨c4,H⟩:=zif H;have bC:=eq_true c4;have bB:=decide_eq_true c4;clear c4;obtain⟨c5,H⟩:=zif H;have bA:=eq_true c5;have aZ:=decide_eq_true c5;clear c5;obtain⟨aD,aG⟩:∃ y_:List Bool,y_=(l0.drop ((aA):Int).toNat):=⟨_,rfl⟩
 replace H:(some aD)=some r:=zY aG H
 have Ny574:=zA aG;clear aG;obtain rfl:=zI H;obtain⟨aH,aI,aV⟩:=Kd.R_slice aM.out;subst aV;have q7:((aA):Int)<=((l0.length:Int):Int):=zd;obtain⟨i07,hi07,_,hsz7,_⟩:=info_parts info4;have hcut7:=cut_from (P:=Try.prog) 29 4 .i64 Try.underlying29 hi07 1 hsz7 aH l0.length aI (aA) zd q7;have hr7:=Kd.Q_drop (k:=((aA):Int).toNat) (Kd.Q_of_R aM.out) (by omega);obtain⟨A7,hA7⟩:∃ A1,A1=(if aI=((aA):Int).toNat then aH else(aH:Option Addr).map (·.add (((aA):Int).toNat * 1))):=⟨_,rfl⟩;obtain⟨c7,hc7⟩:∃ c1,c1=aI-((aA):Int).toNat:=⟨_,rfl⟩;have aJ:aD.length=l0.length-((aA):Int).toNat:=(by rw[Ny574.out,List.length_drop]);rw[<-Ny574.out] at hr7;rw[<-aJ,<-hA7,<-hc7] at hcut7;replace hr7:Kd.Q Kd.bool 4 w w0.heap.size (fun k_=>(P0_ k_\/w.heap.size<=k_)) (.slice A7 aD.length c7) aD:=(by rw[hA7,hc7,aJ];exact hr7);have HE7:Aside0 ((Value.slice A7 aD.length c7).ownBlock=(.slice aH l0.length aI:Value).ownBlock):=⟨by rw[hA7];split <;> (cases (aH:Option Addr) <;> first|rfl|(simp[Value.ownBlock,Addr.add];done)|(simp only[Option.map,Value.ownBlock,Addr.add];split <;> rfl))⟩;clear aJ hi07 hsz7 aM hA7 hc7;have aN:=zA hr7;clear hr7;replace q7:=eq_true q7;go_enter Try.func122,Try.ntmps122;go_wp2;go_ret;exact⟨_,by first|rfl|(simp[errW_none,errW_some] <;> rfl)|(simp only[<-aE];first|rfl|(simp[errW_none,errW_some] <;> rfl))|(simp[*,errW_none,errW_some] <;> rfl),zQ aN,zb,zHK⟩

theorem XA.callsC (A0:Option Addr) (c0:Nat) (l0:List Bool) (a1:Int) (r:List Bool) (w:World) (aJ:Kd.C Kd.bool w A0 l0.length l0) (aI:l0.length<=c0) (h:XA.f l0 a1=some r) :
  Calls Try.prog 122 #[.slice A0 l0.length c0,a1] w fun e w'=>∃ A' c',e=.returned (.slice A' r.length c')/\r.length<=c'/\(∀ w2:World,Kd.C Kd.bool w2 A0 l0.length l0->Kd.C Kd.bool w2 A' r.length r)/\w'=w:=by
 unfold XA.f at h
 obtain⟨aC,aD⟩:∃ j_:Int,(mx (wrap64 ((l0.length:Int)-a1)) 0)=j_:=⟨_,rfl⟩
 rw[aD] at h
 have hji3_:(if (wrap64 ((l0.length:Int)-a1))<0 then 0 else(wrap64 ((l0.length:Int)-a1)))=aC:=aD
 obtain⟨c4,h⟩:=zif h
 obtain⟨c5,h⟩:=zif h
 obtain rfl:=Option.some.inj h
 obtain⟨i07,hi07,_,hsz7,_⟩:=info_parts info4
 obtain⟨A7,hcut7,hrd7,hc7⟩:=print_drop_of (P:=Try.prog) Value.bool false 29 4 .i64 Try.underlying29 hi07 hsz7 A0 c0 l0 aC c4 c5 aI
 go_enter Try.func122,Try.ntmps122
 go_wp2
 go_ret
 exact⟨A7,c0-aC.toNat,by first|rfl|(simp;done),by have h_:=hc7;first|exact h_|(rw[List.length_drop] at h_;first|exact h_|omega),fun w2 h2=>by have h_:=Kd.C_of_reads (h1:=fun _=>rfl) (hrd7 w2 (Kd.reads_of_C h2));first|exact h_|(rw[List.length_drop] at h_;exact h_),rfl⟩
def Xq.f (k:Nat) (a0_0:Int) (a0_1:Int) (l1:List Bool):Option (Bool):=(XZ.f a0_0 a0_1).bind fun t519=>(if t519=true then((XA.f l1 (wrap64 (a0_1-1))).bind fun t520=>((Xu.f k t520).bind fun t521=>(some (decide (t521<a0_0))))) else(some false))
def Xq.T1:Bool × List (List Nat × List Nat):=(true,[([],[]),([0],[0]),([1,1],[1]),([2],[2]),([2],[2]),([4,2],[2,4]),([5,2],[2,5]),([3,6,2,2],[2,3,6]),([7,7,2],[2,7]),([2],[2]),([9,2],[2,9]),([8,10,2],[2,8,10]),([2,11],[2,11]),([12,8,0,1,2,3,4,5,6,7,8,9,10,11,12],[12])])
def Xq.B1:List Nat:=[0,1,3,7,7,23,55,127,255,7,519,2047,4095,8191]
theorem Xq.tab1:rtab .any (opsOf Try.f80 1)=Xq.T1:=by kernel_rfl
theorem Xq.bits1:waitsOk Xq.T1.2 Xq.B1=true:=by kernel_rfl
theorem Xq.calls (k:Nat) (aD:Int) (aC:Int) (A1:Option Addr) (c1:Nat) (l1:List Bool) (r:Bool) (w:World) (aZ:Kd.C Kd.bool w A1 l1.length l1) (bA:l1.length<=c1) (h:Xq.f k aD aC l1=some r) :
  Calls Try.prog 80 #[.agg #[aD,aC],.slice A1 l1.length c1] w fun e w'=>e=.returned (.bool r)/\Below w.heap.size w w':=by
 have hu38:=Try.underlying38
 have HR1:=zA aZ
 have HC1:=zA bA
 clear aZ bA
 have HB:=zA (Below.refl w.heap.size w)
 have H:((XZ.f aD aC).bind fun t519=>(if t519=true then((XA.f l1 (wrap64 (aC-1))).bind fun t520=>((Xu.f k t520).bind fun t521=>(some (decide (t521<aD))))) else(some false)))=some r:=h
 clear h
 replace H:=Option.bind_eq_some_iff.mp H
 obtain⟨t519,A30,H⟩:=H
 replace H:(if t519=true then((XA.f l1 (wrap64 (aC-1))).bind fun t520=>((Xu.f k t520).bind fun t521=>(some (decide (t521<aD))))) else(some false))=some r:=H
 have A3:=zA A30
 clear A30
 by_cases c4:t519=true
 ·subst c4
  have H1:((XA.f l1 (wrap64 (aC-1))).bind fun t520=>((Xu.f k t520).bind fun t521=>(some (decide (t521<aD)))))=some r:=by rw[if_pos rfl] at H;exact H
  clear H
  have H:=H1
  clear H1
  obtain⟨aN,hji5⟩:∃ j_:Int,(wrap64 (aC-1))=j_:=⟨_,rfl⟩
  replace H:((XA.f l1 (aN)).bind fun t520=>((Xu.f k t520).bind fun t521=>(some (decide (t521<aD)))))=some r:=by first|(rw[hji5] at H;exact H)|(simp only[hji5] at H ⊢;exact H)
  (try rw[hji5] at A3)
  have aQ:(IntKind.i64.wrap (aC-1))=aN:=(i64_w _).trans hji5
  obtain⟨t520,A7,H⟩:=zB H
  replace H:=Option.bind_eq_some_iff.mp H
  obtain⟨t521,A80,H⟩:=H
  replace H:(some (decide (t521<aD)))=some r:=H
  have A8:=zA A80
  clear A80
  obtain rfl:=zI H
  go_enter Try.func80,Try.ntmps80
  try go_wp2_with (first|((with_reducible refine zgd 2 rfl ?_);refine box_event ?hg (N:=2) ?hd (cs:=#[aD,aC]) (t:=38) ?hr ?_;(case hd=>rfl);(case hg=>rfl);(case hr=>first|(go_simp;done)|(go_simp;rfl));intro aE hg w9 b' hb;have aH:=zA (below_step zb hb);have aG:=zA b';have aM:=zA ((by rw[hg];exact(below_size zb):w.heap.size<=aE));have aK:=zA ((by rw[hg];exact(below_size zb):w.heap.size<=aE));clear HB;have HB:=aH;have aA:=aG;have aX:=aM;have aI:=aK;clear aH aG aM aK;clear hb b' hg))
  have aH:=zA (blk_drew aA.out)
  have aG:=zA (below_drew1 HB.out)
  clear aA
  clear HB
  have aA:=aH
  have HB:=aG
  clear aH aG
  refine start_ (n:=14) (S:=fun w'=>w'.cell? ⟨aE,0,none⟩=some (.int .i64 aD)/\w'.cell? ⟨aE,1,none⟩=some (.int .i64 aC)) (ds:=[]) #[false,false,false,false,false,false,false,false,false,false,false,false,false,false] (by kernel_rfl) rfl rfl ⟨(blk_cell aA.out 0).trans rfl,(blk_cell aA.out 1).trans rfl⟩ (fun h'=>?_);refine with_tabW Xq.tab1 Xq.bits1 (fun T_ W_=>?_)
  generalize w9.drew=bI at aA HB h' ⊢
  refine take_ (i:=0) (N:=some 5) (v:=?_) (a':=?_) #[true,false,false,false,false,false,false,false,false,false,false,false,false,false] rfl rfl (take_ofW T_.out W_.out (by kernel_rfl)) (fun _ _ _ h=>h) (Or.inl ⟨by rfl,?_⟩) h' ?_ ?_
  rotate_left
  ·rintro w' ⟨s0,s1⟩
   go_simp
   with_reducible rfl
  rotate_left
  ·simp only[Act.put,z1,z2,z3,i64_w,i32_w]
   rfl
  refine one_ (i:=1) (N:=some 6) #[true,true,false,false,false,false,false,false,false,false,false,false,false,false] rfl rfl (one_of T_.out (by kernel_rfl)) (by decide) (fun K hK=>?_)
  refine goes_ Try.func120 (by kernel_rfl) rfl #[.agg #[aD,aC]] (by rfl) rfl rfl (by(try simp only[List.map_toArray,List.map_cons,List.map_nil]);first|done|rfl|(simp only[List.length_drop,List.length_take];rfl)) ?_
  refine(XZ.calls aD aC true _ A3.out).mono ?_
  rintro e bH ⟨rfl,hb⟩
  refine⟨_,rfl,?_⟩
  have aH:=zA (blk_below (g:=aE) (o:=.cells #[aD,aC] 38 (0,0)) (by(with_reducible repeat (first|refine blk_drewN ?_ _|refine blk_drew ?_|refine blk_alloc ?_ _));exact aA.out) hb)
  have aG:=zA (below_step zb hb)
  clear aA
  clear HB
  have aA:=aH
  have HB:=aG
  clear aH aG
  (try clear hb)
  (try clear hb2)
  (try clear hk)
  (try clear hi)
  refine hK.out _ _ ⟨(blk_cell aA.out 0).trans rfl,(blk_cell aA.out 1).trans rfl⟩ (fun h'=>?_)
  clear hK K
  refine norm_ (a':=?_) ?_ ?_
  rotate_left
  ·show Act.put _ (some 6) _=_
   simp only[Act.put,z1,z2,z3,i64_w,i32_w]
   rfl
  refine pure_ (i:=2) (N:=some 7) (v:=?_) (a':=?_) #[true,true,true,false,false,false,false,false,false,false,false,false,false,false] rfl rfl (any_of T_.out (by kernel_rfl)) (fun _ _ _ h=>h) (Or.inl ⟨by rfl,?_⟩) ?_ ?_
  rotate_left
  ·intro w'
   go_simp
   with_reducible rfl
  rotate_left
  ·simp only[Act.put,z1,z2,z3,i64_w,i32_w]
   rfl
  refine pure_ (i:=3) (N:=some 8) (v:=?_) (a':=?_) #[true,true,true,true,false,false,false,false,false,false,false,false,false,false] rfl rfl (any_of T_.out (by kernel_rfl)) (fun _ _ _ h=>h) (Or.inl ⟨by rfl,?_⟩) ?_ ?_
  rotate_left
  ·intro w'
   go_simp
   with_reducible rfl
  rotate_left
  ·simp only[Act.put,z1,z2,z3,i64_w,i32_w]
   rfl
  refine pure_ (i:=4) (N:=some 9) (v:=?_) (a':=?_) #[true,true,true,true,true,false,false,false,false,false,false,false,false,false] rfl rfl (any_of T_.out (by kernel_rfl)) (fun _ _ _ h=>h) (Or.inl ⟨by rfl,?_⟩) ?_ ?_
  rotate_left
  ·intro w'
   go_simp
   with_reducible rfl
  rotate_left
  ·simp only[Act.put,z1,z2,z3,i64_w,i32_w]
   rfl
  refine pure_ (i:=9) (N:=some 14) (v:=?_) (a':=?_) #[true,true,true,true,true,false,false,false,false,true,false,false,false,false] rfl rfl (any_of T_.out (by kernel_rfl)) (fun _ _ _ h=>h) (Or.inl ⟨by rfl,?_⟩) ?_ ?_
  rotate_left
  ·intro w'
   go_simp
   with_reducible rfl
  rotate_left
  ·simp only[Act.put,z1,z2,z3,i64_w,i32_w]
   rfl
  refine take_ (i:=5) (N:=some 10) (v:=?_) (a':=?_) #[true,true,true,true,true,true,false,false,false,true,false,false,false,false] rfl rfl (take_ofW T_.out W_.out (by kernel_rfl)) (fun _ _ _ h=>h) (Or.inl ⟨by rfl,?_⟩) h' ?_ ?_
  rotate_left
  ·rintro w' ⟨s0,s1⟩
   go_simp
   with_reducible rfl
  rotate_left
  ·simp only[Act.put,z1,z2,z3,i64_w,i32_w]
   rfl
  refine pure_ (i:=6) (N:=some 11) (v:=?_) (a':=?_) #[true,true,true,true,true,true,true,false,false,true,false,false,false,false] rfl rfl (any_of T_.out (by kernel_rfl)) (fun _ _ _ h=>h) (Or.inl ⟨by rfl,?_⟩) ?_ ?_
  rotate_left
  ·intro w'
   go_simp
   with_reducible rfl
  rotate_left
  ·simp only[Act.put,z1,z2,z3,i64_w,i32_w]
   rfl
  refine take_ (i:=10) (N:=some 15) (v:=?_) (a':=?_) #[true,true,true,true,true,true,true,false,false,true,true,false,false,false] rfl rfl (take_ofW T_.out W_.out (by kernel_rfl)) (fun _ _ _ h=>h) (Or.inl ⟨by rfl,?_⟩) h' ?_ ?_
  rotate_left
  ·rintro w' ⟨s0,s1⟩
   go_simp
   with_reducible rfl
  rotate_left
  ·simp only[Act.put,z1,z2,z3,i64_w,i32_w]
   rfl
  refine one_ (i:=7) (N:=some 12) #[true,true,true,true,true,true,true,true,false,true,true,false,false,false] rfl rfl (one_of T_.out (by kernel_rfl)) (by decide) (fun K hK=>?_)
  refine goes_ Try.func122 (by kernel_rfl) rfl #[.slice A1 l1.length c1,aN] (by rfl) rfl rfl (by(try simp only[List.map_toArray,List.map_cons,List.map_nil]);first|done|rfl|(simp only[hji5];rfl)|(simp only[aQ];rfl)) ?_
  with_reducible refine(XA.callsC A1 c1 l1 aN t520 _ (Kd.C_below HR1.out HB.out) HC1.out A7.out).mono ?_
  rintro e w' ⟨bD,bC,rfl,hc12,hrd12,rfl⟩
  refine⟨_,rfl,?_⟩
  have aV:=zA (hrd12 _ HR1.out);have aW:=zA hc12;clear hrd12 hc12
  refine hK.out _ _ ⟨(blk_cell aA.out 0).trans rfl,(blk_cell aA.out 1).trans rfl⟩ (fun h'=>?_)
  clear hK K
  refine norm_ (a':=?_) ?_ ?_
  rotate_left
  ·show Act.put _ (some 12) _=_
   simp only[Act.put,z1,z2,z3,i64_w,i32_w]
   rfl
  refine one_ (i:=8) (N:=some 13) #[true,true,true,true,true,true,true,true,true,true,true,false,false,false] rfl rfl (one_of T_.out (by kernel_rfl)) (by decide) (fun K hK=>?_)
  refine goes_ Try.func121 (by kernel_rfl) rfl #[.slice bD t520.length bC] (by rfl) rfl rfl (by(try simp only[List.map_toArray,List.map_cons,List.map_nil]);first|done|(rw[show t520.length=(l1.length-(aN).toNat) from List.length_drop] <;> rfl)|(simp only[hji5];rfl)|rfl|(simp only[List.length_drop,List.length_take];rfl)) ?_
  refine(Xu.calls k _ _ t520 t521 _ ?s1 ?s2 A8.out).mono ?_
  (case s1=>repeat (first|exact(Kd.C_below aV.out HB.out)|(with_reducible refine Kd.C_alloc ?_ _)|(with_reducible refine Kd.C_drewN ?_ _)|(with_reducible refine Kd.C_drew ?_)))
  (case s2=>exact aW.out)
  rintro e w' ⟨rfl,⟨nd,rfl⟩⟩
  refine⟨_,rfl,?_⟩
  refine hK.out _ _ ⟨(blk_cell aA.out 0).trans rfl,(blk_cell aA.out 1).trans rfl⟩ (fun h'=>?_)
  clear hK K
  refine norm_ (a':=?_) ?_ ?_
  rotate_left
  ·show Act.put _ (some 13) _=_
   simp only[Act.put,z1,z2,z3,i64_w,i32_w]
   rfl
  refine pure_ (i:=11) (N:=some 16) (v:=?_) (a':=?_) #[true,true,true,true,true,true,true,true,true,true,true,true,false,false] rfl rfl (any_of T_.out (by kernel_rfl)) (fun _ _ _ h=>h) (Or.inl ⟨by rfl,?_⟩) ?_ ?_
  rotate_left
  ·intro w'
   go_simp
   with_reducible rfl
  rotate_left
  ·simp only[Act.put,z1,z2,z3,i64_w,i32_w]
   rfl
  refine pure_ (i:=12) (N:=some 17) (v:=?_) (a':=?_) #[true,true,true,true,true,true,true,true,true,true,true,true,true,false] rfl rfl (any_of T_.out (by kernel_rfl)) (fun _ _ _ h=>h) (Or.inl ⟨by rfl,?_⟩) ?_ ?_
  rotate_left
  ·intro w'
   go_simp
   with_reducible rfl
  rotate_left
  ·simp only[Act.put,z1,z2,z3,i64_w,i32_w]
   rfl
  refine pure_ (i:=13) (N:=some 4) (v:=?_) (a':=?_) #[true,true,true,true,true,true,true,true,true,true,true,true,true,true] rfl rfl (any_of T_.out (by kernel_rfl)) (fun _ _ _ h=>h) (Or.inl ⟨by rfl,?_⟩) ?_ ?_
  rotate_left
  ·intro w'
   go_simp
   with_reducible rfl
  rotate_left
  ·simp only[Act.put,z1,z2,z3,i64_w,i32_w]
   rfl
  refine done_ (done_of T_.out (by kernel_rfl)) ?_
  try go_wp2
  go_ret
  exact⟨by first|rfl|(simp[errW_none,errW_some] <;> rfl)|(simp only[<-hji5];first|rfl|(simp[errW_none,errW_some] <;> rfl))|(simp[*,errW_none,errW_some] <;> rfl),zb⟩
 ·replace c4:=zbq c4
  subst c4
  have H1:(some false)=some r:=by rw[if_neg zNo] at H;exact H
  clear H
  have H:=H1
  clear H1
  obtain rfl:=zI H
  go_enter Try.func80,Try.ntmps80
  try go_wp2_with (first|((with_reducible refine zgd 2 rfl ?_);refine box_event ?hg (N:=2) ?hd (cs:=#[aD,aC]) (t:=38) ?hr ?_;(case hd=>rfl);(case hg=>rfl);(case hr=>first|(go_simp;done)|(go_simp;rfl));intro aE hg bB b' hb;have aH:=zA (below_step zb hb);have aG:=zA b';have aM:=zA ((by rw[hg];exact(below_size zb):w.heap.size<=aE));have aK:=zA ((by rw[hg];exact(below_size zb):w.heap.size<=aE));clear HB;have HB:=aH;have aA:=aG;have aX:=aM;have aI:=aK;clear aH aG aM aK;clear hb b' hg))
  have aH:=zA (blk_drew aA.out)
  have aG:=zA (below_drew1 HB.out)
  clear aA
  clear HB
  have aA:=aH
  have HB:=aG
  clear aH aG
  refine start_ (n:=14) (S:=fun w'=>w'.cell? ⟨aE,0,none⟩=some (.int .i64 aD)/\w'.cell? ⟨aE,1,none⟩=some (.int .i64 aC)) (ds:=[]) #[false,false,false,false,false,false,false,false,false,false,false,false,false,false] (by kernel_rfl) rfl rfl ⟨(blk_cell aA.out 0).trans rfl,(blk_cell aA.out 1).trans rfl⟩ (fun h'=>?_);refine with_tabW Xq.tab1 Xq.bits1 (fun T_ W_=>?_)
  generalize bB.drew=bG at aA HB h' ⊢
  refine take_ (i:=0) (N:=some 5) (v:=?_) (a':=?_) #[true,false,false,false,false,false,false,false,false,false,false,false,false,false] rfl rfl (take_ofW T_.out W_.out (by kernel_rfl)) (fun _ _ _ h=>h) (Or.inl ⟨by rfl,?_⟩) h' ?_ ?_
  rotate_left
  ·rintro w' ⟨s0,s1⟩
   go_simp
   with_reducible rfl
  rotate_left
  ·simp only[Act.put,z1,z2,z3,i64_w,i32_w]
   rfl
  refine one_ (i:=1) (N:=some 6) #[true,true,false,false,false,false,false,false,false,false,false,false,false,false] rfl rfl (one_of T_.out (by kernel_rfl)) (by decide) (fun K hK=>?_)
  refine goes_ Try.func120 (by kernel_rfl) rfl #[.agg #[aD,aC]] (by rfl) rfl rfl (by(try simp only[List.map_toArray,List.map_cons,List.map_nil]);first|done|rfl|(simp only[List.length_drop,List.length_take];rfl)) ?_
  refine(XZ.calls aD aC false _ A3.out).mono ?_
  rintro e bF ⟨rfl,hb⟩
  refine⟨_,rfl,?_⟩
  have aH:=zA (blk_below (g:=aE) (o:=.cells #[aD,aC] 38 (0,0)) (by(with_reducible repeat (first|refine blk_drewN ?_ _|refine blk_drew ?_|refine blk_alloc ?_ _));exact aA.out) hb)
  have aG:=zA (below_step zb hb)
  clear aA
  clear HB
  have aA:=aH
  have HB:=aG
  clear aH aG
  (try clear hb)
  (try clear hb2)
  (try clear hk)
  (try clear hi)
  refine hK.out _ _ ⟨(blk_cell aA.out 0).trans rfl,(blk_cell aA.out 1).trans rfl⟩ (fun h'=>?_)
  clear hK K
  refine norm_ (a':=?_) ?_ ?_
  rotate_left
  ·show Act.put _ (some 6) _=_
   simp only[Act.put,z1,z2,z3,i64_w,i32_w]
   rfl
  refine pure_ (i:=2) (N:=some 7) (v:=?_) (a':=?_) #[true,true,true,false,false,false,false,false,false,false,false,false,false,false] rfl rfl (any_of T_.out (by kernel_rfl)) (fun _ _ _ h=>h) (Or.inl ⟨by rfl,?_⟩) ?_ ?_
  rotate_left
  ·intro w'
   go_simp
   with_reducible rfl
  rotate_left
  ·simp only[Act.put,z1,z2,z3,i64_w,i32_w]
   rfl
  refine pure_ (i:=3) (N:=some 8) (v:=undef) (a':=?_) #[true,true,true,true,false,false,false,false,false,false,false,false,false,false] rfl rfl (any_of T_.out (by kernel_rfl)) (fun _ _ _ h=>h) (Or.inr ⟨by rfl,rfl⟩) ?_ ?_
  rotate_left
  ·simp only[Act.put,z1,z2,z3,i64_w,i32_w]
   rfl
  refine pure_ (i:=4) (N:=some 9) (v:=undef) (a':=?_) #[true,true,true,true,true,false,false,false,false,false,false,false,false,false] rfl rfl (any_of T_.out (by kernel_rfl)) (fun _ _ _ h=>h) (Or.inr ⟨by rfl,rfl⟩) ?_ ?_
  rotate_left
  ·simp only[Act.put,z1,z2,z3,i64_w,i32_w]
   rfl
  refine pure_ (i:=5) (N:=some 10) (v:=undef) (a':=?_) #[true,true,true,true,true,true,false,false,false,false,false,false,false,false] rfl rfl (any_of T_.out (by kernel_rfl)) (fun _ _ _ h=>h) (Or.inr ⟨by rfl,rfl⟩) ?_ ?_
  rotate_left
  ·simp only[Act.put,z1,z2,z3,i64_w,i32_w]
   rfl
  refine pure_ (i:=6) (N:=some 11) (v:=undef) (a':=?_) #[true,true,true,true,true,true,true,false,false,false,false,false,false,false] rfl rfl (any_of T_.out (by kernel_rfl)) (fun _ _ _ h=>h) (Or.inr ⟨by rfl,rfl⟩) ?_ ?_
  rotate_left
  ·simp only[Act.put,z1,z2,z3,i64_w,i32_w]
   rfl
  refine pure_ (i:=7) (N:=some 12) (v:=undef) (a':=?_) #[true,true,true,true,true,true,true,true,false,false,false,false,false,false] rfl rfl (any_of T_.out (by kernel_rfl)) (fun _ _ _ h=>h) (Or.inr ⟨by rfl,rfl⟩) ?_ ?_
  rotate_left
  ·simp only[Act.put,z1,z2,z3,i64_w,i32_w]
   rfl
  refine pure_ (i:=8) (N:=some 13) (v:=undef) (a':=?_) #[true,true,true,true,true,true,true,true,true,false,false,false,false,false] rfl rfl (any_of T_.out (by kernel_rfl)) (fun _ _ _ h=>h) (Or.inr ⟨by rfl,rfl⟩) ?_ ?_
  rotate_left
  ·simp only[Act.put,z1,z2,z3,i64_w,i32_w]
   rfl
  refine pure_ (i:=9) (N:=some 14) (v:=undef) (a':=?_) #[true,true,true,true,true,true,true,true,true,true,false,false,false,false] rfl rfl (any_of T_.out (by kernel_rfl)) (fun _ _ _ h=>h) (Or.inr ⟨by rfl,rfl⟩) ?_ ?_
  rotate_left
  ·simp only[Act.put,z1,z2,z3,i64_w,i32_w]
   rfl
  refine pure_ (i:=10) (N:=some 15) (v:=undef) (a':=?_) #[true,true,true,true,true,true,true,true,true,true,true,false,false,false] rfl rfl (any_of T_.out (by kernel_rfl)) (fun _ _ _ h=>h) (Or.inr ⟨by rfl,rfl⟩) ?_ ?_
  rotate_left
  ·simp only[Act.put,z1,z2,z3,i64_w,i32_w]
   rfl
  refine pure_ (i:=11) (N:=some 16) (v:=undef) (a':=?_) #[true,true,true,true,true,true,true,true,true,true,true,true,false,false] rfl rfl (any_of T_.out (by kernel_rfl)) (fun _ _ _ h=>h) (Or.inr ⟨by rfl,rfl⟩) ?_ ?_
  rotate_left
  ·simp only[Act.put,z1,z2,z3,i64_w,i32_w]
   rfl
  refine pure_ (i:=12) (N:=some 17) (v:=?_) (a':=?_) #[true,true,true,true,true,true,true,true,true,true,true,true,true,false] rfl rfl (any_of T_.out (by kernel_rfl)) (fun _ _ _ h=>h) (Or.inl ⟨by rfl,?_⟩) ?_ ?_
  rotate_left
  ·intro w'
   go_simp
   with_reducible rfl
  rotate_left
  ·simp only[Act.put,z1,z2,z3,i64_w,i32_w]
   rfl
  refine pure_ (i:=13) (N:=some 4) (v:=?_) (a':=?_) #[true,true,true,true,true,true,true,true,true,true,true,true,true,true] rfl rfl (any_of T_.out (by kernel_rfl)) (fun _ _ _ h=>h) (Or.inl ⟨by rfl,?_⟩) ?_ ?_
  rotate_left
  ·intro w'
   go_simp
   with_reducible rfl
  rotate_left
  ·simp only[Act.put,z1,z2,z3,i64_w,i32_w]
   rfl
  refine done_ (done_of T_.out (by kernel_rfl)) ?_
  try go_wp2
  go_ret
  exact⟨zE,zb⟩

def X1w.f (l0:List (S117)):Option ((List (S117))):=(some (([]:List (S117)):List (S117))).bind fun y581=>(if y581.length+l0.length<4398046511104 then(some (y581++l0)) else(none))
theorem X1w.calls (A0:Option Addr) (c0:Nat) (l0:List (S117)) (r:List (S117)) (w:World) (aI:Kd.C k117 w A0 l0.length l0) (aJ:l0.length<=c0) (h:X1w.f l0=some r) :
  Calls Try.prog 123 #[.slice A0 l0.length c0] w fun e w'=>∃ v0_:Value,e=.returned (v0_)/\Kd.R k117 117 w' w.heap.size (fun _=>True) v0_ r/\Below w.heap.size w w':=by
 have aQ:=zA aI;have aU:=zA aJ;clear aI aJ;have HB:=zA (Below.refl w.heap.size w);have H:=h;clear h;unfold X1w.f at H;obtain⟨aA,aE⟩:∃ y_:List (S117),y_=(([]:List (S117))):=⟨_,rfl⟩
 replace H:(if aA.length+l0.length<4398046511104 then(some (aA++l0)) else(none))=some r:=zY aE H
 have Ny581:=zA aE;clear aE;obtain⟨aM,H⟩:=zifA H;obtain⟨aK,aD⟩:∃ y_:List (S117),y_=(aA++l0):=⟨_,rfl⟩
 replace H:(some aK)=some r:=zY aD H
 have Ny584:=zA aD;clear aD;obtain rfl:=zI H;go_enter Try.func123,Try.ntmps123
 go_wp2_with (first|((with_reducible refine zgd 3 rfl ?_);refine Kd.R_lit k117 _ 117 ?hg (N:=3) ?hd (xs:=([]:List (S117))) (inner:=[]) (ok:=fun _=>True) (okp:=fun _=>True) ?hr ?hp (fun _ hk=>hk) trivial (Below.refl _ _) (Nat.le_refl _) (by simp) ?_;(case hd=>rfl);(case hg=>rfl);(case hr=>first|(go_simp;done)|(go_simp;rfl));(case hp=>exact(Reps.none _ _));intro v582 w3 ho4 hb hg_ hnew_;clear hg_ hnew_;(first|rw[<-Ny581.out] at ho4|(simp only[Int.reduceToNat] at ho4;rw[<-Ny581.out] at ho4));have aG:=zA (Kd.R_lower ho4 (below_size zb));replace HB:=zbs hb;clear hb ho4)|((with_reducible refine gate_builtin (b:=.append) (xs:=#[.tmp 3,.tmp 4]) rfl ?_);at_builtin;refine Kd.R_append_rows k117 (w0:=w) w.heap.size rfl (.tmp 3) (.tmp 4) 40 117 (.agg #[(.int .i64 0),(.int .i64 0),(.int .i64 0),(.bool false)]) 32 rfl Try.underlying40 info117 rfl (by decide) (by omega) v582 aA l0 _ _ _ (fun _=>True) (fun _=>False) rfl rfl ?aO ?aR (fun _ _ h=>h) (fun _ h=>h.elim) ?aF ?aB ?aS ?aL ?_;(case aR=>repeat (first|exact(Kd.C_below aQ.out HB.out)|(with_reducible refine Kd.C_alloc ?_ _)|(with_reducible refine Kd.C_drewN ?_ _)|(with_reducible refine Kd.C_drew ?_)));(case aB=>exact zb);(case aF=>exact(fun _ _=>trivial));(case aO=>exact(zR aG));(case aS=>exact(below_size zb));(case aL=>have:=aM.out;omega);intro v585 w5 ho hb hg hat;rw[<-Ny584.out] at ho;replace HB:=zA hb;have aH:=zA ho;clear aG;clear ho hb hg hat))
 go_ret;exact⟨_,zE,zR aH,zb⟩

def Xv.f (a0_0:Int) (a0_1:Int) (l0_2:List (S117)) (l0_3:List Bool):Option (Int × Int × (List (S117)) × List Bool):=(X1w.f l0_2).bind fun t589=>((some (([]:List Bool):List Bool)).bind fun y592=>(if y592.length+l0_3.length<140737488355328 then(some (a0_0,a0_1,t589,(y592++l0_3))) else(none)))
def Xv.T1:Bool × List (List Nat × List Nat):=(true,[([],[]),([0],[0]),([],[]),([2],[2]),([],[]),([4],[4]),([5],[5]),([],[]),([],[]),([8],[8]),([7,9,6],[7,9]),([1,3,6,10],[1,3,6,10]),([11,10,0,1,2,3,4,5,6,7,8,9,10,11],[11])])
def Xv.B1:List Nat:=[0,1,0,4,0,16,48,0,0,256,1008,2047,4095]
theorem Xv.tab1:rtab .any (opsOf Try.f81 1)=Xv.T1:=by kernel_rfl
theorem Xv.bits1:waitsOk Xv.T1.2 Xv.B1=true:=by kernel_rfl
theorem Xv.calls (aN:Int) (aM:Int) (aU:Option Addr) (aT:Nat) (aI:List (S117)) (aW:Option Addr) (aV:Nat) (aH:List Bool) (r1:Int) (r2:Int) (r3:List (S117)) (r4:List Bool) (w:World) (bE:Kd.C k117 w aU aI.length aI) (bG:aI.length<=aT) (bD:Kd.C Kd.bool w aW aH.length aH) (bF:aH.length<=aV) (h:Xv.f aN aM aI aH=some (r1,r2,r3,r4)) :
  Calls Try.prog 81 #[.agg #[aN,aM,.slice aU aI.length aT,.slice aW aH.length aV]] w fun e w'=>∃ v2_ v3_:Value,e=.returned (.agg #[r1,r2,v2_,v3_])/\Kd.R k117 117 w' w.heap.size (fun _=>True) v2_ r3/\Kd.R Kd.bool 4 w' w.heap.size (fun _=>True) v3_ r4/\Below w.heap.size w w':=by
 have hu42:=Try.underlying42;have bH:=zA bE;have bJ:=zA bG;clear bE bG;have bN:=zA bD;have cL:=zA bF;clear bD bF;have HB:=zA (Below.refl w.heap.size w);have H:=h;clear h;unfold Xv.f at H;obtain⟨aX,A2,H⟩:=zB H;obtain⟨aZ,bB⟩:∃ y_:List Bool,y_=(([]:List Bool)):=⟨_,rfl⟩
 replace H:(if aZ.length+aH.length<140737488355328 then(some (aN,aM,aX,(aZ++aH))) else(none))=some (r1,r2,r3,r4):=zY bB H
 have Ny592:=zA bB;clear bB;obtain⟨bV,H⟩:=zifA H;obtain⟨bK,bA⟩:∃ y_:List Bool,y_=(aZ++aH):=⟨_,rfl⟩
 replace H:(some (aN,aM,aX,bK))=some (r1,r2,r3,r4):=zY bA H
 have Ny595:=zA bA;clear bA;simp only[Option.some.injEq,Prod.mk.injEq] at H;obtain⟨rfl,rfl,rfl,rfl⟩:=H;go_enter Try.func81,Try.ntmps81
 try go_wp2_with (first|((with_reducible refine zgd 1 rfl ?_);refine zbx 1 #[aN,aM,.slice aU aI.length aT,.slice aW aH.length aV] 42 ?_;intro aG hg w4 b' hb;have aA:=zA b';have cN:=zga (w:=w) hg;replace HB:=zbs hb;clear hb b' hg)|((with_reducible refine zgd 2 rfl ?_);refine zbx 2 #[.int .i64 0,.int .i64 0,.slice none 0 0,.slice none 0 0] 42 ?_;intro aE hg w5 b' hb;have aD:=zA b';have cM:=zga (w:=w) hg;replace HB:=zbs hb;replace aA:=zlh aA hg hb;obtain⟨aC,aQ,aA⟩:=aA;clear hb b' hg))
 replace aA:=zA (blk_drew aA.out);replace aD:=zA (blk_drew aD.out);replace HB:=zA (below_drew1 HB.out);refine start_ (n:=13) (S:=fun w'=>w'.cell? ⟨aG,0,none⟩=some (.int .i64 aN)/\w'.cell? ⟨aG,1,none⟩=some (.int .i64 aM)/\w'.cell? ⟨aG,2,none⟩=some (.slice aU aI.length aT)/\w'.cell? ⟨aG,3,none⟩=some (.slice aW aH.length aV)) (ds:=[]) _ (by kernel_rfl) rfl rfl ⟨zq aA 0,zq aA 1,zq aA 2,zq aA 3⟩ (fun h'=>?_);refine with_tabW Xv.tab1 Xv.bits1 (fun T_ W_=>?_);generalize w5.drew=w6 at aA aD HB h' ⊢;refine zp 0 3 T_ ?_;refine zp 2 5 T_ ?_;refine zp 4 7 T_ ?_;refine zp 8 11 T_ ?_;refine zt 1 4 T_ W_ h' ?_;refine zt 3 6 T_ W_ h' ?_;refine zt 5 8 T_ W_ h' ?_;refine zt 9 12 T_ W_ h' ?_;refine join_ (σ:=Value × Value) 3 #[true,true,true,true,true,true,true,true,true,true,false,false,false] (fun s_=>[(9,s_.1),(10,s_.2)]) (fun s_ w'=>(w'.cell? ⟨aG,0,none⟩=some (.int .i64 aN)/\w'.cell? ⟨aG,1,none⟩=some (.int .i64 aM)/\w'.cell? ⟨aG,2,none⟩=some (.slice aU aI.length aT)/\w'.cell? ⟨aG,3,none⟩=some (.slice aW aH.length aV))/\(Kd.R k117 117 w' w.heap.size (fun _=>True) s_.1 aX)/\(Kd.R Kd.bool 4 w' w.heap.size (fun _=>True) s_.2 aZ)/\(w'.heap[aG]?=some (.cells #[aN,aM,.slice aU aI.length aT,.slice aW aH.length aV] 42 (0,0)))/\(w'.heap[aE]?=some (.cells #[.int .i64 0,.int .i64 0,.slice none 0 0,.slice none 0 0] 42 (0,0)))/\(Below w.heap.size w w')) ?_ ?_;rotate_left
 ·intro hCont;refine two_ (i:=6) (j:=7) (Ni:=some 9) (Nj:=some 10) #[true,true,true,true,true,true,true,false,true,true,false,false,false] #[true,true,true,true,true,true,false,true,true,true,false,false,false] rfl rfl rfl rfl (two_of T_.out (by kernel_rfl)) (by decide) (by decide) (fun K hK=>?_) (fun K hK=>?_)
  ·skip
   refine zgo Try.func123 #[.slice aU aI.length aT] ?_
   refine(X1w.calls _ _ aI aX _ (zCb bH) bJ.out A2.out).mono ?_
   rintro e w7 ⟨v590,rfl,ho0,hb⟩;refine⟨_,rfl,?_⟩;have aK:=zA (Kd.R_lower ho0 (below_size zb));replace aA:=zkb aA hb;replace aD:=zkb aD hb;replace HB:=zbs hb;(try clear hb);(try clear ho0);refine hK.out _ _ ⟨zq aA 0,zq aA 1,zq aA 2,zq aA 3⟩ (fun h'=>?_);clear hK K;refine norm_ zV ?_;refine zo 7 10 T_ (fun K hK=>?_);refine Kd.R_lit_step Kd.bool _ 4 ?hg (N:=10) ?hd (xs:=([]:List Bool)) (inner:=[]) (ok:=fun _=>True) (okp:=fun _=>True) ?hr ?hp (fun _ hk=>hk) trivial (Below.refl _ _) (Nat.le_refl _) (by simp) ?_;(case hd=>rfl);(case hg=>rfl);(case hr=>first|(go_simp;done)|(go_simp;rfl));(case hp=>exact(Reps.none _ _));intro v593 w8 ho9 hb hg_ hnew_;clear hg_ hnew_;(first|rw[<-Ny592.out] at ho9|(simp only[Int.reduceToNat] at ho9;rw[<-Ny592.out] at ho9));replace aK:=zRb aK hb;have aJ:=zA (Kd.R_lower ho9 (below_size zb));replace aA:=zkb aA hb;replace aD:=zkb aD hb;replace HB:=zbs hb;clear hb ho9;refine hK.out _ _ ⟨zq aA 0,zq aA 1,zq aA 2,zq aA 3⟩ (fun h'=>?_);clear hK K;refine norm_ (a':=?_) ?_ ?_;rotate_left
   ·show Act.put _ (some 10) _=_
    simp only[Act.put,z1,z2,z3,i64_w,i32_w];rfl
   exact norm_ (by simp only[putAll,Act.put,z1,z2,z3]) (hCont (v590,v593) _ ⟨h',(zR aK),(zR aJ),(zk aA),(zk aD),zb⟩)
  ·skip
   refine Kd.R_lit_step Kd.bool _ 4 ?hg (N:=10) ?hd (xs:=([]:List Bool)) (inner:=[]) (ok:=fun _=>True) (okp:=fun _=>True) ?hr ?hp (fun _ hk=>hk) trivial (Below.refl _ _) (Nat.le_refl _) (by simp) ?_;(case hd=>rfl);(case hg=>rfl);(case hr=>first|(go_simp;done)|(go_simp;rfl));(case hp=>exact(Reps.none _ _));intro v593 w7 ho8 hb hg_ hnew_;clear hg_ hnew_;(first|rw[<-Ny592.out] at ho8|(simp only[Int.reduceToNat] at ho8;rw[<-Ny592.out] at ho8));have aJ:=zA (Kd.R_lower ho8 (below_size zb));replace aA:=zkb aA hb;replace aD:=zkb aD hb;replace HB:=zbs hb;clear hb ho8;refine hK.out _ _ ⟨zq aA 0,zq aA 1,zq aA 2,zq aA 3⟩ (fun h'=>?_);clear hK K;refine norm_ zV ?_;refine zo 6 9 T_ (fun K hK=>?_);refine zgo Try.func123 #[.slice aU aI.length aT] ?_
   refine(X1w.calls _ _ aI aX _ (zCb bH) bJ.out A2.out).mono ?_
   rintro e w9 ⟨v590,rfl,ho0,hb⟩;refine⟨_,rfl,?_⟩;replace aJ:=zRb aJ hb;have aK:=zA (Kd.R_lower ho0 (below_size zb));replace aA:=zkb aA hb;replace aD:=zkb aD hb;replace HB:=zbs hb;(try clear hb);(try clear ho0);refine hK.out _ _ ⟨zq aA 0,zq aA 1,zq aA 2,zq aA 3⟩ (fun h'=>?_);clear hK K;refine norm_ (a':=?_) ?_ ?_;rotate_left
   ·show Act.put _ (some 9) _=_
    simp only[Act.put,z1,z2,z3,i64_w,i32_w];rfl
   exact norm_ (by simp only[putAll,Act.put,z1,z2,z3]) (hCont (v590,v593) _ ⟨h',(zR aK),(zR aJ),(zk aA),(zk aD),zb⟩)
 rintro⟨v590,v593⟩ aY ⟨hS_,h0_,h1_,h2_,h3_,h4_⟩;have bS:Aside0 (Kd.R k117 117 aY w.heap.size (fun _=>True) v590 aX):=⟨h0_⟩;have bR:Aside0 (Kd.R Kd.bool 4 aY w.heap.size (fun _=>True) v593 aZ):=⟨h1_⟩;have bQ:Aside0 (aY.heap[aG]?=some (.cells #[aN,aM,.slice aU aI.length aT,.slice aW aH.length aV] 42 (0,0))):=⟨h2_⟩;have bP:Aside0 (aY.heap[aE]?=some (.cells #[.int .i64 0,.int .i64 0,.slice none 0 0,.slice none 0 0] 42 (0,0))):=⟨h3_⟩;have bO:Aside0 (Below w.heap.size w aY):=⟨h4_⟩;clear aA;clear aD;clear HB;clear h0_ h1_ h2_ h3_ h4_;have aK:=bS;have aJ:=bR;have aA:=bQ;have aD:=bP;have HB:=bO;clear bS bR bQ bP bO;have h':aY.cell? ⟨aG,0,none⟩=some (.int .i64 aN)/\aY.cell? ⟨aG,1,none⟩=some (.int .i64 aM)/\aY.cell? ⟨aG,2,none⟩=some (.slice aU aI.length aT)/\aY.cell? ⟨aG,3,none⟩=some (.slice aW aH.length aV):=hS_;refine norm_ (a':=?_) ?_ ?_;rotate_left
 ·simp only[putAll,Act.put,z1,z2,z3];rfl
 refine zo 10 13 T_ (fun K hK=>?_);refine Kd.R_append_rows_step Kd.bool (w0:=w) w.heap.size (by rfl) (.tmp 10) (.tmp 12) 29 4 (.bool false) 1 rfl Try.underlying29 info4 rfl (by decide) (by omega) v593 aZ aH _ _ _ (fun _=>True) (fun _=>False) rfl rfl ?aO ?aR (fun _ _ h=>h) (fun _ h=>h.elim) ?aF ?aB ?aS ?aL ?_;(case aR=>repeat (first|exact(Kd.C_below bN.out HB.out)|(with_reducible refine Kd.C_alloc ?_ _)|(with_reducible refine Kd.C_drewN ?_ _)|(with_reducible refine Kd.C_drew ?_)));(case aB=>exact zb);(case aF=>exact(fun _ _=>trivial));(case aO=>exact(zR aJ));(case aS=>exact(below_size zb));(case aL=>have:=bV.out;omega);intro v596 bC ho hb hg hat;rw[<-Ny595.out] at ho;replace aA:=zgr aA hg (Kd.R_ne aJ.out aA.out (by decide));replace aD:=zgr aD hg (Kd.R_ne aJ.out aD.out (by decide));replace aK:=zA (Kd.R_over' (zR aK) (Kd.R_typed (zR aJ)) (by decide) hg);replace HB:=zA hb;have bI:=zA ho;clear aJ;clear ho hb hg hat;obtain⟨bX,bU,bM⟩:=Kd.R_slice bI.out;(first|subst bM|(injection bM with f1_ f2_ f3_;have f4_:=f1_.symm;have f5_:=f3_.symm;clear f1_ f2_ f3_;subst f4_;subst f5_));obtain⟨bW,bT,bL⟩:=Kd.R_slice aK.out;(first|subst bL|(injection bL with f1_ f2_ f3_;have f4_:=f1_.symm;have f5_:=f3_.symm;clear f1_ f2_ f3_;subst f4_;subst f5_));refine hK.out _ _ ⟨zq aA 0,zq aA 1,zq aA 2,zq aA 3⟩ (fun h'=>?_);clear hK K;refine norm_ zV ?_;refine zp 11 14 T_ ?_;refine zon 12 T_ (fun K hK=>?_);have cT:bC.cell? ⟨aE,0,none⟩=some (.int .i64 0):=zq aD 0;have cK:=blk_frozen aD.out 0;have cB:=aC.out;have cF:=aQ.out;have cS:bC.cell? ⟨aE,1,none⟩=some (.int .i64 0):=zq aD 1;have cJ:=blk_frozen aD.out 1;have cA:=aC.out;have cE:=aQ.out;have cR:bC.cell? ⟨aE,2,none⟩=some (.slice none 0 0):=zq aD 2;have cI:=blk_frozen aD.out 2;have bZ:=aC.out;have cD:=aQ.out;have cQ:bC.cell? ⟨aE,3,none⟩=some (.slice none 0 0):=zq aD 3;have cH:=blk_frozen aD.out 3;have bY:=aC.out;have cC:=aQ.out;refine skip_ (w1:=?_) (by rfl) rfl ?_ ?_;rotate_left
 ·go_simp
  rfl
 refine hK.out _ _ ⟨((cell_far (p:=⟨aE,_,none⟩) aC.out _).trans (((cell_far (p:=⟨aE,_,none⟩) aC.out _).trans (((cell_far (p:=⟨aE,_,none⟩) aC.out _).trans (((cell_far (p:=⟨aE,_,none⟩) aC.out _).trans (h'.1)))))))),((cell_far (p:=⟨aE,_,none⟩) aC.out _).trans (((cell_far (p:=⟨aE,_,none⟩) aC.out _).trans (((cell_far (p:=⟨aE,_,none⟩) aC.out _).trans (((cell_far (p:=⟨aE,_,none⟩) aC.out _).trans (h'.2.1)))))))),((cell_far (p:=⟨aE,_,none⟩) aC.out _).trans (((cell_far (p:=⟨aE,_,none⟩) aC.out _).trans (((cell_far (p:=⟨aE,_,none⟩) aC.out _).trans (((cell_far (p:=⟨aE,_,none⟩) aC.out _).trans (h'.2.2.1)))))))),((cell_far (p:=⟨aE,_,none⟩) aC.out _).trans (((cell_far (p:=⟨aE,_,none⟩) aC.out _).trans (((cell_far (p:=⟨aE,_,none⟩) aC.out _).trans (((cell_far (p:=⟨aE,_,none⟩) aC.out _).trans (h'.2.2.2))))))))⟩ (fun h'=>?_);clear hK K;refine done_ (done_of T_.out (by kernel_rfl)) ?_
 try go_wp2
 refine bodyPost_ret (results_cell_row rfl _ _ aE 42 #[aN,aM,.slice bW aX.length bT,.slice bX bK.length bU] (0,0) _ rfl (zkp aD) Try.underlying42 rfl (by kernel_rfl)) rfl ?_;exact⟨_,_,zE,zF1 aK aD,zF1 bI aD,zb⟩

def XB.l0:Nat->Int->List (S117)->Int->Int->Option (Int)
  |0,_,_,_,_=>none
  |k+1,x3,x9,x10,x11=>if x11<x10 then(if 0<=x11 then(if x11<(x9.length:Int) then(XB.l0 k (wrap64 (x3+((rd_T117 x9 x11).f2))) x9 x10 (wrap64 (x11+1))) else(none)) else(none)) else(some x3)
def XB.f (k:Nat) (l0:List (S117)):Option (Int):=(X5.f k l0).bind fun t598=>(if t598=true then(XB.l0 k 0 l0 (l0.length:Int) 0) else(some 0))
theorem XB.calls (k:Nat) (A0:Option Addr) (c0:Nat) (l0:List (S117)) (r:Int) (w:World) (aT:Kd.C k117 w A0 l0.length l0) (aU:l0.length<=c0) (h:XB.f k l0=some r) :
  Calls Try.prog 146 #[.slice A0 l0.length c0] w fun e w'=>e=.returned (.int .i64 r)/\Below w.heap.size w w':=by
 have hu117:=Try.underlying117;have aK:=zA aT;have aV:=zA aU;clear aT aU;have HB:=zA (Below.refl w.heap.size w);have H:=h;clear h;unfold XB.f at H;obtain⟨aW,A2,H⟩:=zB H
 by_cases c3:aW=true
 ·subst c3;rw[if_pos rfl] at H;have H':=zA H;clear H;go_enter Try.func146,Try.ntmps146
  go_wp2_with (first|((with_reducible refine zgf 145 rfl ?_);refine zgl 7 Try.func145 #[.slice A0 l0.length c0] ?_;(refine(X5.calls k _ _ l0 true _ (zCx aK.out) aV.out A2.out).mono ?_);rintro e w4 ⟨rfl,hb⟩;refine⟨_,rfl,?_⟩;replace HB:=zbs hb;(try clear hb)))
  go_loopg [3,11] k (fun kq v3 v11 w'=>∃ (aI:Int) (aA:Int),v3=.int .i64 aI/\v11=.int .i64 aA/\Aside0 (XB.l0 kq aI l0 (l0.length:Int) aA=some r)/\Aside0 (kq<=k)/\Aside0 (Below w.heap.size w w'))
  case atStart=>exact⟨(0),(0),zr,zr,H',⟨Nat.le_refl _⟩,⟨zb⟩⟩
  case round =>
   clear H';(try clear c3);obtain⟨aI,aA,rfl,rfl,HA,HK1,HB⟩:=hrel
   cases gk with
   |zero=>exact absurd HA.out (by simp[XB.l0])
   |succ k1 =>
    have H:=HA.out;clear HA;simp only[XB.l0] at H
    by_cases c5:aA<(l0.length:Int)
    ·rw[if_pos c5] at H;have aY:=decide_eq_true c5;clear c5;obtain⟨bO,H⟩:=zifD H;obtain⟨bN,H⟩:=zifD H;have H':=zA H;clear H;have bM:=zT (0<=(aA:Int));have bL:=zT (aA<(l0.length:Int));obtain⟨bJ,aX,aH,aG,aE,aD⟩:=at_T117 aK.out aA zd zd;cases aX;replace aH:=zC HB aH;replace aG:=zC HB aG;replace aE:=zC HB aE;replace aD:=zC HB aD
     go_wp2_with (first|((with_reducible refine zgd 5 rfl ?_);refine zbx 5 #[.int .i64 0,.int .i64 0,.int .i64 0,.bool false] 117 ?_;intro bI hg w8 b' hb;have aN:=zA b';have bK:=zga (w:=w) hg;replace HB:=zbs hb;clear hb b' hg;obtain⟨bG,bF,bE,bD,bC,bB,bA,aZ⟩:=ze4 aN))
     go_roundg k1
     case measure=>have:=HK1.out;omega
     case rel=>exact⟨(wrap64 (aI+((rd_T117 l0 aA).f2))),(wrap64 (aA+1)),zr,zr,H',⟨by have:=HK1.out;omega⟩,⟨zb⟩⟩
    ·rw[if_neg c5] at H;have aY:=decide_eq_false c5;clear c5;obtain rfl:=zI H;go_wp2;go_ret;exact⟨zE,zb⟩
 ·replace c3:=zbq c3;subst c3;rw[if_neg zNo] at H;obtain rfl:=zI H;go_enter Try.func146,Try.ntmps146
  go_wp2_with (first|((with_reducible refine zgf 145 rfl ?_);refine zgl 7 Try.func145 #[.slice A0 l0.length c0] ?_;(refine(X5.calls k _ _ l0 false _ (zCx aK.out) aV.out A2.out).mono ?_);rintro e bP ⟨rfl,hb⟩;refine⟨_,rfl,?_⟩;replace HB:=zbs hb;(try clear hb)))
  go_ret;exact⟨zE,zb⟩

def Xd.f (k:Nat) (a0_0:Int) (a0_1:Int) (l0_2:List (S117)) (l0_3:List Bool):Option (Int × Int × (List (S117)) × List Bool × Bool):=(Xv.f a0_0 a0_1 l0_2 l0_3).bind fun bt603=>((X5.f k l0_2).bind fun t612=>(if t612=true then((XB.f k l0_2).bind fun t613=>(if a0_1<t613 then(some (bt603.1,bt603.2.1,bt603.2.2.1,bt603.2.2.2,false)) else((XB.f k l0_2).bind fun t614=>(some (bt603.1,wrap64 (bt603.2.1-t614),bt603.2.2.1,bt603.2.2.2,true))))) else(some (bt603.1,bt603.2.1,bt603.2.2.1,bt603.2.2.2,false))))
def Xd.T2:Bool × List (List Nat × List Nat):=(true,[([],[]),([0],[0]),([1],[1]),([2],[2]),([3,2],[3]),([4],[4]),([5,4],[4,5]),([4],[4]),([7,4],[4,7]),([8,4,4],[4,8]),([6,9,4],[4,6,9]),([4,10],[4,10])])
def Xd.B2:List Nat:=[0,1,3,7,15,31,63,31,159,415,1023,2047]
theorem Xd.tab2:rtab .any (opsOf Try.f124 2)=Xd.T2:=by kernel_rfl
theorem Xd.bits2:waitsOk Xd.T2.2 Xd.B2=true:=by kernel_rfl
def Xd.T4:Bool × List (List Nat × List Nat):=(true,[([],[]),([0],[0]),([],[]),([2],[2]),([3],[3]),([1,4],[1,4]),([0,1,2,3,4,5],[]),([6,5,4,0,1,2,3,4,5],[5,6])])
def Xd.B4:List Nat:=[0,1,0,4,12,31,63,127]
theorem Xd.tab4:rtab .any (opsOf Try.f124 4)=Xd.T4:=by kernel_rfl
theorem Xd.bits4:waitsOk Xd.T4.2 Xd.B4=true:=by kernel_rfl
theorem Xd.calls (k:Nat) (aX:Int) (aW:Int) (aV:Option Addr) (aU:Nat) (aK:List (S117)) (aZ:Option Addr) (aY:Nat) (aT:List Bool) (r1:Int) (r2:Int) (r3:List (S117)) (r4:List Bool) (r5:Bool) (w:World) (cI:Kd.C k117 w aV aK.length aK) (cK:aK.length<=aU) (cH:Kd.C Kd.bool w aZ aT.length aT) (cJ:aT.length<=aY) (h:Xd.f k aX aW aK aT=some (r1,r2,r3,r4,r5)) :
  Calls Try.prog 124 #[.agg #[aX,aW,.slice aV aK.length aU,.slice aZ aT.length aY]] w fun e w'=>∃ v2_ v3_:Value,e=.returned (.tuple #[.agg #[r1,r2,v2_,v3_],.bool r5])/\Kd.R k117 117 w' w.heap.size (fun _=>True) v2_ r3/\Kd.R Kd.bool 4 w' w.heap.size (fun _=>True) v3_ r4/\Below w.heap.size w w':=by
 have hu42:=Try.underlying42;have bG:=zA cI;have bH:=zA cK;clear cI cK;have cE:=zA cH;have cF:=zA cJ;clear cH cJ;have HB:=zA (Below.refl w.heap.size w);have H:=h;clear h;unfold Xd.f at H;obtain⟨⟨aN,aM,aJ,aI⟩,A2,H⟩:=zB H;obtain⟨cQ,A3,H⟩:=zB H
 by_cases c4:cQ=true
 ·subst c4;rw[if_pos rfl] at H;obtain⟨cG,A5,H⟩:=zB H
  by_cases c6:aW<cG
  ·rw[if_pos c6] at H;have cX:=decide_eq_true c6;clear c6;simp only[Option.some.injEq,Prod.mk.injEq] at H;obtain⟨rfl,rfl,rfl,rfl,rfl⟩:=H;go_enter Try.func124,Try.ntmps124
   try go_wp2_with (first|((with_reducible refine zgd 1 rfl ?_);refine zbx 1 #[aX,aW,.slice aV aK.length aU,.slice aZ aT.length aY] 42 ?_;intro aQ hg w7 b' hb;have aA:=zA b';have cN:=zga (w:=w) hg;replace HB:=zbs hb;clear hb b' hg)|((with_reducible refine zgd 2 rfl ?_);refine zbx 2 #[.int .i64 0,.int .i64 0,.slice none 0 0,.slice none 0 0] 42 ?_;intro bM hg w8 b' hb;have aD:=zA b';have cM:=zga (w:=w) hg;replace HB:=zbs hb;replace aA:=zlh aA hg hb;obtain⟨bF,bE,aA⟩:=aA;clear hb b' hg;have hY:=bF.out;have hX:=bE.out;obtain⟨gV,gU,gT,gS,eZ,eY,eX,eW⟩:=ze4 aA)|((with_reducible refine zgf 81 rfl ?_);refine zgl 6 Try.func81 #[.agg #[aX,aW,.slice aV aK.length aU,.slice aZ aT.length aY]] ?_;(refine(Xv.calls aX aW _ _ aK _ _ aT aN aM aJ aI _ (zCb bG) bH.out (zCb cE) cF.out A2.out).mono ?_);rintro e iN ⟨v606,v609,rfl,ho0,ho1,hb⟩;refine⟨_,rfl,?_⟩;have aH:=zA (Kd.R_lower ho0 (below_size zb));have aG:=zA (Kd.R_lower ho1 (below_size zb));replace aA:=zkb aA hb;replace aD:=zkb aD hb;replace HB:=zbs hb;(try clear hb);(try clear ho0);(try clear ho1))|((with_reducible refine zgd 4 rfl ?_);refine zbx 4 #[.int .i64 0,.int .i64 0,.slice none 0 0,.slice none 0 0] 42 ?_;intro aC hg cD b' hb;replace aH:=zRb aH hb;replace aG:=zRb aG hb;have aE:=zA b';have cL:=zga (w:=w) hg;replace HB:=zbs hb;replace aA:=zlh aA hg hb;obtain⟨bD,bB,aA⟩:=aA;replace aD:=zlh aD hg hb;obtain⟨bC,bA,aD⟩:=aD;clear hb b' hg;have hU:=bB.out;have hM:=bD.out;have hT:=bA.out;have hL:=bC.out;obtain⟨gR,gQ,gP,gO,eV,eU,eT,eS⟩:=ze4 aE;obtain⟨bU,bQ,cW⟩:=Kd.R_slice aH.out;subst cW;obtain⟨bT,bP,cV⟩:=Kd.R_slice aG.out;subst cV))
   have cA:Aside0 (Kd.R k117 117 ((((cD.setCell ⟨aC,0,none⟩ (.int .i64 aN)).setCell ⟨aC,1,none⟩ (.int .i64 aM)).setCell ⟨aC,2,none⟩ (.slice bU aJ.length bQ)).setCell ⟨aC,3,none⟩ (.slice bT aI.length bP)) w.heap.size (fun _=>True) (.slice bU aJ.length bQ) aJ):=⟨zF1 aH aE⟩;have bZ:Aside0 (Kd.R Kd.bool 4 ((((cD.setCell ⟨aC,0,none⟩ (.int .i64 aN)).setCell ⟨aC,1,none⟩ (.int .i64 aM)).setCell ⟨aC,2,none⟩ (.slice bU aJ.length bQ)).setCell ⟨aC,3,none⟩ (.slice bT aI.length bP)) w.heap.size (fun _=>True) (.slice bT aI.length bP) aI):=⟨zF1 aG aE⟩;have bY:Aside0 (((((cD.setCell ⟨aC,0,none⟩ (.int .i64 aN)).setCell ⟨aC,1,none⟩ (.int .i64 aM)).setCell ⟨aC,2,none⟩ (.slice bU aJ.length bQ)).setCell ⟨aC,3,none⟩ (.slice bT aI.length bP)).heap[aQ]?=some (.cells #[aX,aW,.slice aV aK.length aU,.slice aZ aT.length aY] 42 (0,0))):=⟨zkf aA⟩;have bX:Aside0 (((((cD.setCell ⟨aC,0,none⟩ (.int .i64 aN)).setCell ⟨aC,1,none⟩ (.int .i64 aM)).setCell ⟨aC,2,none⟩ (.slice bU aJ.length bQ)).setCell ⟨aC,3,none⟩ (.slice bT aI.length bP)).heap[bM]?=some (.cells #[.int .i64 0,.int .i64 0,.slice none 0 0,.slice none 0 0] 42 (0,0))):=⟨zkf aD⟩;have bW:Aside0 (((((cD.setCell ⟨aC,0,none⟩ (.int .i64 aN)).setCell ⟨aC,1,none⟩ (.int .i64 aM)).setCell ⟨aC,2,none⟩ (.slice bU aJ.length bQ)).setCell ⟨aC,3,none⟩ (.slice bT aI.length bP)).heap[aC]?=some (.cells #[aN,aM,.slice bU aJ.length bQ,.slice bT aI.length bP] 42 (0,0))):=⟨zkp aE⟩
   have bV:Aside0 (Below w.heap.size w ((((cD.setCell ⟨aC,0,none⟩ (.int .i64 aN)).setCell ⟨aC,1,none⟩ (.int .i64 aM)).setCell ⟨aC,2,none⟩ (.slice bU aJ.length bQ)).setCell ⟨aC,3,none⟩ (.slice bT aI.length bP))):=⟨zb⟩;(try clear aH aG aA aD aE HB);generalize ((((cD.setCell ⟨aC,0,none⟩ (.int .i64 aN)).setCell ⟨aC,1,none⟩ (.int .i64 aM)).setCell ⟨aC,2,none⟩ (.slice bU aJ.length bQ)).setCell ⟨aC,3,none⟩ (.slice bT aI.length bP))=hA at cA bZ bY bX bW bV ⊢;have aH:=cA;have aG:=bZ;have aA:=bY;have aD:=bX;have aE:=bW;have HB:=bV;clear cA bZ bY bX bW bV;replace aH:=zA (Kd.R_drew aH.out);replace aG:=zA (Kd.R_drew aG.out);replace aA:=zA (blk_drew aA.out);replace aD:=zA (blk_drew aD.out);replace aE:=zA (blk_drew aE.out);replace HB:=zA (below_drew1 HB.out);refine start_ (n:=12) (S:=fun w'=>w'.cell? ⟨aQ,0,none⟩=some (.int .i64 aX)/\w'.cell? ⟨aQ,1,none⟩=some (.int .i64 aW)/\w'.cell? ⟨aQ,2,none⟩=some (.slice aV aK.length aU)/\w'.cell? ⟨aQ,3,none⟩=some (.slice aZ aT.length aY)) (ds:=[]) _ (by kernel_rfl) rfl rfl ⟨zq aA 0,zq aA 1,zq aA 2,zq aA 3⟩ (fun h'=>?_);refine with_tabW Xd.tab2 Xd.bits2 (fun T_ W_=>?_);generalize hA.drew=iM at aH aG aA aD aE HB h' ⊢;refine zp 0 7 T_ ?_;refine zt 1 8 T_ W_ h' ?_;refine zo 2 9 T_ (fun K hK=>?_);refine zgo Try.func145 #[.slice aV aK.length aU] ?_
   refine(X5.calls k _ _ aK true _ (zCb bG) bH.out A3.out).mono ?_
   rintro e iL ⟨rfl,hb⟩;refine⟨_,rfl,?_⟩;replace aH:=zRb aH hb;replace aG:=zRb aG hb;replace aA:=zkb aA hb;replace aD:=zkb aD hb;replace aE:=zkb aE hb;replace HB:=zbs hb;(try clear hb);refine hK.out _ _ ⟨zq aA 0,zq aA 1,zq aA 2,zq aA 3⟩ (fun h'=>?_);clear hK K;refine norm_ zV ?_;refine zp 3 10 T_ ?_;refine zp 4 11 T_ ?_;refine zp 5 12 T_ ?_;refine zp 7 14 T_ ?_;refine zt 6 13 T_ W_ h' ?_;refine zt 8 15 T_ W_ h' ?_;refine zo 9 16 T_ (fun K hK=>?_);refine zgo Try.func146 #[.slice aV aK.length aU] ?_
   refine(XB.calls k _ _ aK cG _ (zCb bG) bH.out A5.out).mono ?_
   rintro e iK ⟨rfl,hb⟩;refine⟨_,rfl,?_⟩;replace aH:=zRb aH hb;replace aG:=zRb aG hb;replace aA:=zkb aA hb;replace aD:=zkb aD hb;replace aE:=zkb aE hb;replace HB:=zbs hb;(try clear hb);refine hK.out _ _ ⟨zq aA 0,zq aA 1,zq aA 2,zq aA 3⟩ (fun h'=>?_);clear hK K;refine norm_ zV ?_;refine zp 10 17 T_ ?_;refine zp 11 18 T_ ?_;refine done_ (done_of T_.out (by kernel_rfl)) ?_;obtain⟨gN,gM,gL,gK,eR,eQ,eP,eO⟩:=ze4 aE;obtain⟨gJ,gI,gH,gG,eN,eM,eL,eK⟩:=ze4 aD
   try go_wp2
   refine bodyPost_ret (results_ct rfl _ _ bM 42 #[aN,aM,.slice bU aJ.length bQ,.slice bT aI.length bP] (0,0) _ rfl (zkp aD) Try.underlying42 rfl (by kernel_rfl)) rfl ?_;exact⟨_,_,zE,zF1 aH aD,zF1 aG aD,zb⟩
  ·rw[if_neg c6] at H;have cX:=decide_eq_false c6;clear c6;obtain⟨cO,hD,H⟩:=zB H;simp only[Option.some.injEq,Prod.mk.injEq] at H;obtain⟨rfl,rfl,rfl,rfl,rfl⟩:=H;go_enter Try.func124,Try.ntmps124
   try go_wp2_with (first|((with_reducible refine zgd 1 rfl ?_);refine zbx 1 #[aX,aW,.slice aV aK.length aU,.slice aZ aT.length aY] 42 ?_;intro aQ hg iJ b' hb;have aA:=zA b';have cN:=zga (w:=w) hg;replace HB:=zbs hb;clear hb b' hg)|((with_reducible refine zgd 2 rfl ?_);refine zbx 2 #[.int .i64 0,.int .i64 0,.slice none 0 0,.slice none 0 0] 42 ?_;intro bM hg iI b' hb;have aD:=zA b';have cM:=zga (w:=w) hg;replace HB:=zbs hb;replace aA:=zlh aA hg hb;obtain⟨bF,bE,aA⟩:=aA;clear hb b' hg;have hS:=bF.out;have hJ:=bE.out;obtain⟨gF,gE,gD,gC,eJ,eI,eH,eG⟩:=ze4 aA)|((with_reducible refine zgf 81 rfl ?_);refine zgl 6 Try.func81 #[.agg #[aX,aW,.slice aV aK.length aU,.slice aZ aT.length aY]] ?_;(refine(Xv.calls aX aW _ _ aK _ _ aT aN aM aJ aI _ (zCb bG) bH.out (zCb cE) cF.out A2.out).mono ?_);rintro e iH ⟨v606,v609,rfl,ho0,ho1,hb⟩;refine⟨_,rfl,?_⟩;have aH:=zA (Kd.R_lower ho0 (below_size zb));have aG:=zA (Kd.R_lower ho1 (below_size zb));replace aA:=zkb aA hb;replace aD:=zkb aD hb;replace HB:=zbs hb;(try clear hb);(try clear ho0);(try clear ho1))|((with_reducible refine zgd 4 rfl ?_);refine zbx 4 #[.int .i64 0,.int .i64 0,.slice none 0 0,.slice none 0 0] 42 ?_;intro aC hg cC b' hb;replace aH:=zRb aH hb;replace aG:=zRb aG hb;have aE:=zA b';have cL:=zga (w:=w) hg;replace HB:=zbs hb;replace aA:=zlh aA hg hb;obtain⟨bD,bB,aA⟩:=aA;replace aD:=zlh aD hg hb;obtain⟨bC,bA,aD⟩:=aD;clear hb b' hg;have hR:=bB.out;have hI:=bD.out;have hQ:=bA.out;have hH:=bC.out;obtain⟨gB,gA,fZ,fY,eF,eE,eD,eC⟩:=ze4 aE;obtain⟨bL,bJ,cU⟩:=Kd.R_slice aH.out;subst cU;obtain⟨bK,bI,cT⟩:=Kd.R_slice aG.out;subst cT))
   have cA:Aside0 (Kd.R k117 117 ((((cC.setCell ⟨aC,0,none⟩ (.int .i64 aN)).setCell ⟨aC,1,none⟩ (.int .i64 aM)).setCell ⟨aC,2,none⟩ (.slice bL aJ.length bJ)).setCell ⟨aC,3,none⟩ (.slice bK aI.length bI)) w.heap.size (fun _=>True) (.slice bL aJ.length bJ) aJ):=⟨zF1 aH aE⟩;have bZ:Aside0 (Kd.R Kd.bool 4 ((((cC.setCell ⟨aC,0,none⟩ (.int .i64 aN)).setCell ⟨aC,1,none⟩ (.int .i64 aM)).setCell ⟨aC,2,none⟩ (.slice bL aJ.length bJ)).setCell ⟨aC,3,none⟩ (.slice bK aI.length bI)) w.heap.size (fun _=>True) (.slice bK aI.length bI) aI):=⟨zF1 aG aE⟩;have bY:Aside0 (((((cC.setCell ⟨aC,0,none⟩ (.int .i64 aN)).setCell ⟨aC,1,none⟩ (.int .i64 aM)).setCell ⟨aC,2,none⟩ (.slice bL aJ.length bJ)).setCell ⟨aC,3,none⟩ (.slice bK aI.length bI)).heap[aQ]?=some (.cells #[aX,aW,.slice aV aK.length aU,.slice aZ aT.length aY] 42 (0,0))):=⟨zkf aA⟩;have bX:Aside0 (((((cC.setCell ⟨aC,0,none⟩ (.int .i64 aN)).setCell ⟨aC,1,none⟩ (.int .i64 aM)).setCell ⟨aC,2,none⟩ (.slice bL aJ.length bJ)).setCell ⟨aC,3,none⟩ (.slice bK aI.length bI)).heap[bM]?=some (.cells #[.int .i64 0,.int .i64 0,.slice none 0 0,.slice none 0 0] 42 (0,0))):=⟨zkf aD⟩;have bW:Aside0 (((((cC.setCell ⟨aC,0,none⟩ (.int .i64 aN)).setCell ⟨aC,1,none⟩ (.int .i64 aM)).setCell ⟨aC,2,none⟩ (.slice bL aJ.length bJ)).setCell ⟨aC,3,none⟩ (.slice bK aI.length bI)).heap[aC]?=some (.cells #[aN,aM,.slice bL aJ.length bJ,.slice bK aI.length bI] 42 (0,0))):=⟨zkp aE⟩
   have bV:Aside0 (Below w.heap.size w ((((cC.setCell ⟨aC,0,none⟩ (.int .i64 aN)).setCell ⟨aC,1,none⟩ (.int .i64 aM)).setCell ⟨aC,2,none⟩ (.slice bL aJ.length bJ)).setCell ⟨aC,3,none⟩ (.slice bK aI.length bI))):=⟨zb⟩;(try clear aH aG aA aD aE HB);generalize ((((cC.setCell ⟨aC,0,none⟩ (.int .i64 aN)).setCell ⟨aC,1,none⟩ (.int .i64 aM)).setCell ⟨aC,2,none⟩ (.slice bL aJ.length bJ)).setCell ⟨aC,3,none⟩ (.slice bK aI.length bI))=gZ at cA bZ bY bX bW bV ⊢;have aH:=cA;have aG:=bZ;have aA:=bY;have aD:=bX;have aE:=bW;have HB:=bV;clear cA bZ bY bX bW bV;replace aH:=zA (Kd.R_drew aH.out);replace aG:=zA (Kd.R_drew aG.out);replace aA:=zA (blk_drew aA.out);replace aD:=zA (blk_drew aD.out);replace aE:=zA (blk_drew aE.out);replace HB:=zA (below_drew1 HB.out);refine start_ (n:=12) (S:=fun w'=>w'.cell? ⟨aQ,0,none⟩=some (.int .i64 aX)/\w'.cell? ⟨aQ,1,none⟩=some (.int .i64 aW)/\w'.cell? ⟨aQ,2,none⟩=some (.slice aV aK.length aU)/\w'.cell? ⟨aQ,3,none⟩=some (.slice aZ aT.length aY)) (ds:=[]) _ (by kernel_rfl) rfl rfl ⟨zq aA 0,zq aA 1,zq aA 2,zq aA 3⟩ (fun h'=>?_);refine with_tabW Xd.tab2 Xd.bits2 (fun T_ W_=>?_);generalize gZ.drew=iG at aH aG aA aD aE HB h' ⊢;refine zp 0 7 T_ ?_;refine zt 1 8 T_ W_ h' ?_;refine zo 2 9 T_ (fun K hK=>?_);refine zgo Try.func145 #[.slice aV aK.length aU] ?_
   refine(X5.calls k _ _ aK true _ (zCb bG) bH.out A3.out).mono ?_
   rintro e iF ⟨rfl,hb⟩;refine⟨_,rfl,?_⟩;replace aH:=zRb aH hb;replace aG:=zRb aG hb;replace aA:=zkb aA hb;replace aD:=zkb aD hb;replace aE:=zkb aE hb;replace HB:=zbs hb;(try clear hb);refine hK.out _ _ ⟨zq aA 0,zq aA 1,zq aA 2,zq aA 3⟩ (fun h'=>?_);clear hK K;refine norm_ zV ?_;refine zp 3 10 T_ ?_;refine zp 4 11 T_ ?_;refine zp 5 12 T_ ?_;refine zp 7 14 T_ ?_;refine zt 6 13 T_ W_ h' ?_;refine zt 8 15 T_ W_ h' ?_;refine zo 9 16 T_ (fun K hK=>?_);refine zgo Try.func146 #[.slice aV aK.length aU] ?_
   refine(XB.calls k _ _ aK cG _ (zCb bG) bH.out A5.out).mono ?_
   rintro e gY ⟨rfl,hb⟩;refine⟨_,rfl,?_⟩;replace aH:=zRb aH hb;replace aG:=zRb aG hb;replace aA:=zkb aA hb;replace aD:=zkb aD hb;replace aE:=zkb aE hb;replace HB:=zbs hb;(try clear hb);refine hK.out _ _ ⟨zq aA 0,zq aA 1,zq aA 2,zq aA 3⟩ (fun h'=>?_);clear hK K;refine norm_ zV ?_;refine zp 10 17 T_ ?_;refine zp 11 18 T_ ?_;refine done_ (done_of T_.out (by kernel_rfl)) ?_
   try go_wp2
   replace aH:=zA (Kd.R_drew aH.out);replace aG:=zA (Kd.R_drew aG.out);replace aA:=zA (blk_drew aA.out);replace aD:=zA (blk_drew aD.out);replace aE:=zA (blk_drew aE.out);replace HB:=zA (below_drew1 HB.out);refine start_ (n:=8) (S:=fun w'=>w'.cell? ⟨aC,0,none⟩=some (.int .i64 aN)/\w'.cell? ⟨aC,1,none⟩=some (.int .i64 aM)/\w'.cell? ⟨aC,2,none⟩=some (.slice bL aJ.length bJ)/\w'.cell? ⟨aC,3,none⟩=some (.slice bK aI.length bI)/\w'.cell? ⟨aQ,0,none⟩=some (.int .i64 aX)/\w'.cell? ⟨aQ,1,none⟩=some (.int .i64 aW)/\w'.cell? ⟨aQ,2,none⟩=some (.slice aV aK.length aU)/\w'.cell? ⟨aQ,3,none⟩=some (.slice aZ aT.length aY)) (ds:=[7]) #[false,false,false,false,false,false,false,false] (by kernel_rfl) rfl rfl ⟨zq aE 0,zq aE 1,zq aE 2,zq aE 3,zq aA 0,zq aA 1,zq aA 2,zq aA 3⟩ (fun h'=>?_);refine with_tabW Xd.tab4 Xd.bits4 (fun T_ W_=>?_);generalize gY.drew=iE at aH aG aA aD aE HB h' ⊢;refine zp 0 20 T_ ?_;refine zp 2 22 T_ ?_;refine zt 1 21 T_ W_ h' ?_;refine zt 3 23 T_ W_ h' ?_;refine zo 4 24 T_ (fun K hK=>?_);refine zgo Try.func146 #[.slice aV aK.length aU] ?_
   refine(XB.calls k _ _ aK cO _ (zCb bG) bH.out hD.out).mono ?_
   rintro e gX ⟨rfl,hb⟩;refine⟨_,rfl,?_⟩;replace aH:=zRb aH hb;replace aG:=zRb aG hb;replace aA:=zkb aA hb;replace aD:=zkb aD hb;replace aE:=zkb aE hb;replace HB:=zbs hb;(try clear hb);refine hK.out _ _ ⟨zq aE 0,zq aE 1,zq aE 2,zq aE 3,zq aA 0,zq aA 1,zq aA 2,zq aA 3⟩ (fun h'=>?_);clear hK K;refine norm_ zV ?_;refine zp 5 25 T_ ?_;refine zp 6 26 T_ ?_;refine last_ (i:=7) (N:=none) #[true,true,true,true,true,true,true,true] rfl rfl (one_of T_.out (by kernel_rfl)) (by decide) (fun K hK=>?_);have hW:gX.cell? ⟨aC,1,none⟩=some (.int .i64 aM):=zq aE 1;have hV:=blk_frozen aE.out 1;have dB:=bD.out;have dA:=bC.out;have dD:=bB.out;have dC:=bA.out;refine skip_ (w1:=?_) (by rfl) rfl ?_ ?_;rotate_left
   ·go_simp
    rfl
   refine hK.out _ _ ?_;clear hK K;refine done_ (done_of T_.out (by kernel_rfl)) ?_;obtain⟨fX,fW,fV,fU,eB,eA,dZ,dY⟩:=ze4 aE;obtain⟨fT,fS,fR,fQ,dX,dW,dV,dU⟩:=ze4 aD
   try go_wp2
   refine bodyPost_ret (results_ct rfl _ _ bM 42 #[aN,.int .i64 (wrap64 (aM-cO)),.slice bL aJ.length bJ,.slice bK aI.length bI] (0,0) _ rfl (zkp aD) Try.underlying42 rfl (by kernel_rfl)) rfl ?_;exact⟨_,_,zE,zF2 aH aE aD,zF2 aG aE aD,zb⟩
 ·replace c4:=zbq c4;subst c4;rw[if_neg zNo] at H;simp only[Option.some.injEq,Prod.mk.injEq] at H;obtain⟨rfl,rfl,rfl,rfl,rfl⟩:=H;go_enter Try.func124,Try.ntmps124
  try go_wp2_with (first|((with_reducible refine zgd 1 rfl ?_);refine zbx 1 #[aX,aW,.slice aV aK.length aU,.slice aZ aT.length aY] 42 ?_;intro aQ hg iD b' hb;have aA:=zA b';have cN:=zga (w:=w) hg;replace HB:=zbs hb;clear hb b' hg)|((with_reducible refine zgd 2 rfl ?_);refine zbx 2 #[.int .i64 0,.int .i64 0,.slice none 0 0,.slice none 0 0] 42 ?_;intro bM hg iC b' hb;have aD:=zA b';have cM:=zga (w:=w) hg;replace HB:=zbs hb;replace aA:=zlh aA hg hb;obtain⟨bF,bE,aA⟩:=aA;clear hb b' hg;have hP:=bF.out;have hG:=bE.out;obtain⟨fP,fO,fN,fM,dT,dS,dR,dQ⟩:=ze4 aA)|((with_reducible refine zgf 81 rfl ?_);refine zgl 6 Try.func81 #[.agg #[aX,aW,.slice aV aK.length aU,.slice aZ aT.length aY]] ?_;(refine(Xv.calls aX aW _ _ aK _ _ aT aN aM aJ aI _ (zCb bG) bH.out (zCb cE) cF.out A2.out).mono ?_);rintro e iB ⟨v606,v609,rfl,ho0,ho1,hb⟩;refine⟨_,rfl,?_⟩;have aH:=zA (Kd.R_lower ho0 (below_size zb));have aG:=zA (Kd.R_lower ho1 (below_size zb));replace aA:=zkb aA hb;replace aD:=zkb aD hb;replace HB:=zbs hb;(try clear hb);(try clear ho0);(try clear ho1))|((with_reducible refine zgd 4 rfl ?_);refine zbx 4 #[.int .i64 0,.int .i64 0,.slice none 0 0,.slice none 0 0] 42 ?_;intro aC hg cB b' hb;replace aH:=zRb aH hb;replace aG:=zRb aG hb;have aE:=zA b';have cL:=zga (w:=w) hg;replace HB:=zbs hb;replace aA:=zlh aA hg hb;obtain⟨bD,bB,aA⟩:=aA;replace aD:=zlh aD hg hb;obtain⟨bC,bA,aD⟩:=aD;clear hb b' hg;have hO:=bB.out;have hF:=bD.out;have hN:=bA.out;have hE:=bC.out;obtain⟨fL,fK,fJ,fI,dP,dO,dN,dM⟩:=ze4 aE;obtain⟨bS,bO,cS⟩:=Kd.R_slice aH.out;subst cS;obtain⟨bR,bN,cR⟩:=Kd.R_slice aG.out;subst cR))
  have cA:Aside0 (Kd.R k117 117 ((((cB.setCell ⟨aC,0,none⟩ (.int .i64 aN)).setCell ⟨aC,1,none⟩ (.int .i64 aM)).setCell ⟨aC,2,none⟩ (.slice bS aJ.length bO)).setCell ⟨aC,3,none⟩ (.slice bR aI.length bN)) w.heap.size (fun _=>True) (.slice bS aJ.length bO) aJ):=⟨zF1 aH aE⟩;have bZ:Aside0 (Kd.R Kd.bool 4 ((((cB.setCell ⟨aC,0,none⟩ (.int .i64 aN)).setCell ⟨aC,1,none⟩ (.int .i64 aM)).setCell ⟨aC,2,none⟩ (.slice bS aJ.length bO)).setCell ⟨aC,3,none⟩ (.slice bR aI.length bN)) w.heap.size (fun _=>True) (.slice bR aI.length bN) aI):=⟨zF1 aG aE⟩;have bY:Aside0 (((((cB.setCell ⟨aC,0,none⟩ (.int .i64 aN)).setCell ⟨aC,1,none⟩ (.int .i64 aM)).setCell ⟨aC,2,none⟩ (.slice bS aJ.length bO)).setCell ⟨aC,3,none⟩ (.slice bR aI.length bN)).heap[aQ]?=some (.cells #[aX,aW,.slice aV aK.length aU,.slice aZ aT.length aY] 42 (0,0))):=⟨zkf aA⟩;have bX:Aside0 (((((cB.setCell ⟨aC,0,none⟩ (.int .i64 aN)).setCell ⟨aC,1,none⟩ (.int .i64 aM)).setCell ⟨aC,2,none⟩ (.slice bS aJ.length bO)).setCell ⟨aC,3,none⟩ (.slice bR aI.length bN)).heap[bM]?=some (.cells #[.int .i64 0,.int .i64 0,.slice none 0 0,.slice none 0 0] 42 (0,0))):=⟨zkf aD⟩;have bW:Aside0 (((((cB.setCell ⟨aC,0,none⟩ (.int .i64 aN)).setCell ⟨aC,1,none⟩ (.int .i64 aM)).setCell ⟨aC,2,none⟩ (.slice bS aJ.length bO)).setCell ⟨aC,3,none⟩ (.slice bR aI.length bN)).heap[aC]?=some (.cells #[aN,aM,.slice bS aJ.length bO,.slice bR aI.length bN] 42 (0,0))):=⟨zkp aE⟩
  have bV:Aside0 (Below w.heap.size w ((((cB.setCell ⟨aC,0,none⟩ (.int .i64 aN)).setCell ⟨aC,1,none⟩ (.int .i64 aM)).setCell ⟨aC,2,none⟩ (.slice bS aJ.length bO)).setCell ⟨aC,3,none⟩ (.slice bR aI.length bN))):=⟨zb⟩;(try clear aH aG aA aD aE HB);generalize ((((cB.setCell ⟨aC,0,none⟩ (.int .i64 aN)).setCell ⟨aC,1,none⟩ (.int .i64 aM)).setCell ⟨aC,2,none⟩ (.slice bS aJ.length bO)).setCell ⟨aC,3,none⟩ (.slice bR aI.length bN))=gW at cA bZ bY bX bW bV ⊢;have aH:=cA;have aG:=bZ;have aA:=bY;have aD:=bX;have aE:=bW;have HB:=bV;clear cA bZ bY bX bW bV;replace aH:=zA (Kd.R_drew aH.out);replace aG:=zA (Kd.R_drew aG.out);replace aA:=zA (blk_drew aA.out);replace aD:=zA (blk_drew aD.out);replace aE:=zA (blk_drew aE.out);replace HB:=zA (below_drew1 HB.out);refine start_ (n:=12) (S:=fun w'=>w'.cell? ⟨aQ,0,none⟩=some (.int .i64 aX)/\w'.cell? ⟨aQ,1,none⟩=some (.int .i64 aW)/\w'.cell? ⟨aQ,2,none⟩=some (.slice aV aK.length aU)/\w'.cell? ⟨aQ,3,none⟩=some (.slice aZ aT.length aY)) (ds:=[]) _ (by kernel_rfl) rfl rfl ⟨zq aA 0,zq aA 1,zq aA 2,zq aA 3⟩ (fun h'=>?_);refine with_tabW Xd.tab2 Xd.bits2 (fun T_ W_=>?_);generalize gW.drew=iA at aH aG aA aD aE HB h' ⊢;refine zp 0 7 T_ ?_;refine zt 1 8 T_ W_ h' ?_;refine zo 2 9 T_ (fun K hK=>?_);refine zgo Try.func145 #[.slice aV aK.length aU] ?_
  refine(X5.calls k _ _ aK false _ (zCb bG) bH.out A3.out).mono ?_
  rintro e hZ ⟨rfl,hb⟩;refine⟨_,rfl,?_⟩;replace aH:=zRb aH hb;replace aG:=zRb aG hb;replace aA:=zkb aA hb;replace aD:=zkb aD hb;replace aE:=zkb aE hb;replace HB:=zbs hb;(try clear hb);refine hK.out _ _ ⟨zq aA 0,zq aA 1,zq aA 2,zq aA 3⟩ (fun h'=>?_);clear hK K;refine norm_ zV ?_;refine zp 3 10 T_ ?_;refine zp 4 11 T_ ?_;refine zu 5 12 T_ ?_;refine zu 6 13 T_ ?_;refine zu 7 14 T_ ?_;refine zu 8 15 T_ ?_;refine zu 9 16 T_ ?_;refine zu 10 17 T_ ?_;refine zp 11 18 T_ ?_;refine done_ (done_of T_.out (by kernel_rfl)) ?_;obtain⟨fH,fG,fF,fE,dL,dK,dJ,dI⟩:=ze4 aE;obtain⟨fD,fC,fB,fA,dH,dG,dF,dE⟩:=ze4 aD
  try go_wp2
  refine bodyPost_ret (results_ct rfl _ _ bM 42 #[aN,aM,.slice bS aJ.length bO,.slice bR aI.length bN] (0,0) _ rfl (zkp aD) Try.underlying42 rfl (by kernel_rfl)) rfl ?_;exact⟨_,_,zE,zF1 aH aD,zF1 aG aD,zb⟩

def X15.f (l0:List Bool) (a1:Bool):Option (List Bool):=(some (([]:List Bool):List Bool)).bind fun y615=>(if y615.length+l0.length<140737488355328 then((some (y615++l0:List Bool)).bind fun y618=>(if y618.length<140737488355328 then((some (([]:List Bool):List Bool)).bind fun y624=>((XA.f (y618++[a1]) 10).bind fun t627=>(if y624.length+t627.length<140737488355328 then(some (y624++t627)) else(none)))) else(none))) else(none))
theorem X15.calls (A0:Option Addr) (c0:Nat) (l0:List Bool) (a1:Bool) (r:List Bool) (w:World) (bB:Kd.C Kd.bool w A0 l0.length l0) (bC:l0.length<=c0) (h:X15.f l0 a1=some r) :
  Calls Try.prog 125 #[.slice A0 l0.length c0,.bool a1] w fun e w'=>∃ v0_:Value,e=.returned (v0_)/\Kd.R Kd.bool 4 w' w.heap.size (fun _=>True) v0_ r/\Below w.heap.size w w':=by
 have bM:=zA bB;have bT:=zA bC;clear bB bC;have HB:=zA (Below.refl w.heap.size w);have H:=h;clear h;unfold X15.f at H;obtain⟨aJ,aU⟩:∃ y_:List Bool,y_=(([]:List Bool)):=⟨_,rfl⟩
 replace H:(if aJ.length+l0.length<140737488355328 then((some (aJ++l0:List Bool)).bind fun aG=>(if aG.length<140737488355328 then((some (([]:List Bool):List Bool)).bind fun aC=>((XA.f (aG++[a1]) 10).bind fun aA=>(if aC.length+aA.length<140737488355328 then(some (aC++aA)) else(none)))) else(none))) else(none))=some r:=zY aU H
 have Ny615:=zA aU;clear aU;obtain⟨bJ,H⟩:=zifA H;obtain⟨aG,aT⟩:∃ y_:List Bool,y_=(aJ++l0):=⟨_,rfl⟩
 replace H:(if aG.length<140737488355328 then((some (([]:List Bool):List Bool)).bind fun aC=>((XA.f (aG++[a1]) 10).bind fun aA=>(if aC.length+aA.length<140737488355328 then(some (aC++aA)) else(none)))) else(none))=some r:=zY aT H
 have Ny618:=zA aT;clear aT;obtain⟨bI,H⟩:=zifA H;obtain⟨aI,aQ⟩:∃ y_:List Bool,y_=(aG++[a1]):=⟨_,rfl⟩
 replace H:((some (([]:List Bool):List Bool)).bind fun aC=>((XA.f aI 10).bind fun aA=>(if aC.length+aA.length<140737488355328 then(some (aC++aA)) else(none))))=some r:=zY aQ H
 have Ny621:=zA aQ;clear aQ;obtain⟨aC,aN⟩:∃ y_:List Bool,y_=(([]:List Bool)):=⟨_,rfl⟩
 replace H:((XA.f aI 10).bind fun aA=>(if aC.length+aA.length<140737488355328 then(some (aC++aA)) else(none)))=some r:=zY aN H
 have Ny624:=zA aN;clear aN;obtain⟨aA,A5,H⟩:=zB H;obtain⟨bH,H⟩:=zifA H;obtain⟨bD,aM⟩:∃ y_:List Bool,y_=(aC++aA):=⟨_,rfl⟩
 replace H:(some bD)=some r:=zY aM H
 have Ny630:=zA aM;clear aM;obtain rfl:=zI H;go_enter Try.func125,Try.ntmps125
 go_wp2_with (first|((with_reducible refine zgd 6 rfl ?_);refine Kd.R_lit Kd.bool _ 4 ?hg (N:=6) ?hd (xs:=([]:List Bool)) (inner:=[]) (ok:=fun _=>True) (okp:=fun _=>True) ?hr ?hp (fun _ hk=>hk) trivial (Below.refl _ _) (Nat.le_refl _) (by simp) ?_;(case hd=>rfl);(case hg=>rfl);(case hr=>first|(go_simp;done)|(go_simp;rfl));(case hp=>exact(Reps.none _ _));intro v616 w7 ho8 hb hg_ hnew_;clear hg_ hnew_;(first|rw[<-Ny615.out] at ho8|(simp only[Int.reduceToNat] at ho8;rw[<-Ny615.out] at ho8));have aZ:=zA (Kd.R_lower ho8 (below_size zb));replace HB:=zbs hb;clear hb ho8)|((with_reducible refine gate_builtin (b:=.append) (xs:=#[.tmp 6,.tmp 7]) rfl ?_);at_builtin;refine Kd.R_append_rows Kd.bool (w0:=w) w.heap.size rfl (.tmp 6) (.tmp 7) 29 4 (.bool false) 1 rfl Try.underlying29 info4 rfl (by decide) (by omega) v616 aJ l0 _ _ _ (fun _=>True) (fun _=>False) rfl rfl ?aO ?aR (fun _ _ h=>h) (fun _ h=>h.elim) ?aF ?aB ?aS ?aL ?_;(case aR=>repeat (first|exact(Kd.C_below bM.out HB.out)|(with_reducible refine Kd.C_alloc ?_ _)|(with_reducible refine Kd.C_drewN ?_ _)|(with_reducible refine Kd.C_drew ?_)));(case aB=>exact zb);(case aF=>exact(fun _ _=>trivial));(case aO=>exact(zR aZ));(case aS=>exact(below_size zb));(case aL=>have:=bJ.out;omega);intro v619 w9 ho hb hg hat;rw[<-Ny618.out] at ho;replace HB:=zA hb;have aY:=zA ho;clear aZ;clear ho hb hg hat)|((with_reducible refine gate_builtin (b:=.append) (xs:=#[.tmp 8,.tmp 10]) rfl ?_);at_builtin;refine Kd.R_append Kd.bool (w0:=w) w.heap.size rfl (.tmp 8) (.tmp 10) 29 4 (.bool false) 1 rfl Try.underlying29 info4 rfl (by decide) (by omega) v619 aG a1 [.bool a1] (fun _=>True) (fun _=>False) rfl rfl ?aP (fun _ hk=>hk.elim) ?aF ?aO ?aB ?aS ?aL ?_;(case aP=>exact rfl);(case aB=>exact zb);(case aF=>exact(fun _ _=>trivial));(case aO=>exact(zR aY));(case aS=>exact(below_size zb));(case aL=>have:=bI.out;omega);intro v622 bS ho hb hg hat;rw[<-Ny621.out] at ho;replace HB:=zA hb;have aE:=zA ho;clear aY;clear ho hb hg hat)|((with_reducible refine zgd 12 rfl ?_);refine Kd.R_lit Kd.bool _ 4 ?hg (N:=12) ?hd (xs:=([]:List Bool)) (inner:=[]) (ok:=fun _=>True) (okp:=fun _=>True) ?hr ?hp (fun _ hk=>hk) trivial (Below.refl _ _) (Nat.le_refl _) (by simp) ?_;(case hd=>rfl);(case hg=>rfl);(case hr=>first|(go_simp;done)|(go_simp;rfl));(case hp=>exact(Reps.none _ _));intro v625 bR ho12 hb hg_ hnew_;clear hg_ hnew_;(first|rw[<-Ny624.out] at ho12|(simp only[Int.reduceToNat] at ho12;rw[<-Ny624.out] at ho12));have aD:=zA (Kd.R_lower (Kd.R_new' ho12 (Kd.R_lt (zR aE))) (below_size zb));replace aE:=zA (Kd.R_elder' (zR aE) (Kd.R_base ho12) hb);replace HB:=zbs hb;clear hb ho12;obtain⟨aX,aV,bF⟩:=Kd.R_slice aE.out;subst bF)|((with_reducible refine zgf 122 rfl ?_);refine zgl 14 Try.func122 #[.slice aX aI.length aV,.int .i64 10] ?_;(refine(XA.calls (fun k_=>some k_=(.slice aX aI.length aV:Value).ownBlock) (.slice aX aI.length aV) aI 10 aA w _ zb (Kd.R_tight rfl aE.out) A5.out).mono ?_);rintro e bQ ⟨v628,rfl,ho0,hb,hkp⟩;refine⟨_,rfl,?_⟩;have aH:=zA (Kd.Q_mono (ok':=fun k_=>some k_≠(v625:Value).ownBlock) ho0 (fun k_ hk_=>Or.elim hk_ (fun hs_=>fun e_=>(((aD.out).1 k_ e_.symm).2) hs_) (fun hn_=>(Kd.fresh' (Kd.R_lt (zR aD)) k_ hn_))));replace aD:=zA (Kd.R_mono (ok':=fun k_=>some k_≠(v628:Value).ownBlock) (Kd.R_keptB (aD.out) hkp (fun k_ hk_ hs_=>(hk_.2) hs_)) (fun k_ hk_=>fun e_=>Or.elim (ho0.1 k_ e_.symm) (fun hs_=>hk_.2.1 hs_) (fun hn_=>Nat.not_le.2 hk_.2.2 hn_)));replace HB:=zA hb;clear aE;(try clear hb);(try clear hkp);(try clear ho0);obtain⟨bK,bG,bE,_⟩:=Kd.Q_slice aH.out;subst bE)|((with_reducible refine gate_builtin (b:=.append) (xs:=#[.tmp 12,.tmp 14]) rfl ?_);at_builtin;refine Kd.R_append_rows Kd.bool (w0:=w) w.heap.size rfl (.tmp 12) (.tmp 14) 29 4 (.bool false) 1 rfl Try.underlying29 info4 rfl (by decide) (by omega) v625 aC aA _ _ _ (fun k_=>some k_≠(.slice bK aA.length bG:Value).ownBlock) (fun _=>False) rfl rfl ?aO ?aR (fun _ _ h=>h) (fun _ h=>h.elim) ?aF ?aB ?aS ?aL ?_;(case aR=>repeat (first|exact(Kd.Q_reads' aH.out).2.2|(with_reducible refine Kd.C_alloc ?_ _)|(with_reducible refine Kd.C_drewN ?_ _)|(with_reducible refine Kd.C_drew ?_)));(case aB=>exact zb);(case aF=>exact(fun k_ hk=>Kd.fresh' (Kd.Q_lt (zQ aH)) k_ hk));(case aO=>exact(zR aD));(case aS=>exact(below_size zb));(case aL=>have:=bH.out;omega);intro v631 bP ho hb hg hat;rw[<-Ny630.out] at ho;replace aH:=zA (Kd.Q_after (ok:=(fun _=>True)) (zWm aH) hg hat);replace HB:=zA hb;have bA:=zA ho;clear aD;clear ho hb hg hat))
 go_ret;exact⟨_,zE,zWm bA,zb⟩

def Xr.l0:Nat->Int->List (S117)->Int->Int->Option (Int)
  |0,_,_,_,_=>none
  |k+1,x3,x9,x10,x11=>if x11<x10 then(if 0<=x11 then(if x11<(x9.length:Int) then(if ((rd_T117 x9 x11).f3=true) then(Xr.l0 k x3 x9 x10 (wrap64 (x11+1))) else(Xr.l0 k (wrap64 (x3+((rd_T117 x9 x11).f1))) x9 x10 (wrap64 (x11+1)))) else(none)) else(none)) else(some x3)
def Xr.f (k:Nat) (l0:List (S117)):Option (Int):=(X5.f k l0).bind fun t633=>(if t633=true then(Xr.l0 k 0 l0 (l0.length:Int) 0) else(some 0))
theorem Xr.calls (k:Nat) (A0:Option Addr) (c0:Nat) (l0:List (S117)) (r:Int) (w:World) (aY:Kd.C k117 w A0 l0.length l0) (aZ:l0.length<=c0) (h:Xr.f k l0=some r) :
  Calls Try.prog 152 #[.slice A0 l0.length c0] w fun e w'=>e=.returned (.int .i64 r)/\Below w.heap.size w w':=by
 have hu117:=Try.underlying117;have aM:=zA aY;have bA:=zA aZ;clear aY aZ;have HB:=zA (Below.refl w.heap.size w);have H:=h;clear h;unfold Xr.f at H;obtain⟨bB,A2,H⟩:=zB H
 by_cases c3:bB=true
 ·subst c3;rw[if_pos rfl] at H;have H':=zA H;clear H;go_enter Try.func152,Try.ntmps152
  go_wp2_with (first|((with_reducible refine zgf 145 rfl ?_);refine zgl 7 Try.func145 #[.slice A0 l0.length c0] ?_;(refine(X5.calls k _ _ l0 true _ (zCx aM.out) bA.out A2.out).mono ?_);rintro e w4 ⟨rfl,hb⟩;refine⟨_,rfl,?_⟩;replace HB:=zbs hb;(try clear hb)))
  go_loopg [3,11] k (fun kq v3 v11 w'=>∃ (aI:Int) (aA:Int),v3=.int .i64 aI/\v11=.int .i64 aA/\Aside0 (Xr.l0 kq aI l0 (l0.length:Int) aA=some r)/\Aside0 (kq<=k)/\Aside0 (Below w.heap.size w w'))
  case atStart=>exact⟨(0),(0),zr,zr,H',⟨Nat.le_refl _⟩,⟨zb⟩⟩
  case round =>
   clear H';(try clear c3);obtain⟨aI,aA,rfl,rfl,HA,HK1,HB⟩:=hrel
   cases gk with
   |zero=>exact absurd HA.out (by simp[Xr.l0])
   |succ k1 =>
    have H:=HA.out;clear HA;simp only[Xr.l0] at H
    by_cases c5:aA<(l0.length:Int)
    ·rw[if_pos c5] at H;have bE:=decide_eq_true c5;clear c5;obtain⟨bX,H⟩:=zifD H;obtain⟨bW,H⟩:=zifD H;obtain⟨bq8,hbq8⟩:∃ b_:Bool,b_=((rd_T117 l0 aA).f3):=⟨_,rfl⟩
     replace H:(if (bq8=true) then(Xr.l0 k1 aI l0 (l0.length:Int) (wrap64 (aA+1))) else(Xr.l0 k1 (wrap64 (aI+((rd_T117 l0 aA).f1))) l0 (l0.length:Int) (wrap64 (aA+1))))=some r:=by rw[<-hbq8] at H;exact H
     have Nbq8:=zA hbq8;clear hbq8
     by_cases c9:(bq8=true)
     ·subst c9;rw[if_pos rfl] at H;have H':=zA H;clear H;have bD:=zT (0<=(aA:Int));have bC:=zT (aA<(l0.length:Int));obtain⟨aV,aK,aH,aG,aE,aC⟩:=at_T117 aM.out aA zd zd;(try rw[<-Nbq8.out] at aC);cases aK;replace aH:=zC HB aH;replace aG:=zC HB aG;replace aE:=zC HB aE;replace aC:=zC HB aC
      go_wp2_with (first|((with_reducible refine zgd 5 rfl ?_);refine zbx 5 #[.int .i64 0,.int .i64 0,.int .i64 0,.bool false] 117 ?_;intro aQ hg cA b' hb;have aJ:=zA b';have aW:=zga (w:=w) hg;replace HB:=zbs hb;clear hb b' hg;obtain⟨bU,bT,bS,bR,bM,bL,bK,bJ⟩:=ze4 aJ))
      go_roundg k1
      case measure=>have:=HK1.out;omega
      case rel=>exact⟨(aI),(wrap64 (aA+1)),zr,zr,H',⟨by have:=HK1.out;omega⟩,⟨zb⟩⟩
     ·replace c9:=zbq c9;subst c9;rw[if_neg zNo] at H;have H':=zA H;clear H;have bD:=zT (0<=(aA:Int));have bC:=zT (aA<(l0.length:Int));obtain⟨aV,aK,aH,aG,aE,aC⟩:=at_T117 aM.out aA zd zd;(try rw[<-Nbq8.out] at aC);cases aK;replace aH:=zC HB aH;replace aG:=zC HB aG;replace aE:=zC HB aE;replace aC:=zC HB aC
      go_wp2_with (first|((with_reducible refine zgd 5 rfl ?_);refine zbx 5 #[.int .i64 0,.int .i64 0,.int .i64 0,.bool false] 117 ?_;intro aQ hg bZ b' hb;have aJ:=zA b';have aW:=zga (w:=w) hg;replace HB:=zbs hb;clear hb b' hg;obtain⟨bQ,bP,bO,bN,bI,bH,bG,bF⟩:=ze4 aJ))
      go_roundg k1
      case measure=>have:=HK1.out;omega
      case rel=>exact⟨(wrap64 (aI+((rd_T117 l0 aA).f1))),(wrap64 (aA+1)),zr,zr,H',⟨by have:=HK1.out;omega⟩,⟨zb⟩⟩
    ·rw[if_neg c5] at H;have bE:=decide_eq_false c5;clear c5;obtain rfl:=zI H;go_wp2;go_ret;exact⟨zE,zb⟩
 ·replace c3:=zbq c3;subst c3;rw[if_neg zNo] at H;obtain rfl:=zI H;go_enter Try.func152,Try.ntmps152
  go_wp2_with (first|((with_reducible refine zgf 145 rfl ?_);refine zgl 7 Try.func145 #[.slice A0 l0.length c0] ?_;(refine(X5.calls k _ _ l0 false _ (zCx aM.out) bA.out A2.out).mono ?_);rintro e bY ⟨rfl,hb⟩;refine⟨_,rfl,?_⟩;replace HB:=zbs hb;(try clear hb)))
  go_ret;exact⟨zE,zb⟩

def Xs.f (k:Nat) (a0_0:Int) (a0_1:Int) (l0_2:List (S117)) (l0_3:List Bool):Option (Int):=if a0_1<0 then(some 0) else((Xr.f k l0_2).bind fun t637=>(if a0_1>=t637 then(some 0) else((Xr.f k l0_2).bind fun t638=>(some (wrap64 (t638-a0_1))))))
def Xs.T1:Bool × List (List Nat × List Nat):=(true,[([],[]),([0],[0]),([1],[1]),([2],[2]),([3],[3]),([4,3],[3,4]),([3],[3]),([6,3],[3,6]),([7,3,3],[3,7]),([5,8,3],[3,5,8]),([3,9],[3,9])])
def Xs.B1:List Nat:=[0,1,3,7,15,31,15,79,207,511,1023]
theorem Xs.tab1:rtab .any (opsOf Try.f147 1)=Xs.T1:=by kernel_rfl
theorem Xs.bits1:waitsOk Xs.T1.2 Xs.B1=true:=by kernel_rfl
theorem Xs.calls (k:Nat) (aK:Int) (aE:Int) (aI:Option Addr) (aH:Nat) (aD:List (S117)) (aM:Option Addr) (aJ:Nat) (aG:List Bool) (r:Int) (w:World) (aV:Kd.C k117 w aI aD.length aD) (aX:aD.length<=aH) (aU:Kd.C Kd.bool w aM aG.length aG) (aW:aG.length<=aJ) (h:Xs.f k aK aE aD aG=some r) :
  Calls Try.prog 147 #[.agg #[aK,aE,.slice aI aD.length aH,.slice aM aG.length aJ]] w fun e w'=>e=.returned (.int .i64 r)/\Below w.heap.size w w':=by
 have hu42:=Try.underlying42;have aQ:=zA aV;have aT:=zA aX;clear aV aX;have bG:=zA aU;have bH:=zA aW;clear aU aW;have HB:=zA (Below.refl w.heap.size w);have H:=h;clear h;unfold Xs.f at H
 by_cases c2:aE<0
 ·rw[if_pos c2] at H;have bB:=decide_eq_true c2;clear c2;obtain rfl:=zI H;go_enter Try.func147,Try.ntmps147
  try go_wp2_with (first|((with_reducible refine zgd 1 rfl ?_);refine zbx 1 #[aK,aE,.slice aI aD.length aH,.slice aM aG.length aJ] 42 ?_;intro aC hg w3 b' hb;have aA:=zA b';have aY:=zga (w:=w) hg;replace HB:=zbs hb;clear hb b' hg))
  replace aA:=zA (blk_drew aA.out);replace HB:=zA (below_drew1 HB.out);refine start_ (n:=11) (S:=fun w'=>w'.cell? ⟨aC,0,none⟩=some (.int .i64 aK)/\w'.cell? ⟨aC,1,none⟩=some (.int .i64 aE)/\w'.cell? ⟨aC,2,none⟩=some (.slice aI aD.length aH)/\w'.cell? ⟨aC,3,none⟩=some (.slice aM aG.length aJ)) (ds:=[]) _ (by kernel_rfl) rfl rfl ⟨zq aA 0,zq aA 1,zq aA 2,zq aA 3⟩ (fun h'=>?_);refine with_tabW Xs.tab1 Xs.bits1 (fun T_ W_=>?_);generalize w3.drew=w4 at aA HB h' ⊢;refine zp 0 3 T_ ?_;refine zt 1 4 T_ W_ h' ?_;refine zp 2 5 T_ ?_;refine zp 3 6 T_ ?_;refine zu 4 7 T_ ?_;refine zu 5 8 T_ ?_;refine zu 6 9 T_ ?_;refine zu 7 10 T_ ?_;refine zu 8 11 T_ ?_;refine zu 9 12 T_ ?_;refine zp 10 13 T_ ?_;refine done_ (done_of T_.out (by kernel_rfl)) ?_
  try go_wp2
  go_ret;exact⟨zE,zb⟩
 ·rw[if_neg c2] at H;have bB:=decide_eq_false c2;clear c2;obtain⟨aN,A5,H⟩:=zB H
  by_cases c6:aE>=aN
  ·rw[if_pos c6] at H;have bA:decide (aN<=aE)=true:=decide_eq_true c6;clear c6;obtain rfl:=zI H;go_enter Try.func147,Try.ntmps147
   try go_wp2_with (first|((with_reducible refine zgd 1 rfl ?_);refine zbx 1 #[aK,aE,.slice aI aD.length aH,.slice aM aG.length aJ] 42 ?_;intro aC hg w7 b' hb;have aA:=zA b';have aY:=zga (w:=w) hg;replace HB:=zbs hb;clear hb b' hg))
   replace aA:=zA (blk_drew aA.out);replace HB:=zA (below_drew1 HB.out);refine start_ (n:=11) (S:=fun w'=>w'.cell? ⟨aC,0,none⟩=some (.int .i64 aK)/\w'.cell? ⟨aC,1,none⟩=some (.int .i64 aE)/\w'.cell? ⟨aC,2,none⟩=some (.slice aI aD.length aH)/\w'.cell? ⟨aC,3,none⟩=some (.slice aM aG.length aJ)) (ds:=[]) _ (by kernel_rfl) rfl rfl ⟨zq aA 0,zq aA 1,zq aA 2,zq aA 3⟩ (fun h'=>?_);refine with_tabW Xs.tab1 Xs.bits1 (fun T_ W_=>?_);generalize w7.drew=w8 at aA HB h' ⊢;refine zp 0 3 T_ ?_;refine zt 1 4 T_ W_ h' ?_;refine zp 2 5 T_ ?_;refine zp 3 6 T_ ?_;refine zp 4 7 T_ ?_;refine zp 6 9 T_ ?_;refine zt 5 8 T_ W_ h' ?_;refine zt 7 10 T_ W_ h' ?_;refine zo 8 11 T_ (fun K hK=>?_);refine zgo Try.func152 #[.slice aI aD.length aH] ?_
   refine(Xr.calls k _ _ aD aN _ (zCb aQ) aT.out A5.out).mono ?_
   rintro e w9 ⟨rfl,hb⟩;refine⟨_,rfl,?_⟩;replace aA:=zkb aA hb;replace HB:=zbs hb;(try clear hb);refine hK.out _ _ ⟨zq aA 0,zq aA 1,zq aA 2,zq aA 3⟩ (fun h'=>?_);clear hK K;refine norm_ zV ?_;refine zp 9 12 T_ ?_;refine zp 10 13 T_ ?_;refine done_ (done_of T_.out (by kernel_rfl)) ?_
   try go_wp2
   go_ret;exact⟨zE,zb⟩
  ·rw[if_neg c6] at H;have bA:decide (aN<=aE)=false:=decide_eq_false c6;clear c6;obtain⟨aZ,bF,H⟩:=zB H;obtain rfl:=zI H;go_enter Try.func147,Try.ntmps147
   try go_wp2_with (first|((with_reducible refine zgd 1 rfl ?_);refine zbx 1 #[aK,aE,.slice aI aD.length aH,.slice aM aG.length aJ] 42 ?_;intro aC hg bD b' hb;have aA:=zA b';have aY:=zga (w:=w) hg;replace HB:=zbs hb;clear hb b' hg))
   replace aA:=zA (blk_drew aA.out);replace HB:=zA (below_drew1 HB.out);refine start_ (n:=11) (S:=fun w'=>w'.cell? ⟨aC,0,none⟩=some (.int .i64 aK)/\w'.cell? ⟨aC,1,none⟩=some (.int .i64 aE)/\w'.cell? ⟨aC,2,none⟩=some (.slice aI aD.length aH)/\w'.cell? ⟨aC,3,none⟩=some (.slice aM aG.length aJ)) (ds:=[]) _ (by kernel_rfl) rfl rfl ⟨zq aA 0,zq aA 1,zq aA 2,zq aA 3⟩ (fun h'=>?_);refine with_tabW Xs.tab1 Xs.bits1 (fun T_ W_=>?_);generalize bD.drew=bM at aA HB h' ⊢;refine zp 0 3 T_ ?_;refine zt 1 4 T_ W_ h' ?_;refine zp 2 5 T_ ?_;refine zp 3 6 T_ ?_;refine zp 4 7 T_ ?_;refine zp 6 9 T_ ?_;refine zt 5 8 T_ W_ h' ?_;refine zt 7 10 T_ W_ h' ?_;refine zo 8 11 T_ (fun K hK=>?_);refine zgo Try.func152 #[.slice aI aD.length aH] ?_
   refine(Xr.calls k _ _ aD aN _ (zCb aQ) aT.out A5.out).mono ?_
   rintro e bC ⟨rfl,hb⟩;refine⟨_,rfl,?_⟩;replace aA:=zkb aA hb;replace HB:=zbs hb;(try clear hb);refine hK.out _ _ ⟨zq aA 0,zq aA 1,zq aA 2,zq aA 3⟩ (fun h'=>?_);clear hK K;refine norm_ zV ?_;refine zp 9 12 T_ ?_;refine zp 10 13 T_ ?_;refine done_ (done_of T_.out (by kernel_rfl)) ?_
   try go_wp2
   replace aA:=zA (blk_drew aA.out);replace HB:=zA (below_drew1 HB.out);refine start_ (n:=7) (S:=fun w'=>w'.cell? ⟨aC,0,none⟩=some (.int .i64 aK)/\w'.cell? ⟨aC,1,none⟩=some (.int .i64 aE)/\w'.cell? ⟨aC,2,none⟩=some (.slice aI aD.length aH)/\w'.cell? ⟨aC,3,none⟩=some (.slice aM aG.length aJ)) (ds:=[]) _ (by kernel_rfl) rfl rfl ⟨zq aA 0,zq aA 1,zq aA 2,zq aA 3⟩ (fun h'=>?_);generalize bC.drew=bL at aA HB h' ⊢;refine pure_ (i:=0) (N:=some 14) (v:=?_) (a':=?_) #[true,false,false,false,false,false,false] rfl rfl (by kernel_rfl) (fun _ _ _ h=>h) (Or.inl ⟨by rfl,?_⟩) ?_ ?_;rotate_left
   ·intro w'
    go_simp
    with_reducible rfl
   rotate_left
   ·exact zW
   refine pure_ (i:=3) (N:=some 17) (v:=?_) (a':=?_) #[true,false,false,true,false,false,false] rfl rfl (by kernel_rfl) (fun _ _ _ h=>h) (Or.inl ⟨by rfl,?_⟩) ?_ ?_;rotate_left
   ·intro w'
    go_simp
    with_reducible rfl
   rotate_left
   ·exact zW
   refine take_ (i:=1) (N:=some 15) (v:=?_) (a':=?_) #[true,true,false,true,false,false,false] rfl rfl (by kernel_rfl) (fun _ _ _ h=>h) (Or.inl ⟨by rfl,?_⟩) h' ?_ ?_;rotate_left
   ·rintro w' ⟨s0,s1,s2,s3⟩
    go_simp
    with_reducible rfl
   rotate_left
   ·exact zW
   refine take_ (i:=4) (N:=some 18) (v:=?_) (a':=?_) #[true,true,false,true,true,false,false] rfl rfl (by kernel_rfl) (fun _ _ _ h=>h) (Or.inl ⟨by rfl,?_⟩) h' ?_ ?_;rotate_left
   ·rintro w' ⟨s0,s1,s2,s3⟩
    go_simp
    with_reducible rfl
   rotate_left
   ·exact zW
   refine one_ (i:=2) (N:=some 16) #[true,true,true,true,true,false,false] rfl rfl (by kernel_rfl) (by decide) (fun K hK=>?_);refine zgo Try.func152 #[.slice aI aD.length aH] ?_
   refine(Xr.calls k _ _ aD aZ _ (zCb aQ) aT.out bF.out).mono ?_
   rintro e bK ⟨rfl,hb⟩;refine⟨_,rfl,?_⟩;replace aA:=zkb aA hb;replace HB:=zbs hb;(try clear hb);refine hK.out _ _ ⟨zq aA 0,zq aA 1,zq aA 2,zq aA 3⟩ (fun h'=>?_);clear hK K;refine norm_ zV ?_;refine pure_ (i:=5) (N:=some 19) (v:=?_) (a':=?_) #[true,true,true,true,true,true,false] rfl rfl (by kernel_rfl) (fun _ _ _ h=>h) (Or.inl ⟨by rfl,?_⟩) ?_ ?_;rotate_left
   ·intro w'
    go_simp
    with_reducible rfl
   rotate_left
   ·exact zW
   refine pure_ (i:=6) (N:=some 2) (v:=?_) (a':=?_) #[true,true,true,true,true,true,true] rfl rfl (by kernel_rfl) (fun _ _ _ h=>h) (Or.inl ⟨by rfl,?_⟩) ?_ ?_;rotate_left
   ·intro w'
    go_simp
    with_reducible rfl
   rotate_left
   ·exact zW
   refine done_ (by kernel_rfl) ?_
   try go_wp2
   go_ret;exact⟨zE,zb⟩

def X10.f (k:Nat) (a0_0:Int) (a0_1:Int) (l0_2:List (S117)) (l0_3:List Bool) (a1:Int):Option (Int × Int × (List (S117)) × List Bool × Int):=(Xv.f a0_0 a0_1 l0_2 l0_3).bind fun bt641=>(if a1<0 then(some (bt641.1,bt641.2.1,bt641.2.2.1,bt641.2.2.2,0)) else((Xs.f k a0_0 a0_1 l0_2 l0_3).bind fun t650=>(some (bt641.1,wrap64 (bt641.2.1+(mn a1 t650)),bt641.2.2.1,bt641.2.2.2,mn a1 t650))))
theorem X10.calls (k:Nat) (aK:Int) (aJ:Int) (bA:Option Addr) (aY:Nat) (aI:List (S117)) (aZ:Option Addr) (aX:Nat) (aH:List Bool) (a1:Int) (r1:Int) (r2:Int) (r3:List (S117)) (r4:List Bool) (r5:Int) (w:World) (bN:Kd.C k117 w bA aI.length aI) (bP:aI.length<=aY) (bM:Kd.C Kd.bool w aZ aH.length aH) (bO:aH.length<=aX) (h:X10.f k aK aJ aI aH a1=some (r1,r2,r3,r4,r5)) :
  Calls Try.prog 136 #[.agg #[aK,aJ,.slice bA aI.length aY,.slice aZ aH.length aX],a1] w fun e w'=>∃ v2_ v3_:Value,e=.returned (.tuple #[.agg #[r1,r2,v2_,v3_],r5])/\Kd.R k117 117 w' w.heap.size (fun _=>True) v2_ r3/\Kd.R Kd.bool 4 w' w.heap.size (fun _=>True) v3_ r4/\Below w.heap.size w w':=by
 have hu42:=Try.underlying42;have bJ:=zA bN;have bL:=zA bP;clear bN bP;have bI:=zA bM;have bK:=zA bO;clear bM bO;have HB:=zA (Below.refl w.heap.size w);have H:=h;clear h;unfold X10.f at H;obtain⟨⟨bE,bD,bC,bB⟩,A3,H⟩:=zB H
 by_cases c4:a1<0
 ·rw[if_pos c4] at H;have cH:=decide_eq_true c4;clear c4;simp only[Option.some.injEq,Prod.mk.injEq] at H;obtain⟨rfl,rfl,rfl,rfl,rfl⟩:=H;go_enter Try.func136,Try.ntmps136
  go_wp2_with (first|((with_reducible refine zgd 2 rfl ?_);refine zbx 2 #[aK,aJ,.slice bA aI.length aY,.slice aZ aH.length aX] 42 ?_;intro bW hg w5 b' hb;have aA:=zA b';have bZ:=zga (w:=w) hg;replace HB:=zbs hb;clear hb b' hg)|((with_reducible refine zgd 4 rfl ?_);refine zbx 4 #[.int .i64 0,.int .i64 0,.slice none 0 0,.slice none 0 0] 42 ?_;intro bH hg w6 b' hb;have aC:=zA b';have bY:=zga (w:=w) hg;replace HB:=zbs hb;replace aA:=zlh aA hg hb;obtain⟨aV,aT,aA⟩:=aA;clear hb b' hg;have fJ:=aV.out;have fI:=aT.out;obtain⟨eX,eW,eV,eU,eT,eS,eR,eQ⟩:=ze4 aA)|((with_reducible refine zgf 81 rfl ?_);refine zgl 8 Try.func81 #[.agg #[aK,aJ,.slice bA aI.length aY,.slice aZ aH.length aX]] ?_;(refine(Xv.calls aK aJ _ _ aI _ _ aH bE bD bC bB _ (zCb bJ) bL.out (zCb bI) bK.out A3.out).mono ?_);rintro e w9 ⟨v644,v647,rfl,ho0,ho1,hb⟩;refine⟨_,rfl,?_⟩;have aG:=zA (Kd.R_lower ho0 (below_size zb));have aE:=zA (Kd.R_lower ho1 (below_size zb));replace aA:=zkb aA hb;replace aC:=zkb aC hb;replace HB:=zbs hb;(try clear hb);(try clear ho0);(try clear ho1))|((with_reducible refine zgd 6 rfl ?_);refine zbx 6 #[.int .i64 0,.int .i64 0,.slice none 0 0,.slice none 0 0] 42 ?_;intro bQ hg fP b' hb;replace aG:=zRb aG hb;replace aE:=zRb aE hb;have aD:=zA b';have bX:=zga (w:=w) hg;replace HB:=zbs hb;replace aA:=zlh aA hg hb;obtain⟨aU,aN,aA⟩:=aA;replace aC:=zlh aC hg hb;obtain⟨aQ,aM,aC⟩:=aC;clear hb b' hg;have fH:=aN.out;have fC:=aU.out;have fG:=aM.out;have fB:=aQ.out;obtain⟨eO,eN,eM,eL,dM,dL,dK,dJ⟩:=ze4 aD;obtain⟨cJ,cG,cE⟩:=Kd.R_slice aG.out;subst cE;obtain⟨cI,cF,cD⟩:=Kd.R_slice aE.out;subst cD;obtain⟨eK,eJ,eI,eH,dI,dH,dG,dF⟩:=ze4 aC))
  refine bodyPost_ret (results_ct rfl _ _ bH 42 #[bE,bD,.slice cJ bC.length cG,.slice cI bB.length cF] (0,0) _ rfl (zkp aC) Try.underlying42 rfl (by kernel_rfl)) rfl ?_;exact⟨_,_,zE,zF2 aG aD aC,zF2 aE aD aC,zb⟩
 ·rw[if_neg c4] at H;have cH:=decide_eq_false c4;clear c4;obtain⟨bF,cA,H⟩:=zB H;obtain⟨bG,aW⟩:∃ j_:Int,(mn a1 bF)=j_:=⟨_,rfl⟩
  replace H:(some (bE,wrap64 (bD+(bG)),bC,bB,bG))=some (r1,r2,r3,r4,r5):=by first|(rw[aW] at H;exact H)|(simp only[aW] at H ⊢;exact H)
  (try rw[aW] at A3);(try rw[aW] at cA);have eP:(if bF<a1 then bF else a1)=bG:=aW;simp only[Option.some.injEq,Prod.mk.injEq] at H;obtain⟨rfl,rfl,rfl,rfl,rfl⟩:=H;go_enter Try.func136,Try.ntmps136
  go_wp2_with (first|((with_reducible refine zgd 2 rfl ?_);refine zbx 2 #[aK,aJ,.slice bA aI.length aY,.slice aZ aH.length aX] 42 ?_;intro bW hg fO b' hb;have aA:=zA b';have bZ:=zga (w:=w) hg;replace HB:=zbs hb;clear hb b' hg)|((with_reducible refine zgd 4 rfl ?_);refine zbx 4 #[.int .i64 0,.int .i64 0,.slice none 0 0,.slice none 0 0] 42 ?_;intro bH hg fN b' hb;have aC:=zA b';have bY:=zga (w:=w) hg;replace HB:=zbs hb;replace aA:=zlh aA hg hb;obtain⟨aV,aT,aA⟩:=aA;clear hb b' hg;have fF:=aV.out;have fA:=aT.out;obtain⟨eG,eF,eE,eD,dE,dD,dC,dB⟩:=ze4 aA)|((with_reducible refine zgf 81 rfl ?_);refine zgl 8 Try.func81 #[.agg #[aK,aJ,.slice bA aI.length aY,.slice aZ aH.length aX]] ?_;(refine(Xv.calls aK aJ _ _ aI _ _ aH bE bD bC bB _ (zCb bJ) bL.out (zCb bI) bK.out A3.out).mono ?_);rintro e fM ⟨v644,v647,rfl,ho0,ho1,hb⟩;refine⟨_,rfl,?_⟩;have aG:=zA (Kd.R_lower ho0 (below_size zb));have aE:=zA (Kd.R_lower ho1 (below_size zb));replace aA:=zkb aA hb;replace aC:=zkb aC hb;replace HB:=zbs hb;(try clear hb);(try clear ho0);(try clear ho1))|((with_reducible refine zgd 6 rfl ?_);refine zbx 6 #[.int .i64 0,.int .i64 0,.slice none 0 0,.slice none 0 0] 42 ?_;intro bQ hg fL b' hb;replace aG:=zRb aG hb;replace aE:=zRb aE hb;have aD:=zA b';have bX:=zga (w:=w) hg;replace HB:=zbs hb;replace aA:=zlh aA hg hb;obtain⟨aU,aN,aA⟩:=aA;replace aC:=zlh aC hg hb;obtain⟨aQ,aM,aC⟩:=aC;clear hb b' hg;have fE:=aN.out;have eZ:=aU.out;have fD:=aM.out;have eY:=aQ.out;obtain⟨eC,eB,eA,dZ,dA,cZ,cY,cX⟩:=ze4 aD;obtain⟨bV,bT,cC⟩:=Kd.R_slice aG.out;subst cC;obtain⟨bU,bS,cB⟩:=Kd.R_slice aE.out;subst cB;obtain⟨dY,dX,dW,dV,cW,cV,cU,cT⟩:=ze4 aA)|((with_reducible refine zgf 147 rfl ?_);refine zgl 14 Try.func147 #[.agg #[aK,aJ,.slice bA aI.length aY,.slice aZ aH.length aX]] ?_;(refine(Xs.calls k aK aJ _ _ aI _ _ aH bF _ (Kd.C_below bJ.out zb) bL.out (Kd.C_below bI.out zb) bK.out cA.out).mono ?_);rintro e fK ⟨rfl,hb⟩;refine⟨_,rfl,?_⟩;replace aG:=zA (Kd.R_below (zF1 aG aD) hb);replace aE:=zA (Kd.R_below (zF1 aE aD) hb);replace aA:=zbf aA hb;replace aC:=zbf aC hb;replace aD:=zA (blk_below (g:=bQ) (o:=.cells #[bE,bD,.slice bV bC.length bT,.slice bU bB.length bS] 42 (0,0)) (zkp aD) hb);replace HB:=zbs hb;(try clear hb);obtain⟨dU,dT,dS,dR,cS,cR,cQ,cP⟩:=ze4 aD;obtain⟨dQ,dP,dO,dN,cO,cN,cM,cL⟩:=ze4 aC))
  refine bodyPost_ret (results_ct rfl _ _ bH 42 #[bE,.int .i64 (wrap64 (bD+(bG))),.slice bV bC.length bT,.slice bU bB.length bS] (0,0) _ rfl (zkp aC) Try.underlying42 rfl (by kernel_rfl)) rfl ?_;exact⟨_,_,by first|rfl|(simp[errW_none,errW_some] <;> rfl)|(simp only[<-aW];first|rfl|(simp[errW_none,errW_some] <;> rfl))|(simp[*,errW_none,errW_some] <;> rfl),zF2 aG aD aC,zF2 aE aD aC,zb⟩

def XC.l0:Nat->Int->List (S85)->Int->Int->Option (Int)
  |0,_,_,_,_=>none
  |k+1,x1,x7,x8,x9=>if x9<x8 then(if 0<=x9 then(if x9<(x7.length:Int) then(if ((rd_T85 x7 x9).f0)=x1 then(some ((rd_T85 x7 x9).f1)) else(XC.l0 k x1 x7 x8 (wrap64 (x9+1)))) else(none)) else(none)) else(some 0)
def XC.f (k:Nat) (l0:List (S85)) (a1:Int):Option (Int):=XC.l0 k a1 l0 (l0.length:Int) 0
theorem XC.calls (k:Nat) (A0:Option Addr) (c0:Nat) (l0:List (S85)) (a1:Int) (r:Int) (w:World) (aN:Kd.C k85 w A0 l0.length l0) (aQ:l0.length<=c0) (h:XC.f k l0 a1=some r) :
  Calls Try.prog 137 #[.slice A0 l0.length c0,a1] w fun e w'=>e=.returned (.int .i64 r)/\Below w.heap.size w w':=by
 have hu85:=Try.underlying85;have aT:=zA aN;have bL:=zA aQ;clear aN aQ;have HB:=zA (Below.refl w.heap.size w);have H:=h;clear h;unfold XC.f at H;have H':=zA H;clear H;go_enter Try.func137,Try.ntmps137;go_wp2
 go_loopg [9] k (fun kq v9 w'=>∃ (aA:Int),v9=.int .i64 aA/\Aside0 (XC.l0 kq a1 l0 (l0.length:Int) aA=some r)/\Aside0 (kq<=k)/\Aside0 (Below w.heap.size w w'))
 case atStart=>exact⟨(0),zr,H',⟨Nat.le_refl _⟩,⟨zb⟩⟩
 case round =>
  clear H';obtain⟨aA,rfl,HA,HK1,HB⟩:=hrel
  cases gk with
  |zero=>exact absurd HA.out (by simp[XC.l0])
  |succ k1 =>
   have H:=HA.out;clear HA;simp only[XC.l0] at H
   by_cases c3:aA<(l0.length:Int)
   ·rw[if_pos c3] at H;have aY:=decide_eq_true c3;clear c3;obtain⟨bK,H⟩:=zifD H;obtain⟨bJ,H⟩:=zifD H
    by_cases c6:((rd_T85 l0 aA).f0)=a1
    ·rw[if_pos c6] at H;have aX:(((rd_T85 l0 aA).f0)==a1)=true:=beq_iff_eq.mpr c6;have aW:(((rd_T85 l0 aA).f0) != a1)=false:=bne_eq_false_iff_eq.mpr c6;clear c6;obtain rfl:=zI H;have aV:=zT (0<=(aA:Int));have aU:=zT (aA<(l0.length:Int));obtain⟨aK,aI,aD,aC⟩:=at_T85 aT.out aA zd zd;cases aI;replace aD:=zC HB aD;replace aC:=zC HB aC
     go_wp2_with (first|((with_reducible refine zgd 6 rfl ?_);refine zbx 6 #[.int .i64 0,.int .i64 0] 85 ?_;intro aJ hg w7 b' hb;have aG:=zA b';have aM:=zga (w:=w) hg;replace HB:=zbs hb;clear hb b' hg;obtain⟨bG,bF,bE,bD⟩:=ze2 aG))
     go_ret;exact⟨zE,zb⟩
    ·rw[if_neg c6] at H;have aX:(((rd_T85 l0 aA).f0)==a1)=false:=beq_eq_false_iff_ne.mpr c6;have aW:(((rd_T85 l0 aA).f0) != a1)=true:=bne_iff_ne.mpr c6;have H':=zA H;clear H;have aV:=zT (0<=(aA:Int));have aU:=zT (aA<(l0.length:Int));obtain⟨aK,aI,aD,aC⟩:=at_T85 aT.out aA zd zd;cases aI;replace aD:=zC HB aD;replace aC:=zC HB aC
     go_wp2_with (first|((with_reducible refine zgd 6 rfl ?_);refine zbx 6 #[.int .i64 0,.int .i64 0] 85 ?_;intro aJ hg w9 b' hb;have aG:=zA b';have aM:=zga (w:=w) hg;replace HB:=zbs hb;clear hb b' hg;obtain⟨bC,bB,bA,aZ⟩:=ze2 aG))
     go_roundg k1
     case measure=>have:=HK1.out;omega
     case rel=>exact⟨(wrap64 (aA+1)),zr,H',⟨by have:=HK1.out;omega⟩,⟨zb⟩⟩
   ·rw[if_neg c3] at H;have aY:=decide_eq_false c3;clear c3;obtain rfl:=zI H;go_wp2;go_ret;exact⟨zE,zb⟩
end Go.Proofs.Yteiepphhkikmoaa.Q
