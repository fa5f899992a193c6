/- Walks of 1 functions of the program: each comes to what a plain function tells. -/
import Derived.Test.YteiepphhkikmoaaG0
namespace Go.Proofs.Yteiepphhkikmoaa.Q
open Go.RowKit Go.Proofs.YteiepphhkikmoaaW.PrintWords Go.Proofs.YteiepphhkikmoaaW.PrintLast Go.Proofs.YteiepphhkikmoaaW.PrintMore Go.Proofs.YteiepphhkikmoaaW.Zip
attribute [local go_sem] max2_int min2_int max_two min_two max_three min_three max_four min_four   -- for this text's walks alone
set_option linter.unusedVariables false
set_option maxHeartbeats 8000000
set_option maxRecDepth 100000
set_option linter.unusedSimpArgs false

def laws_heldIntS.l0:Nat→List Int→Int→Int→Option (Int)
  |0,_,_,_=>none
  |k+1,x0,x1,x5=>if x5<(x0.length:Int) then(if 0≤x5 then(if (rd x0 x5)=x1 then(laws_heldIntS.l0 k x0 (wrap64 (x1+1)) (wrap64 (x5+1))) else(some (-1))) else(none)) else(some x1)
def laws_heldIntS.f (k:Nat) (l0:List Int) (a1:Int):Option (Int):=laws_heldIntS.l0 k l0 a1 0
theorem laws_heldIntS.calls (k:Nat) (A0:Option Addr) (c0:Nat) (l0:List Int) (a1:Int) (r:Int) (w:World) (aG:Kd.C (Kd.int .i64) w A0 l0.length l0) (aH:l0.length≤c0) (h:laws_heldIntS.f k l0 a1=some r) :
  Calls Try.prog 35 #[.slice A0 l0.length c0,.int .i64 a1] w fun e w'=>e=.returned (.int .i64 r)∧Drawn0 w w':=by
 have aI:=zA aG;have aS:=zA aH;clear aG aH;have H:=h;clear h;unfold laws_heldIntS.f at H;have H':=zA H;clear H;go_enter Try.func35,Try.ntmps35;go_wp2
 go_loopg [1,5] k (fun kq v1 v5 w'=>∃ (aB:Int) (aA:Int),v1=.int .i64 aB∧v5=.int .i64 aA∧Aside0 (laws_heldIntS.l0 kq l0 aB aA=some r)∧Aside0 (kq≤k)∧Drawn0 w w')
 case atStart=>exact⟨(a1),(0),zr,zr,H',⟨Nat.le_refl _⟩,by repeat (first|exact Drawn0.refl _|apply Drawn0.step)⟩
 case round =>
  clear H';obtain⟨aB,aA,rfl,rfl,HA,HK1,⟨m1,rfl⟩⟩:=hrel
  cases gk with
  |zero=>exact absurd HA.out (by simp[laws_heldIntS.l0])
  |succ k1 =>
   have H:=HA.out;clear HA;simp only[laws_heldIntS.l0] at H
   by_cases c3:aA<(l0.length:Int)
   ·rw[if_pos c3] at H;have aN:=decide_eq_true c3;clear c3;obtain⟨aR,H⟩:=zifD H
    by_cases c5:(rd l0 aA)=aB
    ·rw[if_pos c5] at H;have aM:((rd l0 aA)==aB)=true:=beq_iff_eq.mpr c5;have aL:((rd l0 aA) != aB)=false:=bne_eq_false_iff_eq.mpr c5;clear c5;have H':=zA H;clear H;have aK:=zT (0≤(aA:Int));have aJ:=zT (aA<(l0.length:Int));obtain⟨aF,aD,aE⟩:=Kd.at_int aI.out aA zd zd;cases aD;go_wp2
     go_roundg k1
     case measure=>have:=HK1.out;omega
     case rel=>exact⟨(wrap64 (aB+1)),(wrap64 (aA+1)),zr,zr,H',⟨by have:=HK1.out;omega⟩,by repeat (first|exact Drawn0.refl _|apply Drawn0.step)⟩
    ·rw[if_neg c5] at H;have aM:((rd l0 aA)==aB)=false:=beq_eq_false_iff_ne.mpr c5;have aL:((rd l0 aA) != aB)=true:=bne_iff_ne.mpr c5;obtain rfl:=zI H;have aK:=zT (0≤(aA:Int));have aJ:=zT (aA<(l0.length:Int));obtain⟨aF,aD,aE⟩:=Kd.at_int aI.out aA zd zd;cases aD;go_wp2;go_ret;exact⟨by first|rfl|(simp;done)|(simp[*];done),by repeat (first|exact Drawn0.refl _|apply Drawn0.step)⟩
   ·rw[if_neg c3] at H;have aN:=decide_eq_false c3;clear c3;obtain rfl:=zI H;go_wp2;go_ret;exact⟨by first|rfl|(simp;done)|(simp[*];done),by repeat (first|exact Drawn0.refl _|apply Drawn0.step)⟩
end Go.Proofs.Yteiepphhkikmoaa.Q
