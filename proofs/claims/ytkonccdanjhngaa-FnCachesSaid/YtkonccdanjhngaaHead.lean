/- The head line of the seat's translation, as its signs, and what the claim's form asks of it. -/
import Derived.Test.YtkonccdanjhngaaRows
import Derived.WalkKit
import Derived.JoinedOf
namespace Go.Proofs.Ytkonccdanjhngaa.Head
open Go Go.RowKit Go.Proofs.Ytkonccdanjhngaa
def signs:List Char:=([104,97,114,110,101,115,115,32,100,52,100,102,50,100,97,98,97,55,48,101,57,50,50,51,101,99,100,52,50,48,52,48,99,57,57,52,49,56,50,49,97,100,54,56,54,98,98,57,50,48,98,49,97,57,53,54,48,101,51,57,49,100,100,100,56,56,49,50,98,99,51,100,32,99,117,116,32,97,116,32,108,111,111,112,46,101,120,97,109,112,108,101,47,103,48,51,48,48,56,47,108,97,119,115,46,70,110,67,97,99,104,101,115]:List Nat).map Char.ofNat
set_option maxRecDepth 100000 in
theorem line:Try.prog.initOrder.toList=signs:=by
  have h:Try.prog.initOrder=String.ofList signs:=by kernel_rfl
  rw[h];exact String.toList_ofList
theorem words:∃ R,behindMainWord (wordsSigns Try.prog.initOrder.toList)=[.ofNat 99,.ofNat 117,.ofNat 116] :: R:=by
  rw[line];exact⟨(behindMainWord (wordsSigns signs)).tail,by kernel_rfl⟩
theorem laysLater:Try.prog.laysLater=false:=by kernel_rfl
theorem bearsReflect:Try.prog.bearsReflect=false:=by kernel_rfl
theorem doorFits:Try.prog.doorFits []=true:=by kernel_rfl
theorem strip (R:List (List Char)):stripLifts liftWords ([.ofNat 99,.ofNat 117,.ofNat 116] :: R)=([],[.ofNat 99,.ofNat 117,.ofNat 116] :: R):=by kernel_rfl
theorem mayEnter_of {P:Program} {R} (h:behindMainWord (wordsSigns P.initOrder.toList)=[.ofNat 99,.ofNat 117,.ofNat 116] :: R) (l:P.laysLater=false) (b:P.bearsReflect=false) (d:P.doorFits []=true):P.mayEnter=true:=by
  unfold Program.mayEnter;rw[h];simp only[strip,l,b,d];rfl
theorem liftsFinal_of {P:Program} {R} (h:behindMainWord (wordsSigns P.initOrder.toList)=[.ofNat 99,.ofNat 117,.ofNat 116] :: R):P.liftsFinal=false:=by
  unfold Program.liftsFinal Program.headLifts;rw[h];simp only[strip];rfl
theorem make_of {P:Program} {R} (h:behindMainWord (wordsSigns P.initOrder.toList)=[.ofNat 99,.ofNat 117,.ofNat 116] :: R):P.make=some .cut:=by
  unfold Program.make;rw[h];rfl
theorem mayEnter:Try.prog.mayEnter=true:=by
  obtain⟨R,h⟩:=words
  exact mayEnter_of h laysLater bearsReflect doorFits
theorem liftsFinal:Try.prog.liftsFinal=false:=by
  obtain⟨R,h⟩:=words
  exact liftsFinal_of h
theorem make:Try.prog.make=some .cut:=by
  obtain⟨R,h⟩:=words
  exact make_of h
end Go.Proofs.Ytkonccdanjhngaa.Head
