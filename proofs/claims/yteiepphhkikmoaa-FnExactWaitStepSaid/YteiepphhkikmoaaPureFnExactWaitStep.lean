/- The program's WaitStep returns what the reference's WaitStep returns, for every land, rule, list of depots and party that hold no more than 2^20 elements together (bigger ones the statement lets pass) and all numbers, and leaves the arguments as they were. No further condition. -/
import Derived.Test.YteiepphhkikmoaaSFnExactWaitStep
namespace Go.Proofs.Yteiepphhkikmoaa.Pure
open Go.RowKit Go.Proofs.Yteiepphhkikmoaa.Q Go.Proofs.YteiepphhkikmoaaW.PrintWords Go.Proofs.YteiepphhkikmoaaW.PrintLast Go.Proofs.YteiepphhkikmoaaW.PrintMore
set_option linter.unusedVariables false
set_option linter.unusedSimpArgs false
theorem ext_getD {α:Type} {d:α} {a b:List α} (h:a.length=b.length) (hj:∀ j,j<a.length->a.getD j d=b.getD j d):a=b:=by
 apply List.ext_getElem h
 intro j h1 h2
 have:=hj j h1
 simpa [List.getD_eq_getElem?_getD,List.getElem?_eq_getElem h1,List.getElem?_eq_getElem h2] using this
theorem getD_set {α:Type} {d:α} (a:List α) (i j:Nat) (v:α) (h:i<a.length):(a.set i v).getD j d=if i=j then v else a.getD j d:=by
 simp only[List.getD_eq_getElem?_getD,List.getElem?_set]
 by_cases e:i=j
 ·subst e;simp[h]
 ·simp[e]
theorem wrap_small {i:Int} {n:Nat} (h0:0<=i) (h:i<(n:Int)) (hn:n<=1048576):wrap64 (i+1)=i+1:=by
 unfold wrap64;omega
theorem drop_step {α:Type} (d:α) (l:List α) (i:Int) (h0:0<=i) (h:i<(l.length:Int)):l.drop i.toNat=l.getD i.toNat d :: l.drop (i+1).toNat:=by
 have h1:i.toNat<l.length:=by omega
 rw[List.drop_eq_getElem_cons h1,show (i+1).toNat=i.toNat+1 by omega]
 congr 1
 simp[List.getD_eq_getElem?_getD,List.getElem?_eq_getElem h1]
theorem toIntS_loop (xs:List Int) (hn:xs.length<=1048576):∀ (d k:Nat) (acc:List Int) (i:Int),acc.length=xs.length->0<=i->(xs.length:Int)-i=d->d<k ->
  (∀ j:Nat,(j:Int)<i->acc.getD j 0=xs.getD j 0)->XI.l0 k xs acc i=some xs:=by
 intro d
 induction d with
 |zero =>
  intro k acc i hl h0 hd hk hj
  obtain⟨k,rfl⟩:∃ m,k=m+1:=⟨k-1,by omega⟩
  simp only[XI.l0]
  rw[if_neg (by omega)]
  exact congrArg some (ext_getD hl (fun j h=>hj j (by omega)))
 |succ d ih =>
  intro k acc i hl h0 hd hk hj
  obtain⟨k,rfl⟩:∃ m,k=m+1:=⟨k-1,by omega⟩
  simp only[XI.l0]
  rw[if_pos (by omega),if_pos h0,if_pos (by omega),wrap_small (n:=xs.length) h0 (by omega) hn]
  refine ih k _ _ (by simpa using hl) (by omega) (by omega) (by omega) ?_
  intro j hj'
  rw[getD_set _ _ _ _ (by omega)]
  by_cases e:i.toNat=j
  ·rw[if_pos e];unfold rd;rw[e]
  ·rw[if_neg e];exact hj j (by omega)
theorem toIntS_ev (xs:List Int) (hn:xs.length<=1048576) (k:Nat) (hk:xs.length<k):XI.f k xs=some xs:=by
 unfold XI.f
 rw[if_pos (by omega),if_pos (by omega)]
 exact toIntS_loop xs hn xs.length k _ 0 (by simp) (by omega) (by omega) hk (fun j hj=>by omega)
theorem eqIntS_loop (xs:List Int) (hn:xs.length<=1048576):∀ (d k:Nat) (i:Int),0<=i->(xs.length:Int)-i=d->d<k->XM.l0 k xs xs i=some true:=by
 intro d
 induction d with
 |zero =>
  intro k i h0 hd hk
  obtain⟨k,rfl⟩:∃ m,k=m+1:=⟨k-1,by omega⟩
  simp only[XM.l0]
  rw[if_neg (by omega)]
 |succ d ih =>
  intro k i h0 hd hk
  obtain⟨k,rfl⟩:∃ m,k=m+1:=⟨k-1,by omega⟩
  simp only[XM.l0]
  rw[if_pos (by omega),if_pos h0,if_pos (by omega),if_pos trivial,wrap_small (n:=xs.length) h0 (by omega) hn]
  exact ih k _ (by omega) (by omega) (by omega)
theorem eqIntS_ev (xs:List Int) (hn:xs.length<=1048576) (k:Nat) (hk:xs.length<k):XM.f k xs xs=some true:=by
 unfold XM.f
 rw[if_pos rfl]
 exact eqIntS_loop xs hn xs.length k 0 (by omega) (by omega) hk
def cDepot (x:S87):S85:=⟨x.f0,x.f1⟩
theorem toDepot_ev (x:S87):X1z.f x.f0 x.f1=some (x.f0,x.f1):=rfl
theorem toDepotS_loop (xs:List S87) (hn:xs.length<=1048576):∀ (d k:Nat) (acc:List S85) (i:Int),acc.length=xs.length->0<=i->(xs.length:Int)-i=d->d<k ->
  (∀ j:Nat,(j:Int)<i->acc.getD j z85=(xs.map cDepot).getD j z85)->Xn.l0 k xs acc i=some (xs.map cDepot):=by
 intro d
 induction d with
 |zero =>
  intro k acc i hl h0 hd hk hj
  obtain⟨k,rfl⟩:∃ m,k=m+1:=⟨k-1,by omega⟩
  simp only[Xn.l0]
  rw[if_neg (by omega)]
  exact congrArg some (ext_getD (by rw[List.length_map];exact hl) (fun j h=>hj j (by omega)))
 |succ d ih =>
  intro k acc i hl h0 hd hk hj
  obtain⟨k,rfl⟩:∃ m,k=m+1:=⟨k-1,by omega⟩
  simp only[Xn.l0,toDepot_ev,Option.bind_some]
  rw[if_pos (by omega),if_pos h0,if_pos (by omega),wrap_small (n:=xs.length) h0 (by omega) hn]
  refine ih k _ _ (by simpa using hl) (by omega) (by omega) (by omega) ?_
  intro j hj'
  rw[getD_set _ _ _ _ (by omega)]
  by_cases e:i.toNat=j
  ·rw[if_pos e]
   have h1:j<xs.length:=by omega
   unfold rd_T87
   rw[e]
   simp[List.getD_eq_getElem?_getD,List.getElem?_eq_getElem h1,cDepot]
  ·rw[if_neg e];exact hj j (by omega)
theorem toDepotS_ev (xs:List S87) (hn:xs.length<=1048576) (k:Nat) (hk:xs.length<k):Xn.f k xs=some (xs.map cDepot):=by
 unfold Xn.f
 rw[if_pos (by omega),if_pos (by omega)]
 exact toDepotS_loop xs hn xs.length k _ 0 (by simp) (by omega) (by omega) hk (fun j hj=>by omega)
theorem eqDepot_ev (x:S85):X1s.f x.f0 x.f1 x.f0 x.f1=some true:=by simp[X1s.f]
theorem eqDepotS_loop (xs:List S85) (hn:xs.length<=1048576):∀ (d k:Nat) (i:Int),0<=i->(xs.length:Int)-i=d->d<k->Xl.l0 k xs xs i=some true:=by
 intro d
 induction d with
 |zero =>
  intro k i h0 hd hk
  obtain⟨k,rfl⟩:∃ m,k=m+1:=⟨k-1,by omega⟩
  simp only[Xl.l0]
  rw[if_neg (by omega)]
 |succ d ih =>
  intro k i h0 hd hk
  obtain⟨k,rfl⟩:∃ m,k=m+1:=⟨k-1,by omega⟩
  simp only[Xl.l0,eqDepot_ev,Option.bind_some,if_true]
  rw[if_pos (by omega),if_pos h0,if_pos (by omega),wrap_small (n:=xs.length) h0 (by omega) hn]
  exact ih k _ (by omega) (by omega) (by omega)
theorem eqDepotS_ev (xs:List S85) (hn:xs.length<=1048576) (k:Nat) (hk:xs.length<k):Xl.f k xs xs=some true:=by
 unfold Xl.f
 rw[if_pos rfl]
 exact eqDepotS_loop xs hn xs.length k 0 (by omega) (by omega) hk
def cMember (x:S119):S117:=⟨x.f0,x.f1,x.f2,x.f3⟩
theorem toMember_ev (x:S119):X1A.f x.f0 x.f1 x.f2 x.f3=some (x.f0,x.f1,x.f2,x.f3):=rfl
theorem toMemberS_loop (xs:List S119) (hn:xs.length<=1048576):∀ (d k:Nat) (acc:List S117) (i:Int),acc.length=xs.length->0<=i->(xs.length:Int)-i=d->d<k ->
  (∀ j:Nat,(j:Int)<i->acc.getD j z117=(xs.map cMember).getD j z117)->XJ.l0 k xs acc i=some (xs.map cMember):=by
 intro d
 induction d with
 |zero =>
  intro k acc i hl h0 hd hk hj
  obtain⟨k,rfl⟩:∃ m,k=m+1:=⟨k-1,by omega⟩
  simp only[XJ.l0]
  rw[if_neg (by omega)]
  exact congrArg some (ext_getD (by rw[List.length_map];exact hl) (fun j h=>hj j (by omega)))
 |succ d ih =>
  intro k acc i hl h0 hd hk hj
  obtain⟨k,rfl⟩:∃ m,k=m+1:=⟨k-1,by omega⟩
  simp only[XJ.l0,toMember_ev,Option.bind_some]
  rw[if_pos (by omega),if_pos h0,if_pos (by omega),wrap_small (n:=xs.length) h0 (by omega) hn]
  refine ih k _ _ (by simpa using hl) (by omega) (by omega) (by omega) ?_
  intro j hj'
  rw[getD_set _ _ _ _ (by omega)]
  by_cases e:i.toNat=j
  ·rw[if_pos e]
   have h1:j<xs.length:=by omega
   unfold rd_T119
   rw[e]
   simp[List.getD_eq_getElem?_getD,List.getElem?_eq_getElem h1,cMember]
  ·rw[if_neg e];exact hj j (by omega)
theorem toMemberS_ev (xs:List S119) (hn:xs.length<=1048576) (k:Nat) (hk:xs.length<k):XJ.f k xs=some (xs.map cMember):=by
 unfold XJ.f
 rw[if_pos (by omega),if_pos (by omega)]
 exact toMemberS_loop xs hn xs.length k _ 0 (by simp) (by omega) (by omega) hk (fun j hj=>by omega)
theorem eqMember_ev (x:S117):X1t.f x.f0 x.f1 x.f2 x.f3 x.f0 x.f1 x.f2 x.f3=some true:=by simp[X1t.f]
theorem eqMemberS_loop (xs:List S117) (hn:xs.length<=1048576):∀ (d k:Nat) (i:Int),0<=i->(xs.length:Int)-i=d->d<k->Xk.l0 k xs xs i=some true:=by
 intro d
 induction d with
 |zero =>
  intro k i h0 hd hk
  obtain⟨k,rfl⟩:∃ m,k=m+1:=⟨k-1,by omega⟩
  simp only[Xk.l0]
  rw[if_neg (by omega)]
 |succ d ih =>
  intro k i h0 hd hk
  obtain⟨k,rfl⟩:∃ m,k=m+1:=⟨k-1,by omega⟩
  simp only[Xk.l0,eqMember_ev,Option.bind_some,if_true]
  rw[if_pos (by omega),if_pos h0,if_pos (by omega),wrap_small (n:=xs.length) h0 (by omega) hn]
  exact ih k _ (by omega) (by omega) (by omega)
theorem eqMemberS_ev (xs:List S117) (hn:xs.length<=1048576) (k:Nat) (hk:xs.length<k):Xk.f k xs xs=some true:=by
 unfold Xk.f
 rw[if_pos rfl]
 exact eqMemberS_loop xs hn xs.length k 0 (by omega) (by omega) hk
theorem toBoolS_loop (xs:List Bool) (hn:xs.length<=1048576):∀ (d k:Nat) (acc:List Bool) (i:Int),acc.length=xs.length->0<=i->(xs.length:Int)-i=d->d<k ->
  (∀ j:Nat,(j:Int)<i->acc.getD j false=xs.getD j false)->XK.l0 k xs acc i=some xs:=by
 intro d
 induction d with
 |zero =>
  intro k acc i hl h0 hd hk hj
  obtain⟨k,rfl⟩:∃ m,k=m+1:=⟨k-1,by omega⟩
  simp only[XK.l0]
  rw[if_neg (by omega)]
  exact congrArg some (ext_getD hl (fun j h=>hj j (by omega)))
 |succ d ih =>
  intro k acc i hl h0 hd hk hj
  obtain⟨k,rfl⟩:∃ m,k=m+1:=⟨k-1,by omega⟩
  simp only[XK.l0]
  rw[if_pos (by omega),if_pos h0,if_pos (by omega),wrap_small (n:=xs.length) h0 (by omega) hn]
  refine ih k _ _ (by simpa using hl) (by omega) (by omega) (by omega) ?_
  intro j hj'
  rw[getD_set _ _ _ _ (by omega)]
  by_cases e:i.toNat=j
  ·rw[if_pos e];unfold rdOf;rw[e]
  ·rw[if_neg e];exact hj j (by omega)
theorem toBoolS_ev (xs:List Bool) (hn:xs.length<=1048576) (k:Nat) (hk:xs.length<k):XK.f k xs=some xs:=by
 unfold XK.f
 rw[if_pos (by omega),if_pos (by omega)]
 exact toBoolS_loop xs hn xs.length k _ 0 (by simp) (by omega) (by omega) hk (fun j hj=>by omega)
theorem eqBoolS_loop (xs:List Bool) (hn:xs.length<=1048576):∀ (d k:Nat) (i:Int),0<=i->(xs.length:Int)-i=d->d<k->XN.l0 k xs xs i=some true:=by
 intro d
 induction d with
 |zero =>
  intro k i h0 hd hk
  obtain⟨k,rfl⟩:∃ m,k=m+1:=⟨k-1,by omega⟩
  simp only[XN.l0]
  rw[if_neg (by omega)]
 |succ d ih =>
  intro k i h0 hd hk
  obtain⟨k,rfl⟩:∃ m,k=m+1:=⟨k-1,by omega⟩
  simp only[XN.l0]
  rw[if_pos (by omega),if_pos h0,if_pos (by omega),if_neg (by simp),wrap_small (n:=xs.length) h0 (by omega) hn]
  exact ih k _ (by omega) (by omega) (by omega)
theorem eqBoolS_ev (xs:List Bool) (hn:xs.length<=1048576) (k:Nat) (hk:xs.length<k):XN.f k xs xs=some true:=by
 unfold XN.f
 rw[if_pos rfl]
 exact eqBoolS_loop xs hn xs.length k 0 (by omega) (by omega) hk
theorem szParty_ev (a b:Int) (l:List S119) (h:List Bool) (hl:l.length<=maxLen) (hh:h.length<=maxLen):∃ r,X1d.f a b l h 1048576=some r/\(r<0\/(l.length<=1048576/\h.length<=1048576)):=by
 unfold maxLen at hl hh
 unfold X1d.f X1i.f X1o.f
 rw[show wrap64 (1048576-(l.length:Int))=1048576-(l.length:Int) by unfold wrap64;omega]
 by_cases h1:(1048576-(l.length:Int))<0
 ·rw[if_pos h1];exact⟨_,rfl,.inl (by omega)⟩
 ·rw[if_neg h1,Option.bind_some,if_neg h1]
  rw[show wrap64 (1048576-(l.length:Int)-(h.length:Int))=1048576-(l.length:Int)-(h.length:Int) by unfold wrap64;omega]
  by_cases h2:(1048576-(l.length:Int)-(h.length:Int))<0
  ·rw[if_pos h2];exact⟨_,rfl,.inl (by omega)⟩
  ·rw[if_neg h2,Option.bind_some,if_neg h2];exact⟨_,rfl,.inr (by omega)⟩
theorem toParty_ev (a b:Int) (l:List S119) (h:List Bool) (hl:l.length<=1048576) (hh:h.length<=1048576) (k:Nat) (hk:l.length+h.length<k):XW.f k a b l h=some (a,b,l.map cMember,h):=by
 unfold XW.f
 rw[toMemberS_ev l hl k (by omega),Option.bind_some,toBoolS_ev h hh k (by omega),Option.bind_some]
theorem eqParty_ev (a b:Int) (l:List S117) (h:List Bool) (hl:l.length<=1048576) (hh:h.length<=1048576) (k:Nat) (hk:l.length+h.length<k):XS.f k a b l h a b l h=some true:=by
 unfold XS.f
 rw[if_pos rfl,if_pos rfl,eqMemberS_ev l hl k (by omega),Option.bind_some,if_pos rfl,eqBoolS_ev h hh k (by omega),Option.bind_some,if_pos rfl]
theorem l1In_eq (a b c:Int):X6.f a b c=some (decide (b<=a/\a<=c)):=by
 unfold X6.f
 by_cases h:a>=b
 ·rw[if_pos h];congr 1;have:b<=a:=h;simp[this]
 ·rw[if_neg h];have:¬ b<=a:=h;simp[this]
theorem inRange_eq (a b c:Int):X0.f a b c=some (decide (b<=a/\a<=c)):=by
 unfold X0.f
 by_cases h:b<=a
 ·rw[if_pos h];simp[h]
 ·rw[if_neg h];simp[h]
def fitM (m:S117):Prop:=1<=m.f0/\m.f0<=99/\0<=m.f1/\m.f1<=100/\1<=m.f2/\m.f2<=10
theorem areCrew_loop (xs:List S117) (hn:xs.length<=1048576):∀ (d:Nat) (i:Int),0<=i->(xs.length:Int)-i=d ->
  ∃ b,(∀ k,d<k->X5.l0 k xs xs (xs.length:Int) i=some b/\X8.l0 k xs i=some b)/\(b=true->(1<=xs.length/\xs.length<=8)/\∀ j:Int,i<=j->j<(xs.length:Int)->fitM (rd_T117 xs j)):=by
 intro d
 induction d with
 |zero =>
  intro i h0 hd
  have hlt:¬ i<(xs.length:Int):=by omega
  refine⟨decide (1<=(xs.length:Int)/\(xs.length:Int)<=8),fun k hk=>?_,fun hb=>?_⟩
  ·obtain⟨k,rfl⟩:∃ m,k=m+1:=⟨k-1,by omega⟩
   simp only[X5.l0,X8.l0,if_neg hlt,l1In_eq,inRange_eq,Option.bind_some,and_self]
  ·have:=of_decide_eq_true hb
   exact⟨by omega,fun j h1 h2=>by omega⟩
 |succ d ih =>
  intro i h0 hd
  have hlt:i<(xs.length:Int):=by omega
  obtain⟨b,hb,hp⟩:=ih (i+1) (by omega) (by omega)
  have hw:wrap64 (i-1)=i-1:=by unfold wrap64;omega
  by_cases ok:(1<=(rd_T117 xs i).f0/\(rd_T117 xs i).f0<=99/\0<=(rd_T117 xs i).f1/\(rd_T117 xs i).f1<=100/\1<=(rd_T117 xs i).f2/\(rd_T117 xs i).f2<=10)/\(i>0->(rd_T117 xs (i-1)).f0<(rd_T117 xs i).f0)
  ·refine⟨b,fun k hk=>?_,fun e=>⟨(hp e).1,fun j h1 h2=>?_⟩⟩
   ·obtain⟨k,rfl⟩:∃ m,k=m+1:=⟨k-1,by omega⟩
    obtain⟨b1,b2⟩:=hb k (by omega)
    have e1:1<=(rd_T117 xs i).f0/\(rd_T117 xs i).f0<=99:=⟨ok.1.1,ok.1.2.1⟩
    have e2:0<=(rd_T117 xs i).f1/\(rd_T117 xs i).f1<=100:=⟨ok.1.2.2.1,ok.1.2.2.2.1⟩
    have e3:1<=(rd_T117 xs i).f2/\(rd_T117 xs i).f2<=10:=ok.1.2.2.2.2
    simp only[X5.l0,X8.l0,if_pos hlt,if_pos h0,l1In_eq,inRange_eq,Option.bind_some,decide_eq_true_eq,if_pos e1,if_pos e2,if_pos e3,hw,wrap_small (n:=xs.length) h0 hlt hn]
    by_cases hi:i>0
    ·have h1:0<=i-1:=by omega
     have h2:i-1<(xs.length:Int):=by omega
     have h3:=ok.2 hi
     have h4:¬ (rd_T117 xs i).f0<=(rd_T117 xs (i-1)).f0:=by omega
     have h5:¬ (rd_T117 xs (i-1)).f0>=(rd_T117 xs i).f0:=by omega
     simp only[if_pos hi,if_pos h1,if_pos h2,if_neg h4,if_neg h5]
     exact⟨b1,b2⟩
    ·simp only[if_neg hi]
     exact⟨b1,b2⟩
   ·by_cases e2:j=i
    ·subst e2;exact ok.1
    ·exact(hp e).2 j (by omega) h2
  ·refine⟨false,fun k hk=>?_,fun e=>by cases e⟩
   obtain⟨k,rfl⟩:∃ m,k=m+1:=⟨k-1,by omega⟩
   simp only[X5.l0,X8.l0,if_pos hlt,if_pos h0,l1In_eq,inRange_eq,Option.bind_some,decide_eq_true_eq,hw]
   constructor
   ·repeat' split
    all_goals first|rfl|(exfalso;omega)
   ·repeat' split
    all_goals first|rfl|(exfalso;omega)
theorem areCrew_ev (xs:List S117) (hn:xs.length<=1048576):∃ b,(∀ k,xs.length<k->X5.f k xs=some b/\X8.f k xs=some b)/\(b=true->(1<=xs.length/\xs.length<=8)/\∀ j:Int,0<=j->j<(xs.length:Int)->fitM (rd_T117 xs j)):=by
 obtain⟨b,h,hp⟩:=areCrew_loop xs hn xs.length 0 (by omega) (by omega)
 exact⟨b,h,hp⟩
theorem landCells_loop (W H:Int) (xs:List Int) (hn:xs.length<=1048576):∀ (d:Nat) (i:Int),0<=i->(xs.length:Int)-i=d ->
  ∃ b,(∀ k,d<k->XR.l0 k 0 2 xs (xs.length:Int) i=some b/\Xa.l0 k i W H xs=some b)/\(b=true->∀ j:Int,i<=j->j<(xs.length:Int)->0<=rd xs j/\rd xs j<=2):=by
 intro d
 induction d with
 |zero =>
  intro i h0 hd
  have hlt:¬ i<(xs.length:Int):=by omega
  refine⟨true,fun k hk=>?_,fun _ j h1 h2=>by omega⟩
  obtain⟨k,rfl⟩:∃ m,k=m+1:=⟨k-1,by omega⟩
  simp only[XR.l0,Xa.l0,if_neg hlt,and_self]
 |succ d ih =>
  intro i h0 hd
  have hlt:i<(xs.length:Int):=by omega
  obtain⟨b,hb,hp⟩:=ih (i+1) (by omega) (by omega)
  by_cases e:0<=rd xs i/\rd xs i<=2
  ·refine⟨b,fun k hk=>?_,fun h j h1 h2=>?_⟩
   ·obtain⟨k,rfl⟩:∃ m,k=m+1:=⟨k-1,by omega⟩
    simp only[XR.l0,Xa.l0,if_pos hlt,if_pos h0,l1In_eq,inRange_eq,e,and_self,decide_true,Option.bind_some,if_true,wrap_small (n:=xs.length) h0 hlt hn]
    exact hb k (by omega)
   ·by_cases h3:j=i
    ·subst h3;exact e
    ·exact hp h j (by omega) h2
  ·refine⟨false,fun k hk=>?_,fun h=>by cases h⟩
   obtain⟨k,rfl⟩:∃ m,k=m+1:=⟨k-1,by omega⟩
   simp only[XR.l0,Xa.l0,if_pos hlt,if_pos h0,l1In_eq,inRange_eq,e,decide_false,Option.bind_some,Bool.false_eq_true,if_false,and_self]
theorem isLand_ev (W H:Int) (xs:List Int) (hn:xs.length<=1048576):∃ b,(∀ k,xs.length+1<k->Xz.f k W H xs=some b/\Xa.f k W H xs=some b) /\
  (b=true->(1<=W/\W<=8)/\(1<=H/\H<=8)/\(xs.length:Int)=W * H/\1<=xs.length/\xs.length<=64/\∀ j:Int,0<=j->j<(xs.length:Int)->0<=rd xs j/\rd xs j<=2):=by
 by_cases hW:1<=W/\W<=8
 ·by_cases hH:1<=H/\H<=8
  ·have h1:W * H<=8 * 8:=Int.mul_le_mul hW.2 hH.2 (by omega) (by omega)
   have h2:1 * 1<=W * H:=Int.mul_le_mul hW.1 hH.1 (by omega) (by omega)
   have hw:wrap64 (W * H)=W * H:=by unfold wrap64;omega
   by_cases hl:(xs.length:Int)=W * H
   ·obtain⟨b,hb,hp⟩:=landCells_loop W H xs hn xs.length 0 (by omega) (by omega)
    refine⟨b,fun k hk=>?_,fun e=>⟨hW,hH,hl,by omega,by omega,hp e⟩⟩
    obtain⟨k,rfl⟩:∃ m,k=m+1:=⟨k-1,by omega⟩
    have e:((xs.length:Int) != W * H)=false:=by simp[hl]
    have b1:=(hb (k+1) (by omega)).1
    have b2:=(hb k (by omega)).2
    unfold Xz.f Xa.f
    simp only[l1In_eq,inRange_eq,hW,hH,and_self,decide_true,Option.bind_some,if_true,hw,if_pos hl,e,Xa.j0,Bool.false_eq_true,if_false,XR.f,b1,b2]
   ·refine⟨false,fun k hk=>?_,fun e=>by cases e⟩
    obtain⟨k,rfl⟩:∃ m,k=m+1:=⟨k-1,by omega⟩
    have e:((xs.length:Int) != W * H)=true:=by simp[hl]
    unfold Xz.f Xa.f
    simp only[l1In_eq,inRange_eq,hW,hH,and_self,decide_true,Option.bind_some,if_true,hw,if_neg hl,e,Xa.j0]
  ·refine⟨false,fun k hk=>?_,fun e=>by cases e⟩
   obtain⟨k,rfl⟩:∃ m,k=m+1:=⟨k-1,by omega⟩
   unfold Xz.f Xa.f
   simp only[l1In_eq,inRange_eq,hW,hH,and_self,decide_true,decide_false,Option.bind_some,if_true,Bool.false_eq_true,if_false,Xa.j0]
 ·refine⟨false,fun k hk=>?_,fun e=>by cases e⟩
  obtain⟨k,rfl⟩:∃ m,k=m+1:=⟨k-1,by omega⟩
  unfold Xz.f Xa.f
  simp only[l1In_eq,inRange_eq,hW,decide_false,Option.bind_some,if_true,Bool.false_eq_true,if_false,Xa.j0,and_self]
def fsM:List S117->Int
 |[]=>0
 |m :: ms=>m.f2+fsM ms
theorem fsM_bound:∀ l:List S117,(∀ m∈l,fitM m)->(l.length:Int)<=fsM l/\fsM l<=10 * (l.length:Int)
 |[],_=>by simp[fsM]
 |m :: ms,h=>by
  have h1:=fsM_bound ms (fun x hx=>h x (List.mem_cons_of_mem _ hx))
  have h2:=h m (List.mem_cons_self)
  unfold fitM at h2
  simp only[fsM,List.length_cons]
  omega
theorem fit_mem {xs:List S117} (h:∀ j:Int,0<=j->j<(xs.length:Int)->fitM (rd_T117 xs j)):∀ m∈xs,fitM m:=by
 intro m hm
 obtain⟨j,hj,rfl⟩:=List.mem_iff_getElem.mp hm
 have:=h (j:Int) (by omega) (by omega)
 unfold rd_T117 at this
 simpa [List.getD_eq_getElem?_getD,List.getElem?_eq_getElem hj] using this
theorem needOf_loop (xs:List S117) (hn:xs.length<=8) (hfit:∀ m∈xs,fitM m) (hc:∀ k,xs.length<k->X8.f k xs=some true):∀ (d:Nat) (i a:Int),0<=i->(xs.length:Int)-i=d->0<=a->a<=1000-10 * d ->
  ∀ k,xs.length+d+2<k->XB.l0 k a xs (xs.length:Int) i=some (a+fsM (xs.drop i.toNat))/\Xy.l0 k xs a i=some (a+fsM (xs.drop i.toNat)):=by
 intro d
 induction d with
 |zero =>
  intro i a h0 hd _ _ k hk
  obtain⟨k,rfl⟩:∃ m,k=m+1:=⟨k-1,by omega⟩
  have hlt:¬ i<(xs.length:Int):=by omega
  simp only[XB.l0,Xy.l0,if_neg hlt,List.drop_eq_nil_of_le (show xs.length<=i.toNat by omega),fsM,Int.add_zero,and_self]
 |succ d ih =>
  intro i a h0 hd ha hb k hk
  obtain⟨k,rfl⟩:∃ m,k=m+1:=⟨k-1,by omega⟩
  have hlt:i<(xs.length:Int):=by omega
  have hm:fitM (rd_T117 xs i):=hfit _ (by
   unfold rd_T117
   have h1:i.toNat<xs.length:=by omega
   simp[List.getD_eq_getElem?_getD,List.getElem?_eq_getElem h1])
  unfold fitM at hm
  have hw:wrap64 (a+(rd_T117 xs i).f2)=a+(rd_T117 xs i).f2:=by unfold wrap64;omega
  obtain⟨h1,h2⟩:=ih (i+1) (a+(rd_T117 xs i).f2) (by omega) (by omega) (by omega) (by omega) k (by omega)
  rw[drop_step z117 xs i h0 hlt,show xs.getD i.toNat z117=rd_T117 xs i from rfl]
  simp only[XB.l0,Xy.l0,if_pos hlt,if_pos h0,hc k (by omega),Option.bind_some,if_true,hw,wrap_small (n:=xs.length) h0 hlt (by omega),fsM,h1,h2,Int.add_assoc,and_self]
theorem needOf_ev (xs:List S117) (hn:xs.length<=1048576):∃ b c,(∀ k,xs.length<k->X5.f k xs=some b/\X8.f k xs=some b) /\
  (b=true->c=fsM xs/\1<=xs.length/\xs.length<=8/\(∀ m∈xs,fitM m)/\1<=c/\c<=80)/\(b=false->c=0) /\
  ∀ k,2 * xs.length+3<k->XB.f k xs=some c/\Xy.f k xs=some c:=by
 obtain⟨b,hb,hp⟩:=areCrew_ev xs hn
 cases b with
 |true =>
  obtain⟨⟨h1,h8⟩,hf⟩:=hp rfl
  have hm:=fit_mem hf
  have hbd:=fsM_bound xs hm
  refine⟨true,fsM xs,hb,fun _=>⟨rfl,h1,h8,hm,by omega,by omega⟩,(fun e=>by cases e),fun k hk=>?_⟩
  obtain⟨h3,h4⟩:=needOf_loop xs h8 hm (fun k hk=>(hb k hk).2) xs.length 0 0 (by omega) (by omega) (by omega) (by omega) k (by omega)
  rw[Int.toNat_zero,List.drop_zero,Int.zero_add] at h3 h4
  unfold XB.f Xy.f
  simp only[(hb k (by omega)).1,Option.bind_some,if_true]
  exact⟨h3,h4⟩
 |false =>
  refine⟨false,0,hb,fun e=>(by cases e),fun _=>rfl,fun k hk=>?_⟩
  obtain⟨k,rfl⟩:∃ m,k=m+1:=⟨k-1,by omega⟩
  unfold XB.f Xy.f
  simp only[(hb (k+1) (by omega)).1,Option.bind_some,Bool.false_eq_true,if_false,Xy.l0,(hb k (by omega)).2,ite_self,and_self]
theorem capOf2_loop (xs:List S117) (hn:xs.length<=1048576) (h8:xs.length<=8) (hf:∀ j:Int,0<=j->j<(xs.length:Int)->fitM (rd_T117 xs j)) (hc:∀ k,xs.length<k->X8.f k xs=some true):∀ (d:Nat) (i a:Int),0<=i->(xs.length:Int)-i=d->0<=a->a<=100 * i ->
  ∃ c,(0<=c/\c<=800)/\∀ k,xs.length+2 * d+2<k->Xr.l0 k a xs (xs.length:Int) i=some c/\Xh.l0 k xs a i=some c:=by
 intro d
 induction d with
 |zero =>
  intro i a h0 hd ha ha2
  have hlt:¬ i<(xs.length:Int):=by omega
  refine⟨a,⟨ha,by omega⟩,fun k hk=>?_⟩
  obtain⟨k,rfl⟩:∃ m,k=m+2:=⟨k-2,by omega⟩
  simp only[Xr.l0,Xh.l0,Xh.j1,if_neg hlt,Bool.false_eq_true,if_false,and_self]
 |succ d ih =>
  intro i a h0 hd ha ha2
  have hm:=hf i h0 (by omega)
  unfold fitM at hm
  have hwa:wrap64 (a+(rd_T117 xs i).f1)=a+(rd_T117 xs i).f1:=by unfold wrap64;omega
  have hlt:i<(xs.length:Int):=by omega
  by_cases hf:(rd_T117 xs i).f3=true
  ·obtain⟨c,hcb,hk2⟩:=ih (i+1) a (by omega) (by omega) ha (by omega)
   refine⟨c,hcb,fun k hk=>?_⟩
   obtain⟨k,rfl⟩:∃ m,k=m+2:=⟨k-2,by omega⟩
   have h1:=(hk2 (k+1) (by omega)).1
   have h2:=(hk2 k (by omega)).2
   simp only[Xr.l0,Xh.l0,Xh.j1,if_pos hlt,if_pos h0,if_pos hf,hc (k+1) (by omega),Option.bind_some,if_true,wrap_small (n:=xs.length) h0 hlt hn] at h1 h2 ⊢
   exact⟨h1,h2⟩
  ·obtain⟨c,hcb,hk2⟩:=ih (i+1) (wrap64 (a+(rd_T117 xs i).f1)) (by omega) (by omega) (by omega) (by omega)
   refine⟨c,hcb,fun k hk=>?_⟩
   obtain⟨k,rfl⟩:∃ m,k=m+2:=⟨k-2,by omega⟩
   have h1:=(hk2 (k+1) (by omega)).1
   have h2:=(hk2 k (by omega)).2
   constructor
   ·rw[Xr.l0]
    simp only[if_pos hlt,if_pos h0,if_neg hf,wrap_small (n:=xs.length) h0 hlt hn]
    exact h1
   ·rw[Xh.l0]
    simp only[Xh.j1,if_pos hlt,if_pos h0,if_neg hf,hc (k+1) (by omega),Option.bind_some,if_true,wrap_small (n:=xs.length) h0 hlt hn]
    exact h2
theorem capOf_ev2 (xs:List S117) (hn:xs.length<=1048576):∃ c,(0<=c/\c<=800)/\∀ k,3 * xs.length+3<k->Xr.f k xs=some c/\Xh.f k xs=some c:=by
 obtain⟨b,hb,hp⟩:=areCrew_ev xs hn
 cases b with
 |true =>
  obtain⟨⟨h1,h8⟩,hf⟩:=hp rfl
  obtain⟨c,hcb,hc⟩:=capOf2_loop xs hn h8 hf (fun k hk=>(hb k hk).2) xs.length 0 0 (by omega) (by omega) (by omega) (by omega)
  refine⟨c,hcb,fun k hk=>?_⟩
  unfold Xr.f Xh.f
  simp only[(hb k (by omega)).1,Option.bind_some,if_true]
  exact hc k (by omega)
 |false =>
  refine⟨0,by omega,fun k hk=>?_⟩
  obtain⟨k,rfl⟩:∃ m,k=m+2:=⟨k-2,by omega⟩
  unfold Xr.f Xh.f
  simp only[(hb (k+2) (by omega)).1,Option.bind_some,Bool.false_eq_true,if_false,Xh.l0,(hb (k+1) (by omega)).2,Xh.j1,ite_self,and_self]
theorem copied_ev (a b:Int) (l:List S117) (h:List Bool) (hl:l.length<=1048576) (hh:h.length<=1048576):Xv.f a b l h=some (a,b,l,h)/\Xw.f a b l h=some (a,b,l,h):=by
 have e1:([]:List S117).length+l.length<4398046511104:=by simp;omega
 have e2:([]:List Bool).length+h.length<140737488355328:=by simp;omega
 unfold Xv.f Xw.f X1w.f
 simp only[Option.bind_some,if_pos e1,if_pos e2,List.nil_append,and_self]
theorem specMin_eq (a b:Int):X1v.f a b=some (mn a b):=by
 unfold X1v.f mn;split <;> rfl
theorem eat_ev (a b:Int) (l:List S117) (h:List Bool) (hl:l.length<=1048576) (hh:h.length<=1048576):∃ b' o,∀ k,2 * l.length+3<k->Xd.f k a b l h=some (a,b',l,h,o)/\XL.f k a b l h=some (a,b',l,h,o):=by
 obtain⟨c,N,hc,ht,hz,hneed⟩:=needOf_ev l hl
 obtain⟨c1,c2⟩:=copied_ev a b l h hl hh
 cases c with
 |true =>
  obtain⟨_,_,_,_,hN1,_⟩:=ht rfl
  have hNz:¬ N=0:=by omega
  by_cases hb:b<N
  ·refine⟨b,false,fun k hk=>?_⟩
   unfold Xd.f XL.f
   simp only[c1,c2,Option.bind_some,(hc k (by omega)).1,(hneed k hk).1,(hneed k hk).2,if_true,if_neg hNz,if_pos hb,and_self]
  ·refine⟨wrap64 (b-N),true,fun k hk=>?_⟩
   unfold Xd.f XL.f
   simp only[c1,c2,Option.bind_some,(hc k (by omega)).1,(hneed k hk).1,(hneed k hk).2,if_true,if_neg hNz,if_neg hb,and_self]
 |false =>
  have hN:N=0:=hz rfl
  subst hN
  refine⟨b,false,fun k hk=>?_⟩
  unfold Xd.f XL.f
  simp only[c1,c2,Option.bind_some,(hc k (by omega)).1,(hneed k hk).2,if_true,Bool.false_eq_true,if_false,and_self]
def negs:List Int->Nat
 |[]=>0
 |v :: vs=>(if v<0 then 1 else 0)+negs vs
theorem negs_set:∀ (l:List Int) (i:Nat) (v:Int),i<l.length->l.getD i 0<0->0<=v->negs (l.set i v)+1=negs l
 |x :: xs,0,v,_,h,hv=>by
  simp only[List.getD_cons_zero] at h
  simp only[List.set_cons_zero,negs,if_pos h]
  rw[if_neg (by omega)];omega
 |x :: xs,i+1,v,hi,h,hv=>by
  have:=negs_set xs i v (by simpa using hi) (by simpa using h) hv
  simp only[List.set_cons_succ,negs];omega
def visit (d q:List Int) (own:Int):List Int->List Int × List Int
 |[]=>(d,q)
 |b :: bs=>if rd d b<0 then visit (d.set b.toNat (rd d own+1)) (q++[b]) own bs else visit d q own bs
def bfs (adj:Int->List Int):Nat->List Int->List Int->List Int
 |0,d,_=>d
 |_+1,d,[]=>d
 |f+1,d,own :: rest=>bfs adj f (visit d rest own (adj own)).1 (visit d rest own (adj own)).2
theorem rd_set_b (l:List Int) (x j v:Int) (hx:0<=x) (hx2:x<(l.length:Int)) (hj:0<=j):rd (l.set x.toNat v) j=if j=x then v else rd l j:=by
 unfold rd
 rw[List.getD_eq_getElem?_getD,List.getD_eq_getElem?_getD,List.getElem?_set]
 by_cases e:j=x
 ·subst e
  have h:j.toNat<l.length:=by omega
  simp[h]
 ·rw[if_neg (show ¬ x.toNat=j.toNat by omega),if_neg e]
structure Visited (d q:List Int) (own:Int) (bs:List Int) (d' q':List Int):Prop where
 len:d'.length=d.length
 old:∀ v,0<=v->0<=rd d v->rd d' v=rd d v
 new:∀ v,0<=v->rd d v<0->rd d' v=rd d v\/(v∈bs/\rd d' v=rd d own+1)
 seen:∀ b∈bs,0<=rd d' b
 que:∃ ns,q'=q++ns/\ns.length+negs d'=negs d/\(∀ x∈ns,x∈bs/\rd d' x=rd d own+1)/\∀ v,0<=v->rd d v<0->0<=rd d' v->v∈ns
theorem visit_spec (n:Nat) (own:Int) (hown:0<=own):∀ (bs d q:List Int),d.length=n->0<=rd d own->(∀ b∈bs,0<=b/\b<(n:Int))->Visited d q own bs (visit d q own bs).1 (visit d q own bs).2
 |[],d,q,hl,h0,hb=>⟨rfl,fun _ _ _=>rfl,fun _ _ _=>Or.inl rfl,fun b hb=>(by cases hb),⟨[],(by simp[visit]),(by simp[visit]),fun x hx=>(by cases hx),fun v h1 h2 h3=>(by simp only[visit] at h3;omega)⟩⟩
 |b :: bs,d,q,hl,h0,hb=>by
  have hbb:=hb b (List.mem_cons_self)
  unfold visit
  by_cases c:rd d b<0
  ·rw[if_pos c]
   have hr:=fun j hj=>rd_set_b d b j (rd d own+1) hbb.1 (by omega) hj
   have hob:own≠b:=fun e=>by rw[e] at h0;omega
   have ho2:rd (d.set b.toNat (rd d own+1)) own=rd d own:=by rw[hr own hown,if_neg hob]
   have ih:=visit_spec n own hown bs (d.set b.toNat (rd d own+1)) (q++[b]) (by simpa using hl) (by rw[ho2];exact h0) (fun x hx=>hb x (List.mem_cons_of_mem _ hx))
   obtain⟨i1,i2,i3,i4,ns,i5,i6,i7,i8⟩:=ih
   rw[ho2] at i3 i7
   have hb1:rd (d.set b.toNat (rd d own+1)) b=rd d own+1:=by rw[hr b hbb.1,if_pos rfl]
   have hb2:=i2 b hbb.1 (by rw[hb1];omega)
   rw[hb1] at hb2
   refine⟨by rw[i1,List.length_set],fun v hv h=>?_,fun v hv h=>?_,fun x hx=>?_,b :: ns,by rw[i5];simp,?_,fun x hx=>?_,fun v hv h1 h2=>?_⟩
   ·have hvb:v≠b:=fun e=>by rw[e] at h;omega
    rw[i2 v hv (by rw[hr v hv,if_neg hvb];exact h),hr v hv,if_neg hvb]
   ·by_cases e:v=b
    ·subst e;exact Or.inr ⟨List.mem_cons_self,hb2⟩
    ·have h2:=i3 v hv (by rw[hr v hv,if_neg e];exact h)
     rw[hr v hv,if_neg e] at h2
     rcases h2 with h2|⟨h2,h3⟩
     ·exact Or.inl h2
     ·exact Or.inr ⟨List.mem_cons_of_mem _ h2,h3⟩
   ·rcases List.mem_cons.mp hx with h|h
    ·rw[h,hb2];omega
    ·exact i4 x h
   ·have:=negs_set d b.toNat (rd d own+1) (by omega) (by exact c) (by omega)
    simp only[List.length_cons];omega
   ·rcases List.mem_cons.mp hx with h|h
    ·rw[h];exact⟨List.mem_cons_self,hb2⟩
    ·exact⟨List.mem_cons_of_mem _ (i7 x h).1,(i7 x h).2⟩
   ·by_cases e:v=b
    ·rw[e];exact List.mem_cons_self
    ·exact List.mem_cons_of_mem _ (i8 v hv (by rw[hr v hv,if_neg e];exact h1) h2)
  ·rw[if_neg c]
   obtain⟨i1,i2,i3,i4,ns,i5,i6,i7,i8⟩:=visit_spec n own hown bs d q hl h0 (fun x hx=>hb x (List.mem_cons_of_mem _ hx))
   refine⟨i1,i2,fun v hv h=>?_,fun x hx=>?_,ns,i5,i6,fun x hx=>⟨List.mem_cons_of_mem _ (i7 x hx).1,(i7 x hx).2⟩,i8⟩
   ·rcases i3 v hv h with h2|⟨h2,h3⟩
    ·exact Or.inl h2
    ·exact Or.inr ⟨List.mem_cons_of_mem _ h2,h3⟩
   ·rcases List.mem_cons.mp hx with h|h
    ·rw[h,i2 b hbb.1 (by omega)];omega
    ·exact i4 x h
structure BInv (adj:Int->List Int) (n:Nat) (src:Int) (d q:List Int) (m:Int):Prop where
 len:d.length=n
 m0:0<=m
 src0:rd d src=0
 zero:∀ v,0<=v->v<(n:Int)->rd d v=0->v=src
 lvl:∃ A B,q=A++B/\(∀ x∈A,0<=x/\x<(n:Int)/\rd d x=m)/\(∀ x∈B,0<=x/\x<(n:Int)/\rd d x=m+1)
 top:∀ v,0<=v->rd d v<=m+1
 from_:∀ v,0<=v->v<(n:Int)->0<=rd d v->v≠src->∃ u,0<=u/\u<(n:Int)/\v∈adj u/\0<=rd d u/\rd d u=rd d v-1
 done:∀ u,0<=u->u<(n:Int)->0<=rd d u->u ∉ q->∀ v∈adj u,0<=rd d v/\rd d v<=rd d u+1
structure BEnd (adj:Int->List Int) (n:Nat) (src:Int) (d:List Int):Prop where
 len:d.length=n
 src0:rd d src=0
 zero:∀ v,0<=v->v<(n:Int)->rd d v=0->v=src
 from_:∀ v,0<=v->v<(n:Int)->0<=rd d v->v≠src->∃ u,0<=u/\u<(n:Int)/\v∈adj u/\0<=rd d u/\rd d u=rd d v-1
 done:∀ u,0<=u->u<(n:Int)->0<=rd d u->∀ v∈adj u,0<=rd d v/\rd d v<=rd d u+1
theorem bfs_end (adj:Int->List Int) (n:Nat) (src:Int) (hs:0<=src) (hs1:src<(n:Int)) (hadj:∀ u,0<=u->u<(n:Int)->∀ v∈adj u,0<=v/\v<(n:Int)):∀ (f:Nat) (d q:List Int) (m:Int),BInv adj n src d q m->q.length+negs d<=f->BEnd adj n src (bfs adj f d q):=by
 have endq:∀ (d:List Int) (m:Int),BInv adj n src d [] m->BEnd adj n src d:=fun d m h=>⟨h.len,h.src0,h.zero,h.from_,fun u hu hu1 h2=>h.done u hu hu1 h2 (by simp)⟩
 intro f
 induction f with
 |zero =>
  intro d q m h hf
  have:q=[]:=List.eq_nil_of_length_eq_zero (by omega)
  subst this
  exact endq d m h
 |succ f ih =>
  intro d q m h hf
  cases q with
  |nil=>exact endq d m h
  |cons own rest =>
   have key:∃ m',m<=m'/\BInv adj n src d (own :: rest) m'/\(0<=own/\own<(n:Int)/\rd d own=m')/\∃ A B,rest=A++B/\(∀ x∈A,0<=x/\x<(n:Int)/\rd d x=m')/\(∀ x∈B,0<=x/\x<(n:Int)/\rd d x=m'+1):=by
    obtain⟨A,B,e,hA,hB⟩:=h.lvl
    cases A with
    |cons a A =>
     simp only[List.cons_append,List.cons.injEq] at e
     obtain⟨rfl,rfl⟩:=e
     exact⟨m,Int.le_refl _,h,hA own List.mem_cons_self,A,B,rfl,fun x hx=>hA x (List.mem_cons_of_mem _ hx),hB⟩
    |nil =>
     simp only[List.nil_append] at e
     subst e
     refine⟨m+1,by omega,⟨h.len,by have:=h.m0;omega,h.src0,h.zero,⟨own :: rest,[],by simp,hB,fun x hx=>by cases hx⟩,fun v hv=>by have:=h.top v hv;omega,h.from_,h.done⟩,hB own List.mem_cons_self,rest,[],by simp,fun x hx=>hB x (List.mem_cons_of_mem _ hx),fun x hx=>by cases hx⟩
   obtain⟨m',_,h',⟨ho0,ho1,ho2⟩,A,B,hr,hA,hB⟩:=key
   have hm0:=h'.m0
   obtain⟨v1,v2,v3,v4,ns,v5,v6,v7,v8⟩:=visit_spec n own ho0 (adj own) d rest h'.len (by omega) (hadj own ho0 ho1)
   show BEnd adj n src (bfs adj f (visit d rest own (adj own)).1 (visit d rest own (adj own)).2)
   obtain⟨d',hd'⟩:∃ d',d'=(visit d rest own (adj own)).1:=⟨_,rfl⟩
   obtain⟨q',hq'⟩:∃ q',q'=(visit d rest own (adj own)).2:=⟨_,rfl⟩
   rw[<-hd'] at v1 v2 v3 v4 v6 v7 v8 ⊢
   rw[<-hq'] at v5 ⊢
   have keep:∀ x,0<=x->0<=rd d x->rd d' x=rd d x:=v2
   have hsrc:rd d' src=0:=by rw[keep src hs (by rw[h'.src0];omega),h'.src0]
   refine ih d' q' m' ⟨by rw[v1,h'.len],hm0,hsrc,fun v hv hv1 e=>?_,?_,fun v hv=>?_,fun v hv hv1 e hne=>?_,fun u hu hu1 e hnq v hvu=>?_⟩ ?_
   ·by_cases c:0<=rd d v
    ·exact h'.zero v hv hv1 (by rw[<-keep v hv c];exact e)
    ·rcases v3 v hv (by omega) with h2|⟨_,h2⟩ <;> omega
   ·refine⟨A,B++ns,by rw[v5,hr,List.append_assoc],fun x hx=>?_,fun x hx=>?_⟩
    ·have:=hA x hx
     exact⟨this.1,this.2.1,by rw[keep x this.1 (by omega)];exact this.2.2⟩
    ·rcases List.mem_append.mp hx with h2|h2
     ·have:=hB x h2
      exact⟨this.1,this.2.1,by rw[keep x this.1 (by omega)];exact this.2.2⟩
     ·obtain⟨h3,h4⟩:=v7 x h2
      have:=hadj own ho0 ho1 x h3
      exact⟨this.1,this.2,by rw[h4,ho2]⟩
   ·by_cases c:0<=rd d v
    ·rw[keep v hv c];exact h'.top v hv
    ·rcases v3 v hv (by omega) with h2|⟨_,h2⟩ <;> omega
   ·by_cases c:0<=rd d v
    ·obtain⟨u,u1,u2,u3,u4,u5⟩:=h'.from_ v hv hv1 c hne
     exact⟨u,u1,u2,u3,by rw[keep u u1 u4];exact u4,by rw[keep u u1 u4,keep v hv c];exact u5⟩
    ·rcases v3 v hv (by omega) with h2|⟨h2,h3⟩
     ·omega
     ·exact⟨own,ho0,ho1,h2,by rw[keep own ho0 (by omega)];omega,by rw[keep own ho0 (by omega),h3];omega⟩
   ·by_cases c:0<=rd d u
    ·rw[keep u hu c]
     by_cases e2:u=own
     ·subst e2
      refine⟨v4 v hvu,?_⟩
      have hvr:=hadj u ho0 ho1 v hvu
      by_cases c2:0<=rd d v
      ·rw[keep v hvr.1 c2,ho2];exact h'.top v hvr.1
      ·rcases v3 v hvr.1 (by omega) with h2|⟨_,h2⟩
       ·have:=v4 v hvu;omega
       ·omega
     ·have hnq2:u ∉ own :: rest:=by
       intro hm
       rcases List.mem_cons.mp hm with h2|h2
       ·exact e2 h2
       ·exact hnq (by rw[v5];exact List.mem_append_left _ h2)
      obtain⟨h2,h3⟩:=h'.done u hu hu1 c hnq2 v hvu
      have hv0:0<=v:=(hadj u hu hu1 v hvu).1
      rw[keep v hv0 h2]
      exact⟨h2,h3⟩
    ·exfalso
     exact hnq (by rw[v5];exact List.mem_append_right _ (v8 u hu (by omega) e))
   ·have:(own :: rest).length=rest.length+1:=rfl
    rw[v5,List.length_append];omega
structure LandOk (W H:Int) (xs:List Int):Prop where
 w:1<=W/\W<=8
 h:1<=H/\H<=8
 len:(xs.length:Int)=W * H
 pos:1<=xs.length
 le:xs.length<=64
 ev:∀ k,70<k->Xz.f k W H xs=some true/\Xa.f k W H xs=some true
theorem land_cases (W H:Int) (xs:List Int) (hn:xs.length<=1048576):LandOk W H xs\/∀ k,xs.length+1<k->Xz.f k W H xs=some false/\Xa.f k W H xs=some false:=by
 obtain⟨b,hb,hp⟩:=isLand_ev W H xs hn
 cases b with
 |false=>exact Or.inr hb
 |true =>
  obtain⟨h1,h2,h3,h4,h5,_⟩:=hp rfl
  exact Or.inl ⟨h1,h2,h3,h4,h5,fun k hk=>hb k (by omega)⟩
def opn (xs:List Int) (m:Int):Bool:=decide (0<=m/\m<(xs.length:Int)) && (rd xs m != 2)
theorem opn_in {xs:List Int} {m:Int} (h:opn xs m=true):0<=m/\m<(xs.length:Int):=by
 unfold opn at h
 rw[Bool.and_eq_true,decide_eq_true_eq] at h
 exact h.1
theorem isCell_ok {W H:Int} {xs:List Int} (L:LandOk W H xs) (m:Int) (k:Nat) (hk:70<k):XF.f k W H xs m=some (decide (0<=m/\m<(xs.length:Int)))/\X13.f k W H xs m=some (decide (0<=m/\m<(xs.length:Int))):=by
 have:=L.pos
 have:=L.le
 have e:wrap64 ((xs.length:Int)-1)=(xs.length:Int)-1:=by unfold wrap64;omega
 have e2:decide (0<=m/\m<=(xs.length:Int)-1)=decide (0<=m/\m<(xs.length:Int)):=decide_eq_decide.mpr (by omega)
 unfold XF.f X13.f
 simp only[(L.ev k hk).1,(L.ev k hk).2,Option.bind_some,if_true,e,inRange_eq,l1In_eq,e2,and_self]
theorem isOpen_ok {W H:Int} {xs:List Int} (L:LandOk W H xs) (m:Int) (k:Nat) (hk:70<k):Xg.f k W H xs m=some (opn xs m)/\Xm.f k W H xs m=some (opn xs m):=by
 obtain⟨c1,c2⟩:=isCell_ok L m k hk
 unfold Xg.f Xm.f
 rw[c1,c2]
 unfold opn
 by_cases h:0<=m/\m<(xs.length:Int)
 ·simp only[h,and_self,decide_true,Option.bind_some,if_true,Bool.true_and]
 ·simp only[h,decide_false,Option.bind_some,Bool.false_eq_true,if_false,Bool.false_and,and_self]
theorem isCell_no {W H:Int} {xs:List Int} (m:Int) (k:Nat) (h:Xz.f k W H xs=some false/\Xa.f k W H xs=some false):XF.f k W H xs m=some false/\X13.f k W H xs m=some false:=by
 unfold XF.f X13.f
 simp only[h.1,h.2,Option.bind_some,Bool.false_eq_true,if_false,and_self]
theorem isOpen_no {W H:Int} {xs:List Int} (m:Int) (k:Nat) (h:Xz.f k W H xs=some false/\Xa.f k W H xs=some false):Xg.f k W H xs m=some false/\Xm.f k W H xs m=some false:=by
 obtain⟨c1,c2⟩:=isCell_no m k h
 unfold Xg.f Xm.f
 simp only[c1,c2,Option.bind_some,Bool.false_eq_true,if_false,and_self]
def ab (a:Int):Int:=mx a (-a)
def ap (W n m:Int):Int:=ab (n % W-m % W)+ab (n / W-m / W)
theorem w_cases {W:Int} (h:1<=W/\W<=8):W=1\/W=2\/W=3\/W=4\/W=5\/W=6\/W=7\/W=8:=by omega
theorem size_ok (a:Int) (h:-1000<=a/\a<=1000):X1j.f a=some (ab a):=by
 unfold X1j.f ab
 rw[show wrap64 (-a)=-a by unfold wrap64;omega]
theorem ab_bound (a:Int) (h:-1000<=a/\a<=1000):0<=ab a/\ab a<=1000:=by
 unfold ab mx;split <;> omega
theorem apart_ok {W H:Int} {xs:List Int} (L:LandOk W H xs) (n m:Int) (hn:0<=n/\n<(xs.length:Int)) (hm:0<=m/\m<(xs.length:Int)) (k:Nat) (hk:71<k):Xp.f k W H xs n m=some (ap W n m):=by
 obtain⟨k,rfl⟩:∃ j,k=j+1:=⟨k-1,by omega⟩
 have hw:=L.w
 have:=L.le
 have t1:Int.tmod n W=n % W:=Int.tmod_eq_emod_of_nonneg hn.1
 have t2:Int.tmod m W=m % W:=Int.tmod_eq_emod_of_nonneg hm.1
 have d1:Int.tdiv n W=n / W:=Int.tdiv_eq_ediv_of_nonneg hn.1
 have d2:Int.tdiv m W=m / W:=Int.tdiv_eq_ediv_of_nonneg hm.1
 have b1:=Int.emod_nonneg n (show W≠0 by omega)
 have b2:=Int.emod_lt_of_pos n (show 0<W by omega)
 have b3:=Int.emod_nonneg m (show W≠0 by omega)
 have b4:=Int.emod_lt_of_pos m (show 0<W by omega)
 have b5:0<=n / W/\n / W<=64:=by rcases w_cases hw with e|e|e|e|e|e|e|e <;> subst e <;> omega
 have b6:0<=m / W/\m / W<=64:=by rcases w_cases hw with e|e|e|e|e|e|e|e <;> subst e <;> omega
 have e1:wrap64 (n % W-m % W)=n % W-m % W:=by unfold wrap64;omega
 have e2:wrap64 (n / W)=n / W:=by unfold wrap64;omega
 have e3:wrap64 (m / W)=m / W:=by unfold wrap64;omega
 have e4:wrap64 (n / W-m / W)=n / W-m / W:=by unfold wrap64;omega
 have s1:=size_ok (n % W-m % W) (by omega)
 have s2:=size_ok (n / W-m / W) (by omega)
 have s3:=ab_bound (n % W-m % W) (by omega)
 have s4:=ab_bound (n / W-m / W) (by omega)
 have e5:wrap64 (ab (n % W-m % W)+ab (n / W-m / W))=ab (n % W-m % W)+ab (n / W-m / W):=by unfold wrap64;omega
 have hw0:¬ W=0:=by omega
 unfold Xp.f
 simp only[(isCell_ok L n (k+1) (by omega)).1,(isCell_ok L m (k+1) (by omega)).1,hn,hm,and_self,decide_true,Option.bind_some,if_true,Xp.j0,Bool.not_true,Bool.false_eq_true,if_false,if_neg hw0,t1,t2,d1,d2,e1,e2,e3,e4,s1,s2,e5,ap]
def nearL (W:Int) (xs:List Int) (n:Int):List Int :=
 (((if W<=n/\rd xs (n-W)≠2 then [n-W] else [])++(if 0<n % W/\rd xs (n-1)≠2 then [n-1] else []))++(if n % W<W-1/\rd xs (n+1)≠2 then [n+1] else []))++(if n+W<(xs.length:Int)/\rd xs (n+W)≠2 then [n+W] else [])
theorem row_end {W H n l:Int} (hw:1<=W/\W<=8) (hl:l=W * H) (hn:n<l) (h0:0<=n) (h:n % W<W-1):n+1<l:=by
 rcases w_cases hw with e|e|e|e|e|e|e|e <;> subst e <;> omega
theorem l4Near_ok {W H:Int} {xs:List Int} (L:LandOk W H xs) (n:Int) (hn:0<=n/\n<(xs.length:Int)) (k:Nat) (hk:5<k):X3.f k W H xs n=some (nearL W xs n):=by
 obtain⟨k,rfl⟩:∃ j,k=j+5:=⟨k-5,by omega⟩
 have hw:=L.w
 have:=L.le
 have t1:Int.tmod n W=n % W:=Int.tmod_eq_emod_of_nonneg hn.1
 have e1:wrap64 (n-W)=n-W:=by unfold wrap64;omega
 have e2:wrap64 (n-1)=n-1:=by unfold wrap64;omega
 have e3:wrap64 (n+1)=n+1:=by unfold wrap64;omega
 have e4:wrap64 (n+W)=n+W:=by unfold wrap64;omega
 have e5:wrap64 (W-1)=W-1:=by unfold wrap64;omega
 have hw0:¬ W=0:=by omega
 have hr:=fun h=>row_end hw L.len hn.2 hn.1 h
 have hp:0<n % W->0<=n-1:=fun h=>by
  by_cases h0:n=0
  ·subst h0;simp at h
  ·omega
 have j4:∀ (j:Nat) (acc:List Int) (c:Bool),acc.length<=10->X3.j4 (j+1) n acc c W H xs=some ((acc++(if c=true then [n+1] else []))++(if n+W<(xs.length:Int)/\rd xs (n+W)≠2 then [n+W] else [])):=by
  intro j acc c ha
  have q1:acc.length<17592186044416:=by omega
  have q2:(acc++[n+1]).length<17592186044416:=by simp;omega
  have q3:0<=n+W:=by omega
  rw[X3.j4]
  simp only[e3,e4,if_pos q1,if_pos q2,if_pos q3,Option.bind_some]
  by_cases c0:c=true
  ·by_cases c1:n+W<(xs.length:Int)
   ·by_cases c2:rd xs (n+W)=2
    ·simp[c0,c1,c2]
    ·simp[c0,c1,c2]
   ·simp[c0,c1]
  ·by_cases c1:n+W<(xs.length:Int)
   ·by_cases c2:rd xs (n+W)=2
    ·simp[c0,c1,c2]
    ·simp[c0,c1,c2]
   ·simp[c0,c1]
 have j3:∀ (j:Nat) (acc:List Int),acc.length<=10->X3.j3 (j+2) n acc W H xs=some ((acc++(if n % W<W-1/\rd xs (n+1)≠2 then [n+1] else []))++(if n+W<(xs.length:Int)/\rd xs (n+W)≠2 then [n+W] else [])):=by
  intro j acc ha
  rw[X3.j3]
  simp only[if_neg hw0,t1,e3,e5]
  by_cases c1:n % W<W-1
  ·have q1:=hr c1
   have q2:0<=n+1:=by omega
   rw[if_pos c1,if_pos q2,if_pos q1,j4 j acc _ ha]
   by_cases c2:rd xs (n+1)=2
   ·simp[c1,c2]
   ·simp[c1,c2]
  ·rw[if_neg c1,j4 j acc _ ha]
   simp[c1]
 have j2:∀ (j:Nat) (acc:List Int) (c:Bool),acc.length<=8->X3.j2 (j+3) n acc c W H xs=some (((acc++(if c=true then [n-1] else []))++(if n % W<W-1/\rd xs (n+1)≠2 then [n+1] else []))++(if n+W<(xs.length:Int)/\rd xs (n+W)≠2 then [n+W] else [])):=by
  intro j acc c ha
  have q1:acc.length<17592186044416:=by omega
  rw[X3.j2]
  simp only[e2,if_pos q1]
  by_cases c0:c=true
  ·rw[if_pos c0,j3 j _ (by simp;omega),if_pos c0]
  ·rw[if_neg c0,j3 j _ (by omega),if_neg c0,List.append_nil]
 have j1:∀ (j:Nat) (acc:List Int),acc.length<=8->X3.j1 (j+4) n acc W H xs=some (((acc++(if 0<n % W/\rd xs (n-1)≠2 then [n-1] else []))++(if n % W<W-1/\rd xs (n+1)≠2 then [n+1] else []))++(if n+W<(xs.length:Int)/\rd xs (n+W)≠2 then [n+W] else [])):=by
  intro j acc ha
  rw[X3.j1]
  simp only[if_neg hw0,t1,e2,gt_iff_lt]
  by_cases c1:0<n % W
  ·have q1:=hp c1
   have q2:n-1<(xs.length:Int):=by omega
   rw[if_pos c1,if_pos q1,if_pos q2,j2 j acc _ ha]
   by_cases c2:rd xs (n-1)=2
   ·simp[c1,c2]
   ·simp[c1,c2]
  ·rw[if_neg c1,j2 j acc _ ha]
   simp[c1]
 unfold X3.f nearL
 simp only[Option.bind_some,e1,ge_iff_le]
 have q0:([]:List Int).length<17592186044416:=by simp
 by_cases c1:W<=n
 ·have q1:0<=n-W:=by omega
  have q2:n-W<(xs.length:Int):=by omega
  rw[if_pos c1,if_pos q1,if_pos q2,X3.j0]
  simp only[e1,if_pos q0]
  by_cases c2:rd xs (n-W)=2
  ·simp only[c2,bne_self_eq_false,Bool.false_eq_true,if_false]
   rw[j1 k [] (by simp)]
   simp[c1]
  ·rw[if_pos (by simp[c2]),j1 k _ (by simp)]
   simp[c1,c2]
 ·rw[if_neg c1,X3.j0]
  simp only[Bool.false_eq_true,if_false]
  rw[j1 k [] (by simp)]
  simp[c1]
def nearP (W:Int) (xs:List Int) (n m:Int):Bool:=opn xs m && decide (ap W n m=1)
theorem nearLoop {W H:Int} {xs:List Int} (L:LandOk W H xs) (n:Int) (hn:0<=n/\n<(xs.length:Int)) (ys:List Int) (hy:ys.length=4) (K:Nat) (hK:80<=K) (r:List Int) :
  ∀ (d:Nat) (i:Int) (acc:List Int),0<=i->(ys.length:Int)-i=d->acc.length+d<=100->(∀ k,K<k->Xe.f k (acc++(ys.drop i.toNat).filter (nearP W xs n))=some r) ->
  ∀ k,K+d+1<k->Xj.l0 k n acc ys (ys.length:Int) i W H xs=some r:=by
 intro d
 induction d with
 |zero =>
  intro i acc h0 hd ha hr k hk
  obtain⟨k,rfl⟩:∃ j,k=j+1:=⟨k-1,by omega⟩
  have hlt:¬ i<(ys.length:Int):=by omega
  rw[List.drop_eq_nil_of_le (by omega),List.filter_nil,List.append_nil] at hr
  simp only[Xj.l0,if_neg hlt,hr k (by omega),Option.bind_some]
 |succ d ih =>
  intro i acc h0 hd ha hr k hk
  obtain⟨k,rfl⟩:∃ j,k=j+1:=⟨k-1,by omega⟩
  have hlt:i<(ys.length:Int):=by omega
  rw[drop_step 0 ys i h0 hlt,show ys.getD i.toNat 0=rd ys i from rfl,List.filter_cons] at hr
  have q1:acc.length<17592186044416:=by omega
  have hw:wrap64 (i+1)=i+1:=by unfold wrap64;omega
  simp only[Xj.l0,if_pos hlt,if_pos h0,(isOpen_ok L (rd ys i) k (by omega)).1,Option.bind_some,hw,if_pos q1]
  by_cases c:opn xs (rd ys i)=true
  ·rw[if_pos c,apart_ok L n (rd ys i) hn (opn_in c) k (by omega),Option.bind_some]
   by_cases c2:ap W n (rd ys i)=1
   ·rw[if_pos c2]
    rw[if_pos (by unfold nearP;rw[c];simp[c2])] at hr
    exact ih (i+1) (acc++[rd ys i]) (by omega) (by omega) (by simp;omega) (by simpa using hr) k (by omega)
   ·rw[if_neg c2]
    rw[if_neg (by unfold nearP;rw[c];simp[c2])] at hr
    exact ih (i+1) acc (by omega) (by omega) (by omega) hr k (by omega)
  ·rw[if_neg c]
   rw[if_neg (by unfold nearP;simp[c])] at hr
   exact ih (i+1) acc (by omega) (by omega) (by omega) hr k (by omega)
theorem compact_ascL (l:List Int) (hl:l.length<=100) (h:l.Pairwise (· < ·)):∀ (d:Nat) (i:Int),1<=i->(l.length:Int)-i=d->∀ k,d<k->Xe.l0 k l i=some l:=by
 intro d
 induction d with
 |zero =>
  intro i h1 hd k hk
  obtain⟨k,rfl⟩:∃ j,k=j+1:=⟨k-1,by omega⟩
  rw[Xe.l0,if_neg (by omega)]
 |succ d ih =>
  intro i h1 hd k hk
  obtain⟨k,rfl⟩:∃ j,k=j+1:=⟨k-1,by omega⟩
  have w1:wrap64 (i-1)=i-1:=by unfold wrap64;omega
  have w2:wrap64 (i+1)=i+1:=by unfold wrap64;omega
  have hne:¬ rd l i=rd l (i-1):=by
   have ha:i.toNat<l.length:=by omega
   have hb:(i-1).toNat<l.length:=by omega
   have:=List.pairwise_iff_getElem.mp h (i-1).toNat i.toNat hb ha (by omega)
   unfold rd
   rw[List.getD_eq_getElem?_getD,List.getD_eq_getElem?_getD,List.getElem?_eq_getElem ha,List.getElem?_eq_getElem hb]
   simp only[Option.getD_some]
   omega
  rw[Xe.l0,if_pos (by omega),if_pos (by omega),w1,if_pos (by omega),if_pos (by omega),if_neg hne,w2]
  exact ih (i+1) (by omega) (by omega) k (by omega)
theorem compact_asc (l:List Int) (hl:l.length<=100) (h:l.Pairwise (· < ·)) (k:Nat) (hk:l.length<k):Xe.f k l=some l:=by
 unfold Xe.f
 split
 ·rfl
 ·exact compact_ascL l hl h (l.length-1) 1 (by omega) (by omega) k (by omega)
theorem compact_2 (a:Int) (k:Nat) (hk:10<k):Xe.f k [a,a]=some [a]:=by
 obtain⟨k,rfl⟩:∃ j,k=j+10:=⟨k-10,by omega⟩
 have w0:wrap64 0=0:=by unfold wrap64;omega
 have w2:wrap64 2=2:=by unfold wrap64;omega
 unfold Xe.f
 simp[Xe.l0,Xe.l1,rd,rs,w0,w2]
theorem compact_4 (a b:Int) (hab:a≠b) (k:Nat) (hk:10<k):Xe.f k [a,a,b,b]=some [a,b]:=by
 obtain⟨k,rfl⟩:∃ j,k=j+10:=⟨k-10,by omega⟩
 have w0:wrap64 0=0:=by unfold wrap64;omega
 have w1:wrap64 1=1:=by unfold wrap64;omega
 have w2:wrap64 2=2:=by unfold wrap64;omega
 have w3:wrap64 3=3:=by unfold wrap64;omega
 unfold Xe.f
 simp[Xe.l0,Xe.l1,rd,rs,w0,w1,w2,w3,hab,Ne.symm hab]
theorem near_ok {W H:Int} {xs:List Int} (L:LandOk W H xs) (n:Int) (hn:0<=n/\n<(xs.length:Int)) (k:Nat) (hk:100<k):Xj.f k W H xs n=some (nearL W xs n):=by
 have hw:=L.w
 have:=L.le
 have e1:wrap64 (n-W)=n-W:=by unfold wrap64;omega
 have e2:wrap64 (n-1)=n-1:=by unfold wrap64;omega
 have e3:wrap64 (n+1)=n+1:=by unfold wrap64;omega
 have e4:wrap64 (n+W)=n+W:=by unfold wrap64;omega
 unfold Xj.f
 simp only[(isCell_ok L n k (by omega)).1,hn,and_self,decide_true,Option.bind_some,if_true,e1,e2,e3,e4]
 refine nearLoop L n hn [n-W,n-1,n+1,n+W] rfl 90 (by omega) (nearL W xs n) 4 0 [] (by omega) (by simp) (by simp) (fun k hk=>?_) k (by omega)
 simp only[Int.toNat_zero,List.drop_zero,List.nil_append]
 by_cases h1:W=1
 ·subst h1
  have o1:ap 1 n (n-1)=1:=by unfold ap ab mx;split <;> split <;> omega
  have o2:ap 1 n (n+1)=1:=by unfold ap ab mx;split <;> split <;> omega
  unfold nearL
  by_cases c1:opn xs (n-1)=true <;> by_cases c2:opn xs (n+1)=true <;> simp only[List.filter_cons,nearP,o1,o2,c1,c2,decide_true,Bool.and_self,Bool.and_true,Bool.true_and,if_true,Bool.false_eq_true,if_false,List.filter_nil]
  ·have c1':=c1
   have c2':=c2
   unfold opn at c1' c2'
   simp only[Bool.and_eq_true,decide_eq_true_eq,bne_iff_ne] at c1' c2'
   rw[compact_4 (n-1) (n+1) (by omega) k (by omega),if_pos ⟨by omega,c1'.2⟩,if_neg (by omega),if_neg (by omega),if_pos ⟨by omega,c2'.2⟩]
   rfl
  ·have c1':=c1
   have c2':=c2
   unfold opn at c1' c2'
   simp only[Bool.and_eq_true,decide_eq_true_eq,bne_iff_ne] at c1' c2'
   rw[compact_2 (n-1) k (by omega),if_pos ⟨by omega,c1'.2⟩,if_neg (by omega),if_neg (by omega),if_neg (fun h=>c2' ⟨⟨by omega,h.1⟩,h.2⟩)]
   rfl
  ·have c1':=c1
   have c2':=c2
   unfold opn at c1' c2'
   simp only[Bool.and_eq_true,decide_eq_true_eq,bne_iff_ne] at c1' c2'
   rw[compact_2 (n+1) k (by omega),if_neg (fun h=>c1' ⟨⟨by omega,by omega⟩,h.2⟩),if_neg (by omega),if_neg (by omega),if_pos ⟨by omega,c2'.2⟩]
   rfl
  ·have c1':=c1
   have c2':=c2
   unfold opn at c1' c2'
   simp only[Bool.and_eq_true,decide_eq_true_eq,bne_iff_ne] at c1' c2'
   rw[compact_asc [] (by simp) (by simp) k (by simp;omega),if_neg (fun h=>c1' ⟨⟨by omega,by omega⟩,h.2⟩),if_neg (by omega),if_neg (by omega),if_neg (fun h=>c2' ⟨⟨by omega,h.1⟩,h.2⟩)]
   rfl
 ·have hW:2<=W/\W<=8:=by omega
  have hl:=L.len
  have hasc:((([n-W,n-1,n+1,n+W]:List Int)).filter (nearP W xs n)).Pairwise (· < ·):=by
   refine List.Pairwise.filter _ ?_
   simp only[List.pairwise_cons,List.mem_cons,List.not_mem_nil,or_false]
   refine⟨fun a h=>by omega,fun a h=>by omega,fun a h=>by omega,fun a h=>h.elim,List.Pairwise.nil⟩
  have hlen:((([n-W,n-1,n+1,n+W]:List Int)).filter (nearP W xs n)).length<=4:=by
   have:=List.length_filter_le (nearP W xs n) [n-W,n-1,n+1,n+W]
   simpa using this
  rw[compact_asc _ (by omega) hasc k (by omega)]
  congr 1
  have hbq:∀ a:Int,(a==2)=decide (a=2):=fun a=>rfl
  have m1:nearP W xs n (n-W)=decide (W<=n/\rd xs (n-W)≠2):=by
   have:0<=n-W->ap W n (n-W)=1:=fun h=>by
    unfold ap ab mx
    rcases w_cases hw with e|e|e|e|e|e|e|e <;> subst e <;> split <;> split <;> omega
   unfold nearP opn
   by_cases c:W<=n
   ·have c0:0<=n-W:=by omega
    have c1:n-W<(xs.length:Int):=by omega
    rw[this c0]
    simp[c,c0,c1,bne,hbq]
   ·have c0:¬ 0<=n-W:=by omega
    simp[c,c0]
  have m2:nearP W xs n (n-1)=decide (0<n % W/\rd xs (n-1)≠2):=by
   have a1:0<n % W->ap W n (n-1)=1/\0<=n-1:=fun h=>by
    unfold ap ab mx
    rcases w_cases hw with e|e|e|e|e|e|e|e <;> subst e <;> constructor <;> (try split) <;> (try split) <;> omega
   have a2:¬ 0<n % W->0<=n-1->¬ ap W n (n-1)=1:=fun h h2=>by
    unfold ap ab mx
    rcases w_cases hw with e|e|e|e|e|e|e|e <;> subst e <;> split <;> split <;> omega
   unfold nearP opn
   by_cases c:0<n % W
   ·have c1:n-1<(xs.length:Int):=by omega
    have c0:=(a1 c).2
    rw[(a1 c).1]
    simp only[c0,c1,c,and_self,true_and,decide_true,Bool.true_and,bne,hbq,Bool.and_true,ne_eq,decide_not]
   ·by_cases c0:0<=n-1
    ·simp only[c,a2 c c0,decide_false,Bool.and_false,false_and]
    ·simp only[c,c0,false_and,decide_false,Bool.false_and]
  have m3:nearP W xs n (n+1)=decide (n % W<W-1/\rd xs (n+1)≠2):=by
   have a1:n % W<W-1->ap W n (n+1)=1:=fun h=>by
    unfold ap ab mx
    rcases w_cases hw with e|e|e|e|e|e|e|e <;> subst e <;> split <;> split <;> omega
   have a2:¬ n % W<W-1->¬ ap W n (n+1)=1:=fun h=>by
    unfold ap ab mx
    rcases w_cases hw with e|e|e|e|e|e|e|e <;> subst e <;> split <;> split <;> omega
   unfold nearP opn
   by_cases c:n % W<W-1
   ·have c1:=row_end hw hl hn.2 hn.1 c
    have c0:0<=n+1:=by omega
    rw[a1 c]
    simp[c,c0,c1,bne,hbq]
   ·simp[c,a2 c]
  have m4:nearP W xs n (n+W)=decide (n+W<(xs.length:Int)/\rd xs (n+W)≠2):=by
   have:ap W n (n+W)=1:=by
    unfold ap ab mx
    rcases w_cases hw with e|e|e|e|e|e|e|e <;> subst e <;> split <;> split <;> omega
   unfold nearP opn
   rw[this]
   by_cases c:n+W<(xs.length:Int)
   ·have c0:0<=n+W:=by omega
    simp[c,c0,bne,hbq]
   ·simp[c]
  unfold nearL
  simp only[List.filter_cons,m1,m2,m3,m4,decide_eq_true_eq,List.filter_nil]
  split <;> split <;> split <;> split <;> rfl
def X1B (k:Nat) (W H:Int) (xs:List Int) (n:Int):Option (List Int):=(X13.f k W H xs n).bind fun t=>(if t=true then((X3.f k W H xs n).bind fun s=>(some s)) else(some (([]:List Int))))
theorem near_no {W H:Int} {xs:List Int} (n:Int) (k:Nat) (h:XF.f k W H xs n=some false/\X13.f k W H xs n=some false):Xj.f k W H xs n=some []/\X1B k W H xs n=some []:=by
 unfold Xj.f X1B
 simp only[h.1,h.2,Option.bind_some,Bool.false_eq_true,if_false,and_self]
theorem mem_if1 {c:Prop} [Decidable c] {a v:Int}:v∈(if c then [a] else [])↔c/\v=a:=by
 split <;> simp_all
theorem mem_near {W n v:Int} {xs:List Int}:v∈nearL W xs n↔((((W<=n/\rd xs (n-W)≠2)/\v=n-W)\/((0<n % W/\rd xs (n-1)≠2)/\v=n-1))\/((n % W<W-1/\rd xs (n+1)≠2)/\v=n+1))\/((n+W<(xs.length:Int)/\rd xs (n+W)≠2)/\v=n+W):=by
 unfold nearL
 simp only[List.mem_append,mem_if1]
theorem near_len (W n:Int) (xs:List Int):(nearL W xs n).length<=4:=by
 unfold nearL
 have h:∀ (c:Prop) [Decidable c] (a:Int),(if c then [a] else([]:List Int)).length<=1:=fun c _ a=>by split <;> simp
 simp only[List.length_append]
 have:=h (W<=n/\rd xs (n-W)≠2) (n-W)
 have:=h (0<n % W/\rd xs (n-1)≠2) (n-1)
 have:=h (n % W<W-1/\rd xs (n+1)≠2) (n+1)
 have:=h (n+W<(xs.length:Int)/\rd xs (n+W)≠2) (n+W)
 omega
theorem opn_iff {xs:List Int} {m:Int}:opn xs m=true↔(0<=m/\m<(xs.length:Int))/\rd xs m≠2:=by
 unfold opn
 rw[Bool.and_eq_true,decide_eq_true_eq,bne_iff_ne]
theorem near_open {W H n:Int} {xs:List Int} (L:LandOk W H xs) (hn:0<=n/\n<(xs.length:Int)):∀ v∈nearL W xs n,opn xs v=true:=by
 intro v hv
 have hw:=L.w
 rw[opn_iff]
 rcases mem_near.mp hv with ((⟨⟨h1,h2⟩,h3⟩|⟨⟨h1,h2⟩,h3⟩)|⟨⟨h1,h2⟩,h3⟩)|⟨⟨h1,h2⟩,h3⟩ <;> subst h3
 ·exact⟨by omega,h2⟩
 ·refine⟨⟨?_,by omega⟩,h2⟩
  by_cases h0:n=0
  ·subst h0;simp at h1
  ·omega
 ·have:=row_end hw L.len hn.2 hn.1 h1
  exact⟨by omega,h2⟩
 ·exact⟨by omega,h2⟩
theorem near_sym {W H n v:Int} {xs:List Int} (L:LandOk W H xs) (hn:opn xs n=true) (hv:v∈nearL W xs n):n∈nearL W xs v:=by
 have hw:=L.w
 obtain⟨hr,hx⟩:=opn_iff.mp hn
 have hvo:=near_open L hr v hv
 obtain⟨hvr,hvx⟩:=opn_iff.mp hvo
 rw[mem_near]
 rcases mem_near.mp hv with ((⟨⟨h1,h2⟩,h3⟩|⟨⟨h1,h2⟩,h3⟩)|⟨⟨h1,h2⟩,h3⟩)|⟨⟨h1,h2⟩,h3⟩ <;> subst h3
 ·exact Or.inr ⟨⟨by omega,by rw[Int.sub_add_cancel];exact hx⟩,by omega⟩
 ·refine Or.inl (Or.inr ⟨⟨?_,by rw[Int.sub_add_cancel];exact hx⟩,by omega⟩)
  rcases w_cases hw with e|e|e|e|e|e|e|e <;> subst e <;> omega
 ·refine Or.inl (Or.inl (Or.inr ⟨⟨?_,by rw[Int.add_sub_cancel];exact hx⟩,by omega⟩))
  rcases w_cases hw with e|e|e|e|e|e|e|e <;> subst e <;> omega
 ·exact Or.inl (Or.inl (Or.inl ⟨⟨by omega,by rw[Int.add_sub_cancel];exact hx⟩,by omega⟩))
structure Good (n:Nat) (d q:List Int):Prop where
 len:d.length=n
 bnd:∀ v,0<=v->rd d v+(negs d:Int)+1<=(n:Int)
 mem:∀ x∈q,0<=x/\x<(n:Int)/\0<=rd d x
theorem set_bnd {n:Nat} {d:List Int} {own b:Int} (hl:d.length=n) (hb:∀ v,0<=v->rd d v+(negs d:Int)+1<=(n:Int)) (ho:0<=own) (h0:0<=rd d own) (b0:0<=b) (b1:b<(n:Int)) (c:rd d b<0) :
  ∀ v,0<=v->rd (d.set b.toNat (rd d own+1)) v+(negs (d.set b.toNat (rd d own+1)):Int)+1<=(n:Int):=by
 intro v hv
 have h1:=negs_set d b.toNat (rd d own+1) (by omega) c (by omega)
 have h2:=hb v hv
 have h3:=hb own ho
 rw[rd_set_b d b v (rd d own+1) b0 (by omega) hv]
 split <;> omega
theorem visit_bnd (n:Nat) (own:Int) (ho:0<=own):∀ (bs d q:List Int),d.length=n->(∀ v,0<=v->rd d v+(negs d:Int)+1<=(n:Int))->0<=rd d own->(∀ b∈bs,0<=b/\b<(n:Int)) ->
  ∀ v,0<=v->rd (visit d q own bs).1 v+(negs (visit d q own bs).1:Int)+1<=(n:Int)
 |[],d,q,hl,hb,h0,hr=>hb
 |b :: bs,d,q,hl,hb,h0,hr=>by
  have hbb:=hr b List.mem_cons_self
  unfold visit
  by_cases c:rd d b<0
  ·rw[if_pos c]
   have hne:own≠b:=fun e=>by rw[e] at h0;omega
   have h2:rd (d.set b.toNat (rd d own+1)) own=rd d own:=by rw[rd_set_b d b own _ hbb.1 (by omega) ho,if_neg hne]
   exact visit_bnd n own ho bs _ _ (by simpa using hl) (set_bnd hl hb ho h0 hbb.1 hbb.2 c) (by rw[h2];exact h0) (fun x hx=>hr x (List.mem_cons_of_mem _ hx))
  ·rw[if_neg c]
   exact visit_bnd n own ho bs d q hl hb h0 (fun x hx=>hr x (List.mem_cons_of_mem _ hx))
theorem visit_good {n:Nat} {d rest bs:List Int} {own:Int} (G:Good n d (own :: rest)) (hr:∀ b∈bs,0<=b/\b<(n:Int)):Good n (visit d rest own bs).1 (visit d rest own bs).2/\(visit d rest own bs).2.length+negs (visit d rest own bs).1=rest.length+negs d:=by
 obtain⟨o1,o2,o3⟩:=G.mem own List.mem_cons_self
 obtain⟨v1,v2,v3,v4,ns,v5,v6,v7,v8⟩:=visit_spec n own o1 bs d rest G.len o3 hr
 refine⟨⟨by rw[v1];exact G.len,visit_bnd n own o1 bs d rest G.len G.bnd o3 hr,fun x hx=>?_⟩,by rw[v5,List.length_append];omega⟩
 rw[v5] at hx
 rcases List.mem_append.mp hx with h|h
 ·obtain⟨x1,x2,x3⟩:=G.mem x (List.mem_cons_of_mem _ h)
  exact⟨x1,x2,by rw[v2 x x1 x3];exact x3⟩
 ·obtain⟨h1,h2⟩:=v7 x h
  exact⟨(hr x h1).1,(hr x h1).2,by omega⟩
theorem visit_drop (own:Int) (j:Nat):∀ (bs d q:List Int),j<=q.length->(visit d q own bs).1=(visit d (q.drop j) own bs).1/\(visit d q own bs).2.drop j=(visit d (q.drop j) own bs).2/\q.length<=(visit d q own bs).2.length
 |[],d,q,h=>⟨rfl,rfl,Nat.le_refl _⟩
 |b :: bs,d,q,h=>by
  unfold visit
  by_cases c:rd d b<0
  ·rw[if_pos c,if_pos c]
   have h1:=visit_drop own j bs (d.set b.toNat (rd d own+1)) (q++[b]) (by simp;omega)
   rw[List.drop_append_of_le_length h] at h1
   refine⟨h1.1,h1.2.1,?_⟩
   have:=h1.2.2
   simp only[List.length_append,List.length_cons,List.length_nil] at this
   omega
  ·rw[if_neg c,if_neg c]
   exact visit_drop own j bs d q h
theorem distIn (W H:Int) (xs:List Int) (n:Nat) (hn:n<=64) (own:Int) (ho:0<=own) (bs:List Int) (hb4:bs.length<=4) (hr:∀ b∈bs,0<=b/\b<(n:Int)) (hon:own<(n:Int)) (K:Nat) (r:List Int) :
  ∀ (e:Nat) (i:Int) (d q:List Int),0<=i->(bs.length:Int)-i=e->d.length=n->(∀ v,0<=v->rd d v+(negs d:Int)+1<=(n:Int))->0<=rd d own->q.length+negs d<=200 ->
  (∀ k,K<k->X1.l2 k (visit d q own (bs.drop i.toNat)).1 (visit d q own (bs.drop i.toNat)).2 W H xs=some r) ->
  ∀ k,K+e+1<k->X1.l3 k d q own bs (bs.length:Int) i W H xs=some r:=by
 intro e
 induction e with
 |zero =>
  intro i d q h0 hd hl hb hown hq hk2 k hk
  obtain⟨k,rfl⟩:∃ j,k=j+1:=⟨k-1,by omega⟩
  have hlt:¬ i<(bs.length:Int):=by omega
  rw[List.drop_eq_nil_of_le (by omega)] at hk2
  rw[X1.l3,if_neg hlt]
  exact hk2 k (by omega)
 |succ e ih =>
  intro i d q h0 hd hl hb hown hq hk2 k hk
  obtain⟨k,rfl⟩:∃ j,k=j+1:=⟨k-1,by omega⟩
  have hlt:i<(bs.length:Int):=by omega
  have hw:wrap64 (i+1)=i+1:=by unfold wrap64;omega
  have hmem:rd bs i∈bs:=by
   have h1:i.toNat<bs.length:=by omega
   unfold rd
   rw[List.getD_eq_getElem?_getD,List.getElem?_eq_getElem h1]
   exact List.getElem_mem h1
  obtain⟨b0,b1⟩:=hr _ hmem
  rw[drop_step 0 bs i h0 hlt,show bs.getD i.toNat 0=rd bs i from rfl] at hk2
  unfold visit at hk2
  have hd1:rd bs i<(d.length:Int):=by omega
  have hd2:own<(d.length:Int):=by omega
  have hq1:q.length<17592186044416:=by omega
  have hbo:=hb own ho
  have hw2:wrap64 (rd d own+1)=rd d own+1:=by unfold wrap64;omega
  simp only[X1.l3,if_pos hlt,if_pos h0,if_pos b0,if_pos hd1,if_pos ho,if_pos hd2,if_pos hq1,hw,hw2]
  by_cases c:rd d (rd bs i)<0
  ·rw[if_pos c]
   rw[if_pos c] at hk2
   have hne:own≠rd bs i:=fun e=>by rw[e] at hown;omega
   have h2:rd (d.set (rd bs i).toNat (rd d own+1)) own=rd d own:=by rw[rd_set_b d _ own _ b0 (by omega) ho,if_neg hne]
   have h3:=negs_set d (rd bs i).toNat (rd d own+1) (by omega) c (by omega)
   exact ih (i+1) _ _ (by omega) (by omega) (by simpa using hl) (set_bnd hl hb ho hown b0 b1 c) (by rw[h2];exact hown) (by simp only[List.length_append,List.length_cons,List.length_nil];omega) hk2 k (by omega)
  ·rw[if_neg c]
   rw[if_neg c] at hk2
   exact ih (i+1) d q (by omega) (by omega) hl hb hown hq hk2 k (by omega)
theorem fromIn (W H:Int) (xs:List Int) (n:Nat) (hn:n<=64) (own:Int) (ho:0<=own) (bs:List Int) (hb4:bs.length<=4) (hr:∀ b∈bs,0<=b/\b<(n:Int)) (hon:own<(n:Int)) (K:Nat) (r:List Int) (p:Int) (hp0:0<=p) (hp1:p<=200) :
  ∀ (e:Nat) (i:Int) (d Q:List Int),0<=i->(bs.length:Int)-i=e->d.length=n->(∀ v,0<=v->rd d v+(negs d:Int)+1<=(n:Int))->0<=rd d own->Q.length+negs d<=200->p<(Q.length:Int)->rd Q p=own ->
  (∀ k,K<k->X4.l1 k (visit d Q own (bs.drop i.toNat)).1 (visit d Q own (bs.drop i.toNat)).2 (p+1) W H xs=some r) ->
  ∀ k,K+e+1<k->X4.l2 k d Q p bs i W H xs=some r:=by
 intro e
 induction e with
 |zero =>
  intro i d q h0 hd hl hb hown hq hpq hpo hk2 k hk
  obtain⟨k,rfl⟩:∃ j,k=j+1:=⟨k-1,by omega⟩
  have hlt:¬ i<(bs.length:Int):=by omega
  rw[List.drop_eq_nil_of_le (by omega)] at hk2
  rw[X4.l2,if_neg hlt,show wrap64 (p+1)=p+1 by unfold wrap64;omega]
  exact hk2 k (by omega)
 |succ e ih =>
  intro i d q h0 hd hl hb hown hq hpq hpo hk2 k hk
  obtain⟨k,rfl⟩:∃ j,k=j+1:=⟨k-1,by omega⟩
  have hlt:i<(bs.length:Int):=by omega
  have hw:wrap64 (i+1)=i+1:=by unfold wrap64;omega
  have hmem:rd bs i∈bs:=by
   have h1:i.toNat<bs.length:=by omega
   unfold rd
   rw[List.getD_eq_getElem?_getD,List.getElem?_eq_getElem h1]
   exact List.getElem_mem h1
  obtain⟨b0,b1⟩:=hr _ hmem
  rw[drop_step 0 bs i h0 hlt,show bs.getD i.toNat 0=rd bs i from rfl] at hk2
  unfold visit at hk2
  have hd1:rd bs i<(d.length:Int):=by omega
  have hd2:own<(d.length:Int):=by omega
  have hq1:q.length<17592186044416:=by omega
  have hbo:=hb own ho
  have hw2:wrap64 (rd d own+1)=rd d own+1:=by unfold wrap64;omega
  simp only[X4.l2,if_pos hlt,if_pos h0,if_pos b0,if_pos hd1,if_pos hp0,if_pos hpq,hpo,if_pos ho,if_pos hd2,if_pos hq1,hw,hw2]
  by_cases c:rd d (rd bs i)<0
  ·rw[if_pos c]
   rw[if_pos c] at hk2
   have hne:own≠rd bs i:=fun e=>by rw[e] at hown;omega
   have h2:rd (d.set (rd bs i).toNat (rd d own+1)) own=rd d own:=by rw[rd_set_b d _ own _ b0 (by omega) ho,if_neg hne]
   have h3:=negs_set d (rd bs i).toNat (rd d own+1) (by omega) c (by omega)
   refine ih (i+1) _ _ (by omega) (by omega) (by simpa using hl) (set_bnd hl hb ho hown b0 b1 c) (by rw[h2];exact hown) (by simp only[List.length_append,List.length_cons,List.length_nil];omega) (by simp only[List.length_append,List.length_cons,List.length_nil];omega) ?_ hk2 k (by omega)
   have h4:p.toNat<q.length:=by omega
   unfold rd at hpo ⊢
   rw[List.getD_eq_getElem?_getD,List.getElem?_append_left h4,<-List.getD_eq_getElem?_getD]
   exact hpo
  ·rw[if_neg c]
   rw[if_neg c] at hk2
   exact ih (i+1) d q (by omega) (by omega) hl hb hown hq hpq hpo hk2 k (by omega)
theorem distOut {W H:Int} {xs:List Int} (L:LandOk W H xs):∀ (f:Nat) (d q:List Int),Good xs.length d q->q.length+negs d<=f->f<=64->∀ k,110+8 * f<k->X1.l2 k d q W H xs=some (bfs (nearL W xs) f d q):=by
 intro f
 induction f with
 |zero =>
  intro d q G hf _ k hk
  obtain⟨k,rfl⟩:∃ j,k=j+1:=⟨k-1,by omega⟩
  have:q=[]:=List.eq_nil_of_length_eq_zero (by omega)
  subst this
  simp[X1.l2,bfs]
 |succ f ih =>
  intro d q G hf hf6 k hk
  obtain⟨k,rfl⟩:∃ j,k=j+1:=⟨k-1,by omega⟩
  cases q with
  |nil=>simp[X1.l2,bfs]
  |cons own rest =>
   obtain⟨o1,o2,o3⟩:=G.mem own List.mem_cons_self
   have hle:=L.le
   have hr:∀ b∈nearL W xs own,0<=b/\b<(xs.length:Int):=fun b hb=>opn_in (near_open L ⟨o1,o2⟩ b hb)
   have g:=visit_good G hr
   have hlen:(own :: rest).length=rest.length+1:=rfl
   have c1:((own :: rest).length:Int)>0:=by omega
   have c2:(1:Int)<=((own :: rest).length:Int):=by omega
   have e1:rd (own :: rest) 0=own:=rfl
   have e2:(own :: rest).drop (1:Int).toNat=rest:=rfl
   rw[X1.l2,if_pos c1,if_pos c1,if_pos c2,e1,e2,near_ok L own ⟨o1,o2⟩ k (by omega),Option.bind_some]
   have h4:=near_len W own xs
   refine distIn W H xs xs.length hle own o1 (nearL W xs own) h4 hr o2 (110+8 * f) _ (nearL W xs own).length 0 d rest (by omega) (by omega) G.len G.bnd o3 (by omega) (fun k hk=>?_) k (by omega)
   rw[Int.toNat_zero,List.drop_zero]
   rw[ih _ _ g.1 (by omega) (by omega) k hk]
   rfl
theorem fromOut {W H:Int} {xs:List Int} (L:LandOk W H xs):∀ (f:Nat) (d Q:List Int) (p:Int),0<=p->p<=(Q.length:Int)->Q.length+negs d<=64->Good xs.length d (Q.drop p.toNat)->(Q.drop p.toNat).length+negs d<=f->f<=64->∀ k,110+8 * f<k->X4.l1 k d Q p W H xs=some (bfs (nearL W xs) f d (Q.drop p.toNat)):=by
 intro f
 induction f with
 |zero =>
  intro d Q p hp0 hp1 hQ G hf _ k hk
  obtain⟨k,rfl⟩:∃ j,k=j+1:=⟨k-1,by omega⟩
  rw[List.length_drop] at hf
  have c:¬ p<(Q.length:Int):=by omega
  rw[X4.l1,if_neg c]
  rfl
 |succ f ih =>
  intro d Q p hp0 hp1 hQ G hf hf6 k hk
  obtain⟨k,rfl⟩:∃ j,k=j+1:=⟨k-1,by omega⟩
  by_cases c:p<(Q.length:Int)
  ·have hcons:=drop_step 0 Q p hp0 c
   obtain⟨own,hown⟩:∃ own,own=rd Q p:=⟨_,rfl⟩
   rw[show Q.getD p.toNat 0=own from hown.symm] at hcons
   rw[hcons] at G hf ⊢
   obtain⟨rest,hrest⟩:∃ rest,rest=Q.drop (p+1).toNat:=⟨_,rfl⟩
   rw[<-hrest] at G hf ⊢
   obtain⟨o1,o2,o3⟩:=G.mem own List.mem_cons_self
   have hle:=L.le
   have hr:∀ b∈nearL W xs own,0<=b/\b<(xs.length:Int):=fun b hb=>opn_in (near_open L ⟨o1,o2⟩ b hb)
   have g:=visit_good G hr
   have hlen:(own :: rest).length=rest.length+1:=rfl
   have h4:=near_len W own xs
   have vd:=visit_drop own (p+1).toNat (nearL W xs own) d Q (by omega)
   rw[<-hrest] at vd
   rw[X4.l1,if_pos c,if_pos hp0,<-hown,l4Near_ok L own ⟨o1,o2⟩ k (by omega),Option.bind_some]
   refine fromIn W H xs xs.length hle own o1 (nearL W xs own) h4 hr o2 (110+8 * f) _ p hp0 (by omega) (nearL W xs own).length 0 d Q (by omega) (by omega) G.len G.bnd o3 (by omega) c hown.symm (fun k hk=>?_) k (by omega)
   rw[Int.toNat_zero,List.drop_zero]
   have v6:(visit d Q own (nearL W xs own)).2.length+negs (visit d Q own (nearL W xs own)).1=Q.length+negs d:=by
    have e1:=g.2
    rw[<-vd.2.1,<-vd.1,List.length_drop] at e1
    rw[hrest,List.length_drop] at e1
    have:=vd.2.2
    omega
   rw[ih _ _ (p+1) (by omega) (by have:=vd.2.2;omega) (by omega) (by rw[vd.1,vd.2.1];exact g.1) (by rw[vd.1,vd.2.1];omega) (by omega) k hk,vd.1,vd.2.1]
   rfl
  ·rw[X4.l1,if_neg c,List.drop_eq_nil_of_le (by omega)]
   rfl
theorem negs_rep:∀ n:Nat,negs (List.replicate n (-1))=n
 |0=>rfl
 |n+1=>by
  rw[List.replicate_succ,negs,negs_rep n]
  simp
  omega
theorem rd_rep (n:Nat) (v:Int) (hv:0<=v):rd (List.replicate n (-1)) v=if v<(n:Int) then -1 else 0:=by
 unfold rd
 rw[List.getD_eq_getElem?_getD,List.getElem?_replicate]
 by_cases h:v<(n:Int)
 ·rw[if_pos h,if_pos (by omega)];rfl
 ·rw[if_neg h,if_neg (by omega)];rfl
def dist (W:Int) (xs:List Int) (a:Int):List Int:=bfs (nearL W xs) xs.length ((List.replicate xs.length (-1)).set a.toNat 0) [a]
theorem dist_good {n:Nat} {a:Int} (ha:0<=a/\a<(n:Int)):Good n ((List.replicate n (-1)).set a.toNat 0) [a]/\negs ((List.replicate n (-1)).set a.toNat 0)+1=n/\∀ v,0<=v->rd ((List.replicate n (-1)).set a.toNat 0) v=if v=a then 0 else if v<(n:Int) then -1 else 0:=by
 have h1:=negs_set (List.replicate n (-1)) a.toNat 0 (by simp;omega) (by have:=rd_rep n a ha.1;unfold rd at this;rw[this,if_pos ha.2];omega) (by omega)
 rw[negs_rep] at h1
 have hr:∀ v,0<=v->rd ((List.replicate n (-1)).set a.toNat 0) v=if v=a then 0 else if v<(n:Int) then -1 else 0:=fun v hv=>by
  rw[rd_set_b _ a v 0 ha.1 (by simp;omega) hv,rd_rep n v hv]
 refine⟨⟨by simp,fun v hv=>?_,fun x hx=>?_⟩,h1,hr⟩
 ·rw[hr v hv];split
  ·omega
  ·split <;> omega
 ·rw[List.mem_singleton] at hx
  subst hx
  rw[hr x ha.1,if_pos rfl]
  exact⟨ha.1,ha.2,by omega⟩
theorem dist_end {W H a:Int} {xs:List Int} (L:LandOk W H xs) (ha:0<=a/\a<(xs.length:Int)):BEnd (nearL W xs) xs.length a (dist W xs a):=by
 obtain⟨g,g2,hr⟩:=dist_good ha
 refine bfs_end (nearL W xs) xs.length a ha.1 ha.2 (fun u h0 h1 v hv=>opn_in (near_open L ⟨h0,h1⟩ v hv)) xs.length _ [a] 0 ⟨g.len,by omega,by rw[hr a ha.1,if_pos rfl],fun v hv h1 h2=>?_,⟨[a],[],rfl,fun x hx=>?_,fun x hx=>(by cases hx)⟩,fun v hv=>?_,fun v hv h1 h2 h3=>?_,fun u hu h1 h2 h3=>?_⟩ (by simp only[List.length_cons,List.length_nil];omega)
 ·rw[hr v hv] at h2
  by_cases e:v=a
  ·exact e
  ·rw[if_neg e,if_pos h1] at h2;omega
 ·rw[List.mem_singleton] at hx
  subst hx
  exact⟨ha.1,ha.2,by rw[hr x ha.1,if_pos rfl]⟩
 ·rw[hr v hv];split
  ·omega
  ·split <;> omega
 ·rw[hr v hv,if_neg h3,if_pos h1] at h2;omega
 ·have:u≠a:=fun e=>h3 (by rw[e];exact List.mem_singleton.mpr rfl)
  rw[hr u hu,if_neg this,if_pos h1] at h2;omega
theorem bfs_bnd {W H:Int} {xs:List Int} (L:LandOk W H xs):∀ (f:Nat) (d q:List Int),Good xs.length d q->∀ v,0<=v->rd (bfs (nearL W xs) f d q) v+1<=(xs.length:Int)
 |0,d,q,G,v,hv=>by have:=G.bnd v hv;simp only[bfs];omega
 |f+1,d,[],G,v,hv=>by have:=G.bnd v hv;simp only[bfs];omega
 |f+1,d,own :: rest,G,v,hv=>by
  obtain⟨o1,o2,o3⟩:=G.mem own List.mem_cons_self
  exact bfs_bnd L f _ _ (visit_good G (fun b hb=>opn_in (near_open L ⟨o1,o2⟩ b hb))).1 v hv
theorem dist_bnd {W H a:Int} {xs:List Int} (L:LandOk W H xs) (ha:0<=a/\a<(xs.length:Int)) (v:Int) (hv:0<=v):rd (dist W xs a) v<=63:=by
 have:=bfs_bnd L xs.length _ _ (dist_good ha).1 v hv
 have:=L.le
 unfold dist;omega
theorem dist_ok {W H:Int} {xs:List Int} (L:LandOk W H xs) (a:Int) (ha:opn xs a=true) (k:Nat) (hk:1000<k):X1.f k W H xs [a]=some (dist W xs a)/\X4.f k W H xs a=some (dist W xs a):=by
 obtain⟨a0,a1⟩:=opn_in ha
 have hle:=L.le
 obtain⟨g,g2,hr⟩:=dist_good (n:=xs.length) ⟨a0,a1⟩
 have build:∀ (e:Nat) (i:Int),0<=i->(xs.length:Int)-i=e->(∀ k,800+e<k->X1.l0 k [a] (List.replicate i.toNat (-1)) (xs.length:Int) i W H xs=some (dist W xs a))/\(∀ k,800+e<k->X4.l0 k a (List.replicate i.toNat (-1)) i W H xs=some (dist W xs a)):=by
  intro e
  induction e with
  |zero =>
   intro i h0 hd
   have hlt:¬ i<(xs.length:Int):=by omega
   have hi:i.toNat=xs.length:=by omega
   have r1:rd (List.replicate xs.length (-1)) a<0:=by rw[rd_rep _ a a0,if_pos a1];omega
   have hlen:((List.replicate xs.length (-1:Int)).length:Int)=xs.length:=by simp
   constructor
   ·intro k hk
    obtain⟨k,rfl⟩:∃ j,k=j+3:=⟨k-3,by omega⟩
    have w1:wrap64 (0+1)=1:=by unfold wrap64;omega
    have q1:([]:List Int).length<17592186044416:=by simp
    have q2:(0:Int)<(([a]:List Int).length:Int):=by simp
    have q3:¬ (1:Int)<(([a]:List Int).length:Int):=by simp
    have e1:rd [a] 0=a:=rfl
    have hlt2:a<((List.replicate xs.length (-1:Int)).length:Int):=by omega
    rw[X1.l0,if_neg hlt,hi,X1.l1,if_pos q2,if_pos (show (0:Int)<=0 by omega),if_pos q2,e1,(isOpen_ok L a (k+1) (by omega)).1,Option.bind_some,if_pos ha,if_pos a0,if_pos hlt2,if_pos r1,if_pos q1,w1,X1.l1,if_neg q3]
    exact distOut L xs.length _ [a] g (by simp only[List.length_cons,List.length_nil];omega) hle k (by omega)
   ·intro k hk
    obtain⟨k,rfl⟩:∃ j,k=j+1:=⟨k-1,by omega⟩
    have hlt2:a<((List.replicate xs.length (-1:Int)).length:Int):=by omega
    rw[X4.l0,if_neg hlt,hi,if_pos a0,if_pos hlt2]
    exact fromOut L xs.length _ [a] 0 (by omega) (by simp) (by simp only[List.length_cons,List.length_nil];omega) g (by simp only[Int.toNat_zero,List.drop_zero,List.length_cons,List.length_nil];omega) hle k (by omega)
  |succ e ih =>
   intro i h0 hd
   obtain⟨i1,i2⟩:=ih (i+1) (by omega) (by omega)
   have hlt:i<(xs.length:Int):=by omega
   have hw:wrap64 (i+1)=i+1:=by unfold wrap64;omega
   have hrep:List.replicate i.toNat (-1:Int)++[-1]=List.replicate (i+1).toNat (-1):=by
    rw[show (i+1).toNat=i.toNat+1 by omega,List.replicate_succ']
   have q1:(List.replicate i.toNat (-1:Int)).length<17592186044416:=by simp;omega
   constructor
   ·intro k hk
    obtain⟨k,rfl⟩:∃ j,k=j+1:=⟨k-1,by omega⟩
    rw[X1.l0,if_pos hlt,if_pos q1,hw,hrep]
    exact i1 k (by omega)
   ·intro k hk
    obtain⟨k,rfl⟩:∃ j,k=j+1:=⟨k-1,by omega⟩
    rw[X4.l0,if_pos hlt,if_pos q1,hw,hrep]
    exact i2 k (by omega)
 obtain⟨b1,b2⟩:=build xs.length 0 (by omega) (by omega)
 unfold X1.f X4.f
 exact⟨b1 k (by omega),b2 k (by omega)⟩
theorem days_ok {W H:Int} {xs:List Int} (L:LandOk W H xs) (a b:Int) (k:Nat) (hk:1000<k):X12.f k W H xs a b=some (if opn xs a=true/\opn xs b=true then rd (dist W xs a) b else -1)/\XX.f k W H xs a b=some (if opn xs a=true/\opn xs b=true then rd (dist W xs a) b else -1):=by
 unfold X12.f XX.f
 simp only[(isOpen_ok L a k (by omega)).1,(isOpen_ok L a k (by omega)).2,(isOpen_ok L b k (by omega)).1,(isOpen_ok L b k (by omega)).2,Option.bind_some]
 by_cases ha:opn xs a=true
 ·by_cases hb:opn xs b=true
  ·have hbr:=opn_in hb
   have hl:b<((dist W xs a).length:Int):=by rw[(dist_end L (opn_in ha)).len];exact hbr.2
   simp only[ha,hb,if_true,(dist_ok L a ha k hk).1,(dist_ok L a ha k hk).2,Option.bind_some,if_pos hbr.1,if_pos hl,and_self]
  ·simp only[ha,hb,if_true,if_false,and_false]
   exact⟨rfl,rfl⟩
 ·simp only[ha,if_false,false_and]
  exact⟨rfl,rfl⟩
def stepTo (W:Int) (xs d:List Int) (m now:Int):Int:=((nearL W xs now).find? (fun c=>rd d c==m)).getD now
def wayL (W:Int) (xs d:List Int):Nat->Int->List Int
 |0,now=>[now]
 |m+1,now=>now :: wayL W xs d m (stepTo W xs d (m:Int) now)
theorem wayL_len (W:Int) (xs d:List Int):∀ (m:Nat) (now:Int),(wayL W xs d m now).length=m+1
 |0,now=>rfl
 |m+1,now=>by rw[wayL,List.length_cons,wayL_len W xs d m]
theorem near_sub {W H b now:Int} {xs:List Int} (L:LandOk W H xs) (hb:opn xs b=true) (hn:opn xs now=true) (h0:0<=rd (dist W xs b) now):∀ c∈nearL W xs now,opn xs c=true/\rd (dist W xs b) now-1<=rd (dist W xs b) c/\0<=rd (dist W xs b) c:=by
 intro c hc
 have B:=dist_end L (opn_in hb)
 have hco:=near_open L (opn_in hn) c hc
 obtain⟨h1,h2⟩:=B.done now (opn_in hn).1 (opn_in hn).2 h0 c hc
 obtain⟨h3,h4⟩:=B.done c (opn_in hco).1 (opn_in hco).2 h1 now (near_sym L hn hc)
 exact⟨hco,by omega,h1⟩
theorem step_ok {W H b now:Int} {xs:List Int} (L:LandOk W H xs) (hb:opn xs b=true) (hn:opn xs now=true) (m:Nat) (hm:rd (dist W xs b) now=(m:Int)+1) :
  ∃ c,(nearL W xs now).find? (fun c=>rd (dist W xs b) c==(m:Int))=some c/\stepTo W xs (dist W xs b) m now=c/\c∈nearL W xs now/\opn xs c=true/\rd (dist W xs b) c=m:=by
 have B:=dist_end L (opn_in hb)
 have hne:now≠b:=fun e=>by rw[e,B.src0] at hm;omega
 obtain⟨u,u0,u1,u2,u3,u4⟩:=B.from_ now (opn_in hn).1 (opn_in hn).2 (by omega) hne
 have huo:opn xs u=true:=by
  by_cases e:u=b
  ·rw[e];exact hb
  ·obtain⟨t,t0,t1,t2,_⟩:=B.from_ u u0 u1 u3 e
   exact near_open L ⟨t0,t1⟩ u t2
 have hu:=near_sym L huo u2
 cases hf:(nearL W xs now).find? (fun c=>rd (dist W xs b) c==(m:Int)) with
 |none =>
  exfalso
  have:=List.find?_eq_none.mp hf u hu
  simp only[beq_iff_eq] at this
  omega
 |some c =>
  have h1:=List.find?_some hf
  simp only[beq_iff_eq] at h1
  have h2:=List.mem_of_find?_eq_some hf
  exact⟨c,rfl,by unfold stepTo;rw[hf];rfl,h2,near_open L (opn_in hn) c h2,h1⟩
theorem scanUp {W H:Int} {xs d:List Int} (b now m:Int) (out bs:List Int) (hout:out.length<=1000) (hb4:bs.length<=4) (hn0:0<=now/\now<(d.length:Int)) (hm:rd d now=m+1) (hbs:∀ c∈bs,(0<=c/\c<(d.length:Int))/\m<=rd d c) (c:Int) (K:Nat) (r:List Int) (hr:∀ k,K<k->Xi.l0 k b d (out++[c]) c W H xs=some r) :
  ∀ (e:Nat) (i:Int),0<=i->(bs.length:Int)-i=e->(bs.drop i.toNat).find? (fun c=>rd d c==m)=some c->∀ k,K+e+1<k->Xi.l1 k b d out now bs (bs.length:Int) i W H xs=some r:=by
 intro e
 induction e with
 |zero =>
  intro i h0 hd hf k hk
  rw[List.drop_eq_nil_of_le (by omega)] at hf
  cases hf
 |succ e ih =>
  intro i h0 hd hf k hk
  obtain⟨k,rfl⟩:∃ j,k=j+1:=⟨k-1,by omega⟩
  have hlt:i<(bs.length:Int):=by omega
  have hw:wrap64 (i+1)=i+1:=by unfold wrap64;omega
  have hmem:rd bs i∈bs:=by
   have h1:i.toNat<bs.length:=by omega
   unfold rd
   rw[List.getD_eq_getElem?_getD,List.getElem?_eq_getElem h1]
   exact List.getElem_mem h1
  obtain⟨⟨b0,b1⟩,b2⟩:=hbs _ hmem
  have q1:out.length<17592186044416:=by omega
  rw[drop_step 0 bs i h0 hlt,show bs.getD i.toNat 0=rd bs i from rfl,List.find?_cons] at hf
  simp only[Xi.l1,if_pos hlt,if_pos h0,if_pos b0,if_pos b1,if_pos hn0.1,if_pos hn0.2,if_pos q1,hw]
  by_cases e2:rd d (rd bs i)=m
  ·have:(rd d (rd bs i)==m)=true:=by simp[e2]
   rw[this] at hf
   simp only[Option.some.injEq] at hf
   rw[if_pos (by omega),hf]
   exact hr k (by omega)
  ·have:(rd d (rd bs i)==m)=false:=by simp[e2]
   rw[this] at hf
   rw[if_neg (by omega)]
   exact ih (i+1) (by omega) (by omega) hf k (by omega)
theorem scanDown {W H:Int} {xs d:List Int} (b now m:Int) (out bs:List Int) (hout:out.length<=1000) (hout0:1<=out.length) (hlast:rd out ((out.length:Int)-1)=now) (hb4:bs.length<=4) (hn0:0<=now/\now<(d.length:Int)) (hm:rd d now=m+1) (hmb:0<=m/\m<=1000) (hbs:∀ c∈bs,0<=c/\c<(d.length:Int)) (c:Int) (hc:bs.find? (fun c=>rd d c==m)=some c) (K:Nat) (r:List Int) (hr:∀ k,K<k->Xf.l0 k c b (out++[c]) d W H xs=some r) :
  ∀ (e:Nat) (cur:Int),e<=bs.length->cur=((bs.drop e).find? (fun c=>rd d c==m)).getD now->∀ k,K+e+1<k->Xf.l1 k cur b out d bs ((e:Int)-1) W H xs=some r:=by
 have q1:out.length<17592186044416:=by omega
 intro e
 induction e with
 |zero =>
  intro cur he hcur k hk
  obtain⟨k,rfl⟩:∃ j,k=j+1:=⟨k-1,by omega⟩
  rw[List.drop_zero,hc] at hcur
  have hcur2:cur=c:=hcur
  have hlt:¬ ((0:Nat):Int)-1>=0:=by omega
  rw[Xf.l1,if_neg hlt,if_pos q1,hcur2]
  exact hr k (by omega)
 |succ e ih =>
  intro cur he hcur k hk
  obtain⟨k,rfl⟩:∃ j,k=j+1:=⟨k-1,by omega⟩
  have ee:((e+1:Nat):Int)-1=(e:Int):=by omega
  rw[ee]
  have h0:(e:Int)>=0:=by omega
  have h0':0<=(e:Int):=by omega
  have hlt:(e:Int)<(bs.length:Int):=by omega
  have hw:wrap64 ((e:Int)-1)=(e:Int)-1:=by unfold wrap64;omega
  have hw2:wrap64 ((out.length:Int)-1)=(out.length:Int)-1:=by unfold wrap64;omega
  have hw3:wrap64 (rd d now-1)=m:=by unfold wrap64;omega
  have hmem:rd bs (e:Int)∈bs:=by
   have h1:((e:Int)).toNat<bs.length:=by omega
   unfold rd
   rw[List.getD_eq_getElem?_getD,List.getElem?_eq_getElem h1]
   exact List.getElem_mem h1
  obtain⟨b0,b1⟩:=hbs _ hmem
  have l0:0<=(out.length:Int)-1:=by omega
  have l1:(out.length:Int)-1<(out.length:Int):=by omega
  have hdrop:((bs.drop e).find? (fun c=>rd d c==m))=if rd d (rd bs (e:Int))=m then some (rd bs (e:Int)) else(bs.drop (e+1)).find? (fun c=>rd d c==m):=by
   have:=drop_step 0 bs (e:Int) (by omega) hlt
   rw[show ((e:Int)).toNat=e by omega,show ((e:Int)+1).toNat=e+1 by omega] at this
   rw[this,List.find?_cons,show bs.getD e 0=rd bs (e:Int) from rfl]
   by_cases e2:rd d (rd bs (e:Int))=m
   ·simp[e2]
   ·have e3:(rd d (rd bs (e:Int))==m)=false:=by simp[e2]
    rw[e3,if_neg e2]
  simp only[Xf.l1,if_pos h0,if_pos h0',if_pos hlt,if_pos b0,if_pos b1,hw2,if_pos l0,if_pos l1,hlast,if_pos hn0.1,if_pos hn0.2,hw3,hw]
  by_cases e2:rd d (rd bs (e:Int))=m
  ·rw[if_pos e2]
   exact ih _ (by omega) (by rw[hdrop,if_pos e2];rfl) k (by omega)
  ·rw[if_neg e2]
   exact ih _ (by omega) (by rw[hdrop,if_neg e2];exact hcur) k (by omega)
theorem wayLoop {W H b:Int} {xs:List Int} (L:LandOk W H xs) (hb:opn xs b=true):∀ (m:Nat) (now:Int) (init:List Int),opn xs now=true->rd (dist W xs b) now=(m:Int)->init.length+m<=200 ->
  ∀ k,200+10 * m<k->Xi.l0 k b (dist W xs b) (init++[now]) now W H xs=some (init++wayL W xs (dist W xs b) m now)/\Xf.l0 k now b (init++[now]) (dist W xs b) W H xs=some (init++wayL W xs (dist W xs b) m now):=by
 have B:=dist_end L (opn_in hb)
 intro m
 induction m with
 |zero =>
  intro now init hn hm hl k hk
  obtain⟨k,rfl⟩:∃ j,k=j+1:=⟨k-1,by omega⟩
  have e:now=b:=B.zero now (opn_in hn).1 (opn_in hn).2 (by omega)
  rw[Xi.l0,Xf.l0,if_pos e,if_pos e]
  exact⟨rfl,rfl⟩
 |succ m ih =>
  intro now init hn hm hl k hk
  obtain⟨k,rfl⟩:∃ j,k=j+1:=⟨k-1,by omega⟩
  have hm':rd (dist W xs b) now=(m:Int)+1:=by omega
  obtain⟨c,c1,c2,c3,c4,c5⟩:=step_ok L hb hn m hm'
  have hne:¬ now=b:=fun e=>by rw[e,B.src0] at hm;omega
  have hsub:=near_sub L hb hn (by omega)
  have hlen:=B.len
  have hnr:=opn_in hn
  have h4:=near_len W now xs
  have ihc:=fun k hk=>ih c (init++[now]) c4 c5 (by simp only[List.length_append,List.length_cons,List.length_nil];omega) k hk
  rw[wayL,c2]
  rw[show init++now :: wayL W xs (dist W xs b) m c=(init++[now])++wayL W xs (dist W xs b) m c by simp]
  constructor
  ·rw[Xi.l0,if_neg hne,near_ok L now hnr k (by omega),Option.bind_some]
   exact scanUp b now (m:Int) (init++[now]) (nearL W xs now) (by simp only[List.length_append,List.length_cons,List.length_nil];omega) h4 ⟨hnr.1,by rw[hlen];exact hnr.2⟩ hm' (fun x hx=>⟨⟨(opn_in (hsub x hx).1).1,by rw[hlen];exact(opn_in (hsub x hx).1).2⟩,by have:=(hsub x hx).2.1;omega⟩) c (200+10 * m) _ (fun k hk=>(ihc k hk).1) (nearL W xs now).length 0 (by omega) (by omega) (by rw[Int.toNat_zero,List.drop_zero];exact c1) k (by omega)
  ·rw[Xf.l0,if_neg hne,l4Near_ok L now hnr k (by omega),Option.bind_some,show wrap64 (((nearL W xs now).length:Int)-1)=((nearL W xs now).length:Int)-1 by unfold wrap64;omega]
   exact scanDown b now (m:Int) (init++[now]) (nearL W xs now) (by simp only[List.length_append,List.length_cons,List.length_nil];omega) (by simp) (by simp[rd]) h4 ⟨hnr.1,by rw[hlen];exact hnr.2⟩ hm' ⟨by omega,by omega⟩ (fun x hx=>⟨(opn_in (hsub x hx).1).1,by rw[hlen];exact(opn_in (hsub x hx).1).2⟩) c c1 (200+10 * m) _ (fun k hk=>(ihc k hk).2) (nearL W xs now).length now (by omega) (by simp) k (by omega)
def wayTo (W:Int) (xs:List Int) (a b:Int):List Int:=if (opn xs a=true/\opn xs b=true)/\0<=rd (dist W xs a) b then wayL W xs (dist W xs b) (rd (dist W xs b) a).toNat a else []
theorem reach_sym {W H a b:Int} {xs:List Int} (L:LandOk W H xs) (ha:opn xs a=true) (hb:opn xs b=true):∀ (m:Nat) (v:Int),opn xs v=true->rd (dist W xs a) v=(m:Int)->0<=rd (dist W xs b) v->0<=rd (dist W xs b) a:=by
 intro m
 induction m with
 |zero =>
  intro v hv hm h
  rw[<-(dist_end L (opn_in ha)).zero v (opn_in hv).1 (opn_in hv).2 (by omega)]
  exact h
 |succ m ih =>
  intro v hv hm h
  obtain⟨c,c1,c2,c3,c4,c5⟩:=step_ok L ha hv m (by omega)
  exact ih c c4 c5 ((near_sub L hb hv h c c3).2.2)
theorem reach_iff {W H a b:Int} {xs:List Int} (L:LandOk W H xs) (ha:opn xs a=true) (hb:opn xs b=true) (h:0<=rd (dist W xs a) b):0<=rd (dist W xs b) a:=by
 refine reach_sym L ha hb (rd (dist W xs a) b).toNat b hb (by omega) ?_
 rw[(dist_end L (opn_in hb)).src0];omega
theorem wayTo_ok {W H:Int} {xs:List Int} (L:LandOk W H xs) (a b:Int) (k:Nat) (hk:1000<k):Xi.f k W H xs a b=some (wayTo W xs a b)/\Xf.f k W H xs a b=some (wayTo W xs a b):=by
 obtain⟨d1,d2⟩:=days_ok L a b k hk
 unfold Xi.f Xf.f wayTo
 rw[d1,d2]
 by_cases h:opn xs a=true/\opn xs b=true
 ·simp only[Option.bind_some,if_pos h]
  by_cases h0:0<=rd (dist W xs a) b
  ·have h1:¬ rd (dist W xs a) b<0:=by omega
   have h2:=reach_iff L h.1 h.2 h0
   have h3:=dist_bnd L (opn_in h.2) a (opn_in h.1).1
   have q:([]:List Int).length<17592186044416:=by simp
   obtain⟨w1,w2⟩:=wayLoop L h.2 (rd (dist W xs b) a).toNat a [] h.1 (by omega) (by simp only[List.length_nil];omega) k (by omega)
   rw[if_neg h1,if_neg h1,(dist_ok L b h.2 k hk).1,(dist_ok L b h.2 k hk).2,Option.bind_some,Option.bind_some,if_pos q,if_pos ⟨h,h0⟩]
   exact⟨w1,w2⟩
  ·have h1:rd (dist W xs a) b<0:=by omega
   rw[if_pos h1,if_pos h1,if_neg (fun h2=>h0 h2.2)]
   exact⟨rfl,rfl⟩
 ·simp only[Option.bind_some,if_neg h]
  have h1:(-1:Int)<0:=by omega
  rw[if_pos h1,if_pos h1,if_neg (fun h2=>h h2.1)]
  exact⟨rfl,rfl⟩
theorem wayTo_no {W H:Int} {xs:List Int} (a b:Int) (k:Nat) (h:Xz.f k W H xs=some false/\Xa.f k W H xs=some false):Xi.f k W H xs a b=some []/\Xf.f k W H xs a b=some []:=by
 obtain⟨o1,o2⟩:=isOpen_no a k h
 unfold Xi.f Xf.f X12.f XX.f
 rw[o1,o2]
 simp only[Option.bind_some,Bool.false_eq_true,if_false]
 have h1:(-1:Int)<0:=by omega
 rw[if_pos h1,if_pos h1]
 exact⟨rfl,rfl⟩
theorem wayTo_len {W H a b:Int} {xs:List Int} (L:LandOk W H xs):(wayTo W xs a b).length<=64:=by
 unfold wayTo
 split
 ·rename_i h
  have:=dist_bnd L (opn_in h.1.2) a (opn_in h.1.1).1
  rw[wayL_len];omega
 ·simp
theorem countStorms_loop (l:List Bool) (hl:l.length<=1048576):∀ (e:Nat) (i a:Int),0<=i->(l.length:Int)-i=e->0<=a->a<=i->∃ c,∀ k,e<k->Xu.l0 k a l (l.length:Int) i=some c/\XE.l0 k l a i=some c:=by
 intro e
 induction e with
 |zero =>
  intro i a h0 hd _ _
  have hlt:¬ i<(l.length:Int):=by omega
  refine⟨a,fun k hk=>?_⟩
  obtain⟨k,rfl⟩:∃ j,k=j+1:=⟨k-1,by omega⟩
  rw[Xu.l0,XE.l0,if_neg hlt,if_neg hlt]
  exact⟨rfl,rfl⟩
 |succ e ih =>
  intro i a h0 hd h1 h2
  have hlt:i<(l.length:Int):=by omega
  have hw:wrap64 (i+1)=i+1:=by unfold wrap64;omega
  have hw2:wrap64 (a+1)=a+1:=by unfold wrap64;omega
  by_cases c:rdOf false l i=true
  ·obtain⟨v,hv⟩:=ih (i+1) (a+1) (by omega) (by omega) (by omega) (by omega)
   refine⟨v,fun k hk=>?_⟩
   obtain⟨k,rfl⟩:∃ j,k=j+1:=⟨k-1,by omega⟩
   rw[Xu.l0,XE.l0,if_pos hlt,if_pos hlt,if_pos h0,if_pos h0,if_pos hlt,if_pos c,if_pos c,hw,hw2]
   exact hv k (by omega)
  ·obtain⟨v,hv⟩:=ih (i+1) a (by omega) (by omega) (by omega) (by omega)
   refine⟨v,fun k hk=>?_⟩
   obtain⟨k,rfl⟩:∃ j,k=j+1:=⟨k-1,by omega⟩
   rw[Xu.l0,XE.l0,if_pos hlt,if_pos hlt,if_pos h0,if_pos h0,if_pos hlt,if_neg c,if_neg c,hw]
   exact hv k (by omega)
theorem countStorms_ev (l:List Bool) (hl:l.length<=1048576):∃ c,∀ k,l.length<k->Xu.f k l=some c/\XE.f k l=some c:=by
 obtain⟨c,h⟩:=countStorms_loop l hl l.length 0 0 (by omega) (by omega) (by omega) (by omega)
 exact⟨c,h⟩
def ruleB (M W:Int):Bool:=decide (1<=W/\W<=10) && decide (0<=M/\M<=W-1)
theorem isRule_ev (M W:Int):XZ.f M W=some (ruleB M W)/\X11.f M W=some (ruleB M W):=by
 unfold XZ.f X11.f ruleB
 rw[inRange_eq,l1In_eq]
 by_cases h:1<=W/\W<=10
 ·have e:wrap64 (W-1)=W-1:=by unfold wrap64;omega
  simp only[h,and_self,decide_true,Option.bind_some,if_true,inRange_eq,l1In_eq,e,Bool.true_and]
 ·simp only[h,decide_false,Option.bind_some,Bool.false_eq_true,if_false,Bool.false_and,and_self]
theorem mayStorm_ev (M W:Int) (l:List Bool) (hl:l.length<=1048576):∃ s,∀ k,l.length<k->Xq.f k M W l=some s/\Xo.f k M W l=some s:=by
 obtain⟨r1,r2⟩:=isRule_ev M W
 by_cases h:ruleB M W=true
 ·have hW:1<=W/\W<=10:=by
   unfold ruleB at h
   rw[Bool.and_eq_true,decide_eq_true_eq] at h
   exact h.1
  obtain⟨t,ht⟩:∃ t,t=mx ((l.length:Int)-(W-1)) 0:=⟨_,rfl⟩
  have ht0:0<=t/\t<=(l.length:Int):=by rw[ht];unfold mx;split <;> omega
  obtain⟨c,hc⟩:=countStorms_ev (l.drop t.toNat) (by rw[List.length_drop];omega)
  have e1:wrap64 (W-1)=W-1:=by unfold wrap64;omega
  have e2:wrap64 ((l.length:Int)-(W-1))=(l.length:Int)-(W-1):=by unfold wrap64;omega
  have e3:wrap64 ((l.length:Int)+1)=(l.length:Int)+1:=by unfold wrap64;omega
  have e4:wrap64 ((l.length:Int)+1-W)=(l.length:Int)+1-W:=by unfold wrap64;omega
  have e5:XG.f 0 ((l.length:Int)+1-W)=some t:=by
   unfold XG.f;rw[ht];unfold mx
   split <;> split <;> first|rfl|(congr 1;omega)|(exfalso;omega)
  refine⟨decide (c<M),fun k hk=>?_⟩
  obtain⟨c1,c2⟩:=hc k (by rw[List.length_drop];omega)
  unfold Xq.f Xo.f XA.f
  rw[r1,r2]
  simp only[h,Option.bind_some,if_true,e1,e2,e3,e4,e5,<-ht,if_pos ht0.1,if_pos ht0.2,c1,c2,and_self]
 ·refine⟨false,fun k hk=>?_⟩
  unfold Xq.f Xo.f
  rw[r1,r2]
  simp only[h,Option.bind_some,Bool.false_eq_true,if_false,and_self]
def addDay (l:List Bool) (s:Bool):List Bool:=(l++[s]).drop (l.length+1-10)
theorem addDay_len (l:List Bool) (s:Bool):(addDay l s).length<=10:=by
 unfold addDay;simp;omega
theorem addDay_ev (l:List Bool) (s:Bool) (hl:l.length<=1048576):X15.f l s=some (addDay l s)/\X1e.f l s=some (addDay l s):=by
 have e1:([]:List Bool).length+l.length<140737488355328:=by simp;omega
 have e2:l.length<140737488355328:=by omega
 have e3:((l++[s]:List Bool).length:Int)=(l.length:Int)+1:=by simp
 have e4:wrap64 ((l.length:Int)+1-10)=(l.length:Int)+1-10:=by unfold wrap64;omega
 obtain⟨t,ht⟩:∃ t,t=mx ((l.length:Int)+1-10) 0:=⟨_,rfl⟩
 have ht0:0<=t/\t<=(l.length:Int)+1/\t.toNat=l.length+1-10:=by rw[ht];unfold mx;split <;> omega
 have e5:XG.f 0 ((l.length:Int)+1-10)=some t:=by
  unfold XG.f;rw[ht];unfold mx
  split <;> split <;> first|rfl|(congr 1;omega)|(exfalso;omega)
 have e6:([]:List Bool).length+((l++[s]:List Bool).drop t.toNat).length<140737488355328:=by
  rw[List.length_drop];simp;omega
 rw[ht0.2.2] at e6
 unfold X15.f X1e.f XA.f addDay
 simp only[List.nil_append,Option.bind_some,if_pos e1,if_pos e2,e3,e4,<-ht,e5,if_pos ht0.1,if_pos ht0.2.1,if_pos e6,if_pos ht0.2.1,if_pos e6,ht0.2.2,and_self]
theorem foodAt_loop (l:List S85) (hl:l.length<=1048576) (c:Int):∀ (e:Nat) (i:Int),0<=i->(l.length:Int)-i=e->∃ n,∀ k,e<k->XC.l0 k c l (l.length:Int) i=some n/\XH.l0 k l c i=some n:=by
 intro e
 induction e with
 |zero =>
  intro i h0 hd
  have hlt:¬ i<(l.length:Int):=by omega
  refine⟨0,fun k hk=>?_⟩
  obtain⟨k,rfl⟩:∃ j,k=j+1:=⟨k-1,by omega⟩
  rw[XC.l0,XH.l0,if_neg hlt,if_neg hlt]
  exact⟨rfl,rfl⟩
 |succ e ih =>
  intro i h0 hd
  have hlt:i<(l.length:Int):=by omega
  have hw:wrap64 (i+1)=i+1:=by unfold wrap64;omega
  by_cases q:(rd_T85 l i).f0=c
  ·refine⟨(rd_T85 l i).f1,fun k hk=>?_⟩
   obtain⟨k,rfl⟩:∃ j,k=j+1:=⟨k-1,by omega⟩
   rw[XC.l0,XH.l0,if_pos hlt,if_pos hlt,if_pos h0,if_pos h0,if_pos hlt,if_pos q,if_pos q]
   exact⟨rfl,rfl⟩
  ·obtain⟨v,hv⟩:=ih (i+1) (by omega) (by omega)
   refine⟨v,fun k hk=>?_⟩
   obtain⟨k,rfl⟩:∃ j,k=j+1:=⟨k-1,by omega⟩
   rw[XC.l0,XH.l0,if_pos hlt,if_pos hlt,if_pos h0,if_pos h0,if_pos hlt,if_neg q,if_neg q,hw]
   exact hv k (by omega)
theorem foodAt_ev (l:List S85) (hl:l.length<=1048576) (c:Int):∃ n,∀ k,l.length<k->XC.f k l c=some n/\XH.f k l c=some n:=by
 obtain⟨n,h⟩:=foodAt_loop l hl c l.length 0 (by omega) (by omega)
 exact⟨n,h⟩
theorem eat_ev2 (a b:Int) (l:List S117) (h:List Bool) (hl:l.length<=1048576) (hh:h.length<=1048576) (hb:0<=b/\b<=1000000000) (hc:∀ k,l.length<k->X5.f k l=some true):∃ b' o,(o=true->0<=b'/\b'+1<=b)/\∀ k,2 * l.length+3<k->Xd.f k a b l h=some (a,b',l,h,o)/\XL.f k a b l h=some (a,b',l,h,o):=by
 obtain⟨c,N,hcc,ht,hz,hneed⟩:=needOf_ev l hl
 obtain⟨c1,c2⟩:=copied_ev a b l h hl hh
 cases c with
 |true =>
  obtain⟨_,_,_,_,hN1,hN2⟩:=ht rfl
  have hNz:¬ N=0:=by omega
  by_cases hb:b<N
  ·refine⟨b,false,fun e=>(by cases e),fun k hk=>?_⟩
   unfold Xd.f XL.f
   simp only[c1,c2,Option.bind_some,(hcc k (by omega)).1,(hneed k hk).1,(hneed k hk).2,if_true,if_neg hNz,if_pos hb,and_self]
  ·have hw:wrap64 (b-N)=b-N:=by unfold wrap64;omega
   refine⟨b-N,true,fun _=>by omega,fun k hk=>?_⟩
   unfold Xd.f XL.f
   simp only[c1,c2,Option.bind_some,(hcc k (by omega)).1,(hneed k hk).1,(hneed k hk).2,if_true,if_neg hNz,if_neg hb,hw,and_self]
 |false =>
  have h1:=(hcc (l.length+1) (by omega)).1
  rw[hc (l.length+1) (by omega)] at h1
  cases h1
theorem pickUp_ev2 (a b n:Int) (l:List S117) (h:List Bool) (hl:l.length<=1048576) (hh:h.length<=1048576) (hb0:0<=b/\b<=1000000000):∃ b' o,(b<=b'/\b'<=b+800)/\∀ k,3 * l.length+3<k->X10.f k a b l h n=some (a,b',l,h,o)/\X1f.f k a b l h n=some (a,b',l,h,o):=by
 have hb:wrap64 b=b:=by unfold wrap64;omega
 obtain⟨C,hC,hcap⟩:=capOf_ev2 l hl
 obtain⟨c1,c2⟩:=copied_ev a b l h hl hh
 obtain⟨R,hR,hroom⟩:∃ R,(0<=R/\R<=800)/\∀ k,3 * l.length+3<k->Xs.f k a b l h=some R/\X1q.f k a b l h=some R:=by
  have h1:¬ b<0:=by omega
  by_cases h2:b>=C
  ·refine⟨0,by omega,fun k hk=>?_⟩
   unfold Xs.f X1q.f
   simp only[(hcap k hk).1,(hcap k hk).2,Option.bind_some,if_neg h1,if_pos h2,and_self]
  ·refine⟨wrap64 (C-b),by unfold wrap64;omega,fun k hk=>?_⟩
   unfold Xs.f X1q.f
   simp only[(hcap k hk).1,(hcap k hk).2,Option.bind_some,if_neg h1,if_neg h2,and_self]
 have hmax:∀ x,XG.f 0 x=some (mx 0 x):=fun x=>by
  unfold XG.f mx;split <;> rfl
 by_cases hn:n<0
 ·refine⟨b,0,by omega,fun k hk=>?_⟩
  have e:mx 0 (mn n R)=0:=by unfold mx mn;split <;> split <;> omega
  unfold X10.f X1f.f
  simp only[c1,c2,Option.bind_some,if_pos hn,(hroom k hk).2,specMin_eq,hmax,e,Int.add_zero,hb,and_self]
 ·have e0:0<=mn n R/\mn n R<=800:=by unfold mn;split <;> omega
  refine⟨wrap64 (b+mn n R),mn n R,by unfold wrap64;omega,fun k hk=>?_⟩
  have e:mx 0 (mn n R)=mn n R:=by unfold mx mn;split <;> split <;> omega
  unfold X10.f X1f.f
  simp only[c1,c2,Option.bind_some,if_neg hn,(hroom k hk).1,(hroom k hk).2,specMin_eq,hmax,e,and_self]
theorem worst_loop (ws:List Int) (hws:ws.length<=64) (ds:List S85) (hds:ds.length<=20) (M W:Int) (l:List S117) (hl:l.length<=8) (hc:∀ k,l.length<k->X5.f k l=some true) :
  ∀ (F:Nat) (i at_ b:Int) (h days:List Bool),0<=i->i<64->h.length<=10->0<=b->(64-i) * 30000+b+1<=(F:Int)->F<=1000000000->days.length+F<=2000000000 ->
  ∃ v ok ys,(ok=true->0<=v)/\(∀ k,100+F<k->Xb.l0 k ws ds days i M W at_ b l h=some (v,ys,ok))/\(∀ k,100+F<k->X7.l0 k ds ws (i+1) M W at_ b l h=some (if ok=true then v else -1)):=by
 intro F
 induction F with
 |zero=>intro i at_ b h days h0 h1 hh hb hF _ _;omega
 |succ F ih =>
  intro i at_ b h days h0 h1 hh hb hF hF2 hdays
  have hw:wrap64 (i+1)=i+1:=by unfold wrap64;omega
  by_cases hlt:i+1<(ws.length:Int)
  ·obtain⟨b',o,ho,he⟩:=eat_ev2 at_ b l h (by omega) (by omega) ⟨hb,by omega⟩ hc
   cases o with
   |false =>
    refine⟨0,false,days,fun e=>(by cases e),fun k hk=>?_,fun k hk=>?_⟩
    ·obtain⟨k,rfl⟩:∃ j,k=j+1:=⟨k-1,by omega⟩
     simp only[Xb.l0,hw,if_pos hlt,(he k (by omega)).1,Option.bind_some,Bool.false_eq_true,if_false]
    ·obtain⟨k,rfl⟩:∃ j,k=j+1:=⟨k-1,by omega⟩
     simp only[X7.l0,if_pos hlt,(he k (by omega)).2,Option.bind_some,Bool.false_eq_true,if_false]
   |true =>
    obtain⟨hb'0,hb'1⟩:=ho rfl
    obtain⟨s,hs⟩:=mayStorm_ev M W h (by omega)
    obtain⟨a1,a2⟩:=addDay_ev h s (by omega)
    have q1:days.length<140737488355328:=by omega
    cases s with
    |true =>
     obtain⟨v,ok,ys,hv,i1,i2⟩:=ih i at_ b' (addDay h true) (days++[true]) h0 h1 (addDay_len h true) hb'0 (by omega) (by omega) (by simp only[List.length_append,List.length_cons,List.length_nil];omega)
     refine⟨v,ok,ys,hv,fun k hk=>?_,fun k hk=>?_⟩
     ·obtain⟨k,rfl⟩:∃ j,k=j+1:=⟨k-1,by omega⟩
      simp only[Xb.l0,hw,if_pos hlt,(he k (by omega)).1,Option.bind_some,if_true,(hs k (by omega)).1,a1,if_pos q1]
      exact i1 k (by omega)
     ·obtain⟨k,rfl⟩:∃ j,k=j+1:=⟨k-1,by omega⟩
      simp only[X7.l0,if_pos hlt,(he k (by omega)).2,Option.bind_some,if_true,(hs k (by omega)).2,a2]
      exact i2 k (by omega)
    |false =>
     obtain⟨n,hn⟩:=foodAt_ev ds (by omega) (rd ws (i+1))
     have hi0:0<=i+1:=by omega
     have hw2:wrap64 (i+1+1)=i+1+1:=by unfold wrap64;omega
     obtain⟨b1,o1,hb1,hp1⟩:=pickUp_ev2 (rd ws (i+1)) b' n l h (by omega) (by omega) ⟨hb'0,by omega⟩
     obtain⟨b2,o2,hb2,hp2⟩:=pickUp_ev2 (rd ws (i+1)) b' n l (addDay h false) (by omega) (by have:=addDay_len h false;omega) ⟨hb'0,by omega⟩
     have hbe:b1=b2:=by
      have x1:=(hp1 (3 * l.length+4) (by omega)).1
      have x2:=(hp2 (3 * l.length+4) (by omega)).1
      obtain⟨y1,_⟩:=copied_ev (rd ws (i+1)) b' l h (by omega) (by omega)
      obtain⟨y2,_⟩:=copied_ev (rd ws (i+1)) b' l (addDay h false) (by omega) (by have:=addDay_len h false;omega)
      unfold X10.f at x1 x2
      rw[y1] at x1
      rw[y2] at x2
      have hroomEq:Xs.f (3 * l.length+4) (rd ws (i+1)) b' l h=Xs.f (3 * l.length+4) (rd ws (i+1)) b' l (addDay h false):=rfl
      simp only[Option.bind_some] at x1 x2
      rw[hroomEq] at x1
      by_cases hn0:n<0
      ·rw[if_pos hn0] at x1 x2
       simp only[Option.some.injEq,Prod.mk.injEq] at x1 x2
       omega
      ·rw[if_neg hn0] at x1 x2
       cases hq:Xs.f (3 * l.length+4) (rd ws (i+1)) b' l (addDay h false) with
       |none=>rw[hq] at x1;cases x1
       |some z =>
        rw[hq] at x1 x2
        simp only[Option.bind_some,Option.some.injEq,Prod.mk.injEq] at x1 x2
        omega
     have hb1':0<=b1:=by omega
     have hdays2:(days++[false]).length+F<=2000000000:=by rw[List.length_append];simp only[List.length_cons,List.length_nil];omega
     obtain⟨v,ok,ys,hv,i1,i2⟩:=ih (i+1) (rd ws (i+1)) b1 (addDay h false) (days++[false]) hi0 (by omega) (addDay_len h false) hb1' (by omega) (by omega) hdays2
     refine⟨v,ok,ys,hv,fun k hk=>?_,fun k hk=>?_⟩
     ·obtain⟨k,rfl⟩:∃ j,k=j+1:=⟨k-1,by omega⟩
      simp only[Xb.l0,hw,if_pos hlt,(he k (by omega)).1,Option.bind_some,if_true,(hs k (by omega)).1,Bool.false_eq_true,if_false,if_pos hi0,(hn k (by omega)).1,(hp1 k (by omega)).1,a1,if_pos q1]
      exact i1 k (by omega)
     ·obtain⟨k,rfl⟩:∃ j,k=j+1:=⟨k-1,by omega⟩
      simp only[X7.l0,if_pos hlt,(he k (by omega)).2,Option.bind_some,if_true,(hs k (by omega)).2,a2,Bool.false_eq_true,if_false,if_pos hi0,(hn k (by omega)).2,(hp2 k (by omega)).2,hw2,<-hbe]
      exact i2 k (by omega)
  ·refine⟨b,true,days,fun _=>hb,fun k hk=>?_,fun k hk=>?_⟩
   ·obtain⟨k,rfl⟩:∃ j,k=j+1:=⟨k-1,by omega⟩
    simp only[Xb.l0,hw,if_neg hlt]
   ·obtain⟨k,rfl⟩:∃ j,k=j+1:=⟨k-1,by omega⟩
    simp only[X7.l0,if_neg hlt,if_true]
structure LandEv (W H:Int) (xs:List Int) (K:Nat) (lb:Bool) (oc:Int->Bool):Prop where
 land:∀ k,K<k->Xz.f k W H xs=some lb/\Xa.f k W H xs=some lb
 open_:∀ m k,K<k->Xg.f k W H xs m=some (oc m)/\Xm.f k W H xs m=some (oc m)
def okD (oc:Int->Bool) (ds:List S85) (i:Int):Prop:=(oc (rd_T85 ds i).f0=true/\1<=(rd_T85 ds i).f1/\(rd_T85 ds i).f1<=10000)/\(i>0->(rd_T85 ds (i-1)).f0<(rd_T85 ds i).f0)
theorem depots_loop {W H:Int} {xs:List Int} {K:Nat} {lb:Bool} {oc:Int->Bool} (E:LandEv W H xs K lb oc) (ds:List S85) (hds:ds.length<=1048576):∀ (e:Nat) (i:Int),0<=i->(ds.length:Int)-i=e ->
  ∃ b,(b=true->ds.length<=20/\∀ j,i<=j->j<(ds.length:Int)->okD oc ds j)/\∀ k,K+e+1<k->X9.l0 k ds ds (ds.length:Int) i W H xs=some b/\Xc.l0 k ds i W H xs=some b:=by
 intro e
 induction e with
 |zero =>
  intro i h0 hd
  have hlt:¬ i<(ds.length:Int):=by omega
  cases lb with
  |false =>
   refine⟨false,fun h=>(by cases h),fun k hk=>?_⟩
   obtain⟨k,rfl⟩:∃ j,k=j+1:=⟨k-1,by omega⟩
   simp only[X9.l0,Xc.l0,if_neg hlt]
   obtain⟨e1,e2⟩:=E.land (k+1) (by omega)
   by_cases hk2:K<k
   ·simp only[(E.land k hk2).1,(E.land k hk2).2,Option.bind_some,Bool.false_eq_true,if_false,and_self]
   ·exfalso;omega
  |true =>
   refine⟨decide ((ds.length:Int)<=20),fun h=>⟨by have:=of_decide_eq_true h;omega,fun j h1 h2=>by omega⟩,fun k hk=>?_⟩
   obtain⟨k,rfl⟩:∃ j,k=j+1:=⟨k-1,by omega⟩
   by_cases hk2:K<k
   ·simp only[X9.l0,Xc.l0,if_neg hlt,(E.land k hk2).1,(E.land k hk2).2,Option.bind_some,if_true,and_self]
   ·exfalso;omega
 |succ e ih =>
  intro i h0 hd
  have hlt:i<(ds.length:Int):=by omega
  obtain⟨b,hb,hp⟩:=ih (i+1) (by omega) (by omega)
  have hw:wrap64 (i-1)=i-1:=by unfold wrap64;omega
  have hw2:wrap64 (i+1)=i+1:=by unfold wrap64;omega
  by_cases ok:(oc (rd_T85 ds i).f0=true/\1<=(rd_T85 ds i).f1/\(rd_T85 ds i).f1<=10000)/\(i>0->(rd_T85 ds (i-1)).f0<(rd_T85 ds i).f0)
  ·refine⟨b,fun e_=>⟨(hb e_).1,fun j h1 h2=>by
    by_cases hj:j=i
    ·rw[hj];exact ok
    ·exact(hb e_).2 j (by omega) h2⟩,fun k hk=>?_⟩
   obtain⟨k,rfl⟩:∃ j,k=j+1:=⟨k-1,by omega⟩
   obtain⟨b1,b2⟩:=hp k (by omega)
   obtain⟨o1,o2⟩:=E.open_ (rd_T85 ds i).f0 k (by omega)
   have e2:1<=(rd_T85 ds i).f1/\(rd_T85 ds i).f1<=10000:=ok.1.2
   simp only[X9.l0,Xc.l0,if_pos hlt,if_pos h0,o1,o2,ok.1.1,l1In_eq,inRange_eq,Option.bind_some,decide_eq_true_eq,if_true,if_pos e2,hw,hw2]
   by_cases hi:i>0
   ·have h1:0<=i-1:=by omega
    have h2:i-1<(ds.length:Int):=by omega
    have h3:=ok.2 hi
    have h4:¬ (rd_T85 ds i).f0<=(rd_T85 ds (i-1)).f0:=by omega
    have h5:¬ (rd_T85 ds (i-1)).f0>=(rd_T85 ds i).f0:=by omega
    simp only[if_pos hi,if_pos h1,if_pos h2,if_neg h4,if_neg h5]
    exact⟨b1,b2⟩
   ·simp only[if_neg hi]
    exact⟨b1,b2⟩
  ·refine⟨false,fun h=>(by cases h),fun k hk=>?_⟩
   obtain⟨k,rfl⟩:∃ j,k=j+1:=⟨k-1,by omega⟩
   obtain⟨o1,o2⟩:=E.open_ (rd_T85 ds i).f0 k (by omega)
   simp only[X9.l0,Xc.l0,if_pos hlt,if_pos h0,o1,o2,l1In_eq,inRange_eq,Option.bind_some,decide_eq_true_eq,hw]
   by_cases c1:oc (rd_T85 ds i).f0=true
   ·have ok':¬ ((1<=(rd_T85 ds i).f1/\(rd_T85 ds i).f1<=10000)/\(i>0->(rd_T85 ds (i-1)).f0<(rd_T85 ds i).f0)):=fun h=>ok ⟨⟨c1,h.1⟩,h.2⟩
    simp only[c1,if_true]
    constructor
    ·repeat' split
     all_goals first|rfl|(exfalso;omega)
    ·repeat' split
     all_goals first|rfl|(exfalso;omega)
   ·simp only[c1,Bool.false_eq_true,if_false,and_self]
theorem party_ev {W H:Int} {xs:List Int} {K:Nat} {lb:Bool} {oc:Int->Bool} (E:LandEv W H xs K lb oc) (a b:Int) (l:List S117) (h:List Bool) (hl:l.length<=1048576):∃ p,(p=true->oc a=true/\l.length<=8/\(0<=b/\b<=10000)/\h.length<=10/\∀ k,l.length<k->X5.f k l=some true)/\∀ k,K+l.length<k->X1r.f k W H xs a b l h=some p/\X1p.f k W H xs a b l h=some p:=by
 obtain⟨c,hc,hf⟩:=areCrew_ev l hl
 refine⟨oc a && (c && (decide (0<=b/\b<=10000) && decide ((h.length:Int)<=10))),fun e=>?_,fun k hk=>?_⟩
 ·simp only[Bool.and_eq_true,decide_eq_true_eq] at e
  obtain⟨e1,e2,e3,e4⟩:=e
  subst e2
  exact⟨e1,(hf rfl).1.2,e3,by omega,fun k hk=>(hc k hk).1⟩
 ·unfold X1r.f X1p.f
  obtain⟨o1,o2⟩:=E.open_ a k (by omega)
  simp only[o1,o2,(hc k (by omega)).1,(hc k (by omega)).2,Option.bind_some,inRange_eq,l1In_eq]
  cases oc a <;> cases c <;> simp only[Bool.false_eq_true,if_false,if_true,Bool.false_and,Bool.true_and,and_self]
  by_cases q:0<=b/\b<=10000
  ·simp only[q,and_self,decide_true,if_true,Bool.true_and]
  ·simp only[q,decide_false,Bool.false_eq_true,if_false,Bool.false_and,and_self]
structure LandAll (W H:Int) (xs:List Int) (K:Nat) (lb:Bool) (oc:Int->Bool):Prop extends LandEv W H xs K lb oc where
 way:∀ a b,∃ ws:List Int,ws.length<=64/\∀ k,K<k->Xi.f k W H xs a b=some ws/\Xf.f k W H xs a b=some ws
 near:∀ a,∃ ns:List Int,ns.length<=4/\∀ k,K<k->Xj.f k W H xs a=some ns/\X1B k W H xs a=some ns
theorem land_all (W H:Int) (xs:List Int) (hn:xs.length<=1048576):∃ lb oc,LandAll W H xs (xs.length+1000) lb oc:=by
 rcases land_cases W H xs hn with L|h
 ·refine⟨true,opn xs,⟨⟨fun k hk=>L.ev k (by omega),fun m k hk=>isOpen_ok L m k (by omega)⟩,fun a b=>⟨wayTo W xs a b,wayTo_len L,fun k hk=>wayTo_ok L a b k (by omega)⟩,fun a=>?_⟩⟩
  by_cases ha:0<=a/\a<(xs.length:Int)
  ·refine⟨nearL W xs a,near_len W a xs,fun k hk=>⟨near_ok L a ha k (by omega),?_⟩⟩
   unfold X1B
   simp only[(isCell_ok L a k (by omega)).2,ha,and_self,decide_true,Option.bind_some,if_true,l4Near_ok L a ha k (by omega)]
  ·refine⟨[],by simp,fun k hk=>near_no a k ?_⟩
   have:=isCell_ok L a k (by omega)
   simp only[ha,decide_false] at this
   exact this
 ·refine⟨false,fun _=>false,⟨⟨fun k hk=>h k (by omega),fun m k hk=>isOpen_no m k (h k (by omega))⟩,fun a b=>⟨[],by simp,fun k hk=>wayTo_no a b k (h k (by omega))⟩,fun a=>⟨[],by simp,fun k hk=>near_no a k (isCell_no a k (h k (by omega)))⟩⟩⟩
theorem worst_ev {W H:Int} {xs:List Int} {K:Nat} {lb:Bool} {oc:Int->Bool} (A:LandAll W H xs K lb oc) (base M Wi:Int) (ds:List S85) (hds:ds.length<=1048576) (a b:Int) (l:List S117) (hl:l.length<=1048576) (h:List Bool) :
  ∃ v,∀ k,K+ds.length+l.length+3000000<k->X1k.f k W H xs base M Wi ds a b l h=some v/\X7.f k W H xs base M Wi ds a b l h=some v:=by
 obtain⟨ws,hws,hway⟩:=A.way a base
 obtain⟨r1,r2⟩:=isRule_ev M Wi
 obtain⟨d,hd,hdk⟩:=depots_loop A.toLandEv ds hds ds.length 0 (by omega) (by omega)
 obtain⟨p,hp,hpk⟩:=party_ev A.toLandEv a b l h hl
 by_cases bad:ruleB M Wi=true/\d=true/\p=true
 ·obtain⟨rt,rfl,rfl⟩:=bad
  obtain⟨_,hl8,hb,hh,hc⟩:=hp rfl
  have hd20:=(hd rfl).1
  by_cases hw0:ws=[]
  ·subst hw0
   refine⟨-1,fun k hk=>?_⟩
   obtain⟨k,rfl⟩:∃ j,k=j+1:=⟨k-1,by omega⟩
   have hk0:=hdk (k+1) (by omega)
   have hk1:=hpk (k+1) (by omega)
   have hk2:=hway (k+1) (by omega)
   unfold X1k.f X1g.f X7.f X9.f Xc.f
   simp only[hk0.1,hk0.2,hk1.1,hk1.2,hk2.1,hk2.2,r1,r2,rt,Option.bind_some,if_true,List.length_nil,X7.j0]
   exact⟨rfl,rfl⟩
  ·have hwl:¬ (ws.length:Int)=0:=by
    intro e
    exact hw0 (List.eq_nil_of_length_eq_zero (by omega))
   obtain⟨n,hn⟩:=foodAt_ev ds hds a
   obtain⟨b',o,hb',hpu⟩:=pickUp_ev2 a b n l h hl (by omega) ⟨hb.1,by omega⟩
   obtain⟨v,ok,ys,hv,w1,w2⟩:=worst_loop ws hws ds hd20 M Wi l hl8 hc 2000000 0 a b' h [] (by omega) (by omega) hh (by omega) (by omega) (by omega) (by simp)
   refine⟨if ok=true then v else -1,fun k hk=>?_⟩
   obtain⟨k,rfl⟩:∃ j,k=j+1:=⟨k-1,by omega⟩
   have hk0:=hdk (k+1) (by omega)
   have hk1:=hpk (k+1) (by omega)
   have hk2:=hway (k+1) (by omega)
   have w2':=w2 k (by omega)
   have w1':=w1 (k+1) (by omega)
   have hbq:((ws.length:Int)==0)=false:=beq_eq_false_iff_ne.mpr hwl
   rw[show (0:Int)+1=1 from rfl] at w2'
   unfold X1k.f X1g.f X7.f X9.f Xc.f Xb.f
   simp only[hk0.1,hk0.2,hk1.1,hk1.2,hk2.1,hk2.2,r1,r2,rt,Option.bind_some,if_true,if_neg hwl,hbq,X7.j0,Bool.false_eq_true,if_false,(hn (k+1) (by omega)).1,(hn k (by omega)).2,(hpu (k+1) (by omega)).1,(hpu k (by omega)).2,w1',w2',and_true]
   cases ok <;> rfl
 ·refine⟨-1,fun k hk=>?_⟩
  obtain⟨k,rfl⟩:∃ j,k=j+1:=⟨k-1,by omega⟩
  have hk0:=hdk (k+1) (by omega)
  have hk1:=hpk (k+1) (by omega)
  have hk2:=hway (k+1) (by omega)
  unfold X1k.f X1g.f X7.f X9.f Xc.f
  simp only[hk0.1,hk0.2,hk1.1,hk1.2,hk2.1,hk2.2,r1,r2,Option.bind_some,X7.j0]
  by_cases c1:ruleB M Wi=true
  ·cases d with
   |false=>simp[c1]
   |true =>
    cases p with
    |false=>simp[c1]
    |true=>exact absurd ⟨c1,rfl,rfl⟩ bad
  ·simp[c1]
theorem szCase (W H:Int) (xs:List Int) (ds:List S87) (a b:Int) (l:List S119) (h:List Bool) (hx:xs.length<=maxLen) (hd:ds.length<=maxLen) (hl:l.length<=maxLen) (hh:h.length<=maxLen) :
  ∃ z1,X1c.f W H xs 1048576=some z1/\(z1<0\/∃ z2,X1h.f ds z1=some z2/\(z2<0\/∃ z3,X1d.f a b l h z2=some z3/\(z3<0\/xs.length+ds.length+l.length+h.length<=1048576))):=by
 unfold maxLen at hx hd hl hh
 unfold X1c.f X1u.f X1h.f X1d.f X1i.f X1o.f
 have e1:wrap64 (1048576-(xs.length:Int))=1048576-xs.length:=by unfold wrap64;omega
 rw[e1]
 by_cases c1:1048576-(xs.length:Int)<0
 ·simp only[if_pos c1,Option.bind_some];exact⟨_,rfl,.inl (by omega)⟩
 simp only[if_neg c1,Option.bind_some]
 refine⟨_,rfl,.inr ?_⟩
 have e2:wrap64 (1048576-(xs.length:Int)-(ds.length:Int))=1048576-xs.length-ds.length:=by unfold wrap64;omega
 rw[e2]
 by_cases c2:1048576-(xs.length:Int)-(ds.length:Int)<0
 ·simp only[if_pos c2];exact⟨_,rfl,.inl (by omega)⟩
 simp only[if_neg c2]
 refine⟨_,rfl,.inr ?_⟩
 have e3:wrap64 (1048576-(xs.length:Int)-(ds.length:Int)-(l.length:Int))=1048576-xs.length-ds.length-l.length:=by unfold wrap64;omega
 rw[e3]
 by_cases c3:1048576-(xs.length:Int)-(ds.length:Int)-(l.length:Int)<0
 ·simp only[if_pos c3,Option.bind_some];exact⟨_,rfl,.inl (by omega)⟩
 simp only[if_neg c3,Option.bind_some]
 have e4:wrap64 (1048576-(xs.length:Int)-(ds.length:Int)-(l.length:Int)-(h.length:Int))=1048576-xs.length-ds.length-l.length-h.length:=by unfold wrap64;omega
 rw[e4]
 by_cases c4:1048576-(xs.length:Int)-(ds.length:Int)-(l.length:Int)-(h.length:Int)<0
 ·simp only[if_pos c4,Option.bind_some];exact⟨_,rfl,.inl (by omega)⟩
 simp only[if_neg c4,Option.bind_some]
 exact⟨_,rfl,.inr (by omega)⟩
theorem toLand_ev (W H:Int) (xs:List Int) (hx:xs.length<=1048576) (k:Nat) (hk:xs.length<k):XV.f k W H xs=some (W,H,xs):=by
 unfold XV.f
 rw[toIntS_ev xs hx k hk];rfl
theorem eqLand_ev (W H:Int) (xs:List Int) (hx:xs.length<=1048576) (k:Nat) (hk:xs.length<k):X1x.f k W H xs W H xs=some true:=by
 unfold X1x.f
 rw[eqIntS_ev xs hx k hk];simp
theorem markIntS_loop (n:Nat) (hn:n<=1048576):∀ (d k:Nat) (acc:List Int) (c i:Int),acc.length=n->0<=i->(n:Int)-i=d->0<=c->c+d<=4611686018427387904->d<k ->
  ∃ r,XT.l0 k acc c i=some (c+d,r)/\r.length=n/\∀ j:Nat,j<n->r.getD j 0=if (j:Int)<i then acc.getD j 0 else c+(j-i):=by
 intro d
 induction d with
 |zero =>
  intro k acc c i hl h0 hd hc hb hk
  obtain⟨k,rfl⟩:∃ m,k=m+1:=⟨k-1,by omega⟩
  simp only[XT.l0]
  rw[if_neg (by omega)]
  exact⟨acc,by simp,hl,fun j hj=>by rw[if_pos (by omega)]⟩
 |succ d ih =>
  intro k acc c i hl h0 hd hc hb hk
  obtain⟨k,rfl⟩:∃ m,k=m+1:=⟨k-1,by omega⟩
  simp only[XT.l0]
  rw[if_pos (by omega),if_pos h0,wrap_small (n:=n) h0 (by omega) hn,show wrap64 (c+1)=c+1 by unfold wrap64;omega]
  obtain⟨r,hr,hrl,hrj⟩:=ih k (acc.set i.toNat c) (c+1) (i+1) (by simpa using hl) (by omega) (by omega) (by omega) (by omega) (by omega)
  refine⟨r,by rw[hr];congr 2;omega,hrl,fun j hj=>?_⟩
  rw[hrj j hj,getD_set _ _ _ _ (by omega)]
  by_cases h1:(j:Int)<i
  ·rw[if_pos (by omega),if_neg (by omega),if_pos h1]
  ·rw[if_neg h1]
   by_cases h2:(j:Int)=i
   ·rw[if_pos (by omega),if_pos (by omega)];omega
   ·rw[if_neg (by omega)];omega
theorem markIntS_ev (l:List Int) (hn:l.length<=1048576) (c:Int) (hc:0<=c) (hb:c+l.length<=4611686018427387904) (k:Nat) (hk:l.length<k) :
  ∃ r,XT.f k l c=some (c+l.length,r)/\r.length=l.length/\∀ j:Nat,j<l.length->r.getD j 0=c+j:=by
 obtain⟨r,h1,h2,h3⟩:=markIntS_loop l.length hn l.length k l c 0 rfl (by omega) (by omega) hc hb hk
 refine⟨r,h1,h2,fun j hj=>?_⟩
 rw[h3 j hj,if_neg (by omega)];omega
def mk4 (c:Int):S117:=⟨c,c+1,c+2,(Int.tmod (c+3) 3==0)⟩
theorem rdM_set (l:List S117) (i:Int) (h0:0<=i) (h:i<(l.length:Int)) (a:S117):rd_T117 (l.set i.toNat a) i=a:=by
 unfold rd_T117;rw[getD_set _ _ _ _ (by omega),if_pos rfl]
theorem markMemberS_loop2 (n:Nat) (hn:n<=1048576):∀ (d k:Nat) (acc:List S117) (c i:Int),acc.length=n->0<=i->(n:Int)-i=d->0<=c->c+4 * d<=1000000000->d<k ->
  ∃ r,Xx.l0 k acc c i=some (c+4 * d,r)/\r.length=n/\∀ j:Nat,j<n->r.getD j z117=if (j:Int)<i then acc.getD j z117 else mk4 (c+4 * (j-i)):=by
 intro d
 induction d with
 |zero =>
  intro k acc c i hl h0 hd hc hb hk
  obtain⟨k,rfl⟩:∃ m,k=m+1:=⟨k-1,by omega⟩
  simp only[Xx.l0]
  rw[if_neg (by omega)]
  exact⟨acc,by simp,hl,fun j hj=>by rw[if_pos (by omega)]⟩
 |succ d ih =>
  intro k acc c i hl h0 hd hc hb hk
  obtain⟨k,rfl⟩:∃ m,k=m+1:=⟨k-1,by omega⟩
  have w1:wrap64 (c+1)=c+1:=by unfold wrap64;omega
  have w2:wrap64 (c+1+1)=c+2:=by unfold wrap64;omega
  have w3:wrap64 (c+2+1)=c+3:=by unfold wrap64;omega
  have w4:wrap64 (c+3+1)=c+4:=by unfold wrap64;omega
  have hi:i<(acc.length:Int):=by omega
  obtain⟨r,hr,hrl,hrj⟩:=ih k (acc.set i.toNat (mk4 c)) (c+4) (i+1) (by simpa using hl) (by omega) (by omega) (by omega) (by omega) (by omega)
  refine⟨r,?_,hrl,fun j hj=>?_⟩
  ·simp only[Xx.l0,Option.bind_some,w1,w2,w3,w4,rdM_set acc i h0 hi,List.set_set]
   rw[if_pos (by omega),if_pos h0,wrap_small (n:=n) h0 (by omega) hn]
   rw[show (⟨c,c+1,c+2,(Int.tmod (c+3) 3==0)⟩:S117)=mk4 c from rfl,hr]
   congr 2;omega
  ·rw[hrj j hj,getD_set _ _ _ _ (by omega)]
   by_cases h1:(j:Int)<i
   ·rw[if_pos (by omega),if_neg (by omega),if_pos h1]
   ·rw[if_neg h1]
    by_cases h2:(j:Int)=i
    ·rw[if_pos (by omega),if_pos (by omega),show c+4 * ((j:Int)-i)=c by omega]
    ·rw[if_neg (by omega),show c+4+4 * ((j:Int)-(i+1))=c+4 * ((j:Int)-i) by omega]
theorem markMemberS_ev2 (l:List S117) (hn:l.length<=1048576) (k:Nat) (hk:l.length<k) :
  ∃ r,Xx.f k l 1=some (1+4 * (l.length:Int),r)/\r.length=l.length/\∀ j:Nat,j<l.length->r.getD j z117=mk4 (1+4 * j):=by
 obtain⟨r,h1,h2,h3⟩:=markMemberS_loop2 l.length hn l.length k l 1 0 rfl (by omega) (by omega) (by omega) (by omega) hk
 refine⟨r,h1,h2,fun j hj=>?_⟩
 rw[h3 j hj,if_neg (by omega),show (1:Int)+4 * ((j:Int)-0)=1+4 * j by omega]
theorem heldMemberS_loop (l:List S117) (hn:l.length<=1048576) (hj:∀ j:Nat,j<l.length->l.getD j z117=mk4 (1+4 * j)):∀ (d k:Nat) (i:Int),0<=i->(l.length:Int)-i=d->d<k ->
  XQ.l0 k l (1+4 * i) i=some (1+4 * (l.length:Int)):=by
 intro d
 induction d with
 |zero =>
  intro k i h0 hd hk
  obtain⟨k,rfl⟩:∃ m,k=m+1:=⟨k-1,by omega⟩
  simp only[XQ.l0]
  rw[if_neg (by omega)];congr 1;omega
 |succ d ih =>
  intro k i h0 hd hk
  obtain⟨k,rfl⟩:∃ m,k=m+1:=⟨k-1,by omega⟩
  have h1:rd_T117 l i=mk4 (1+4 * i):=by
   have:=hj i.toNat (by omega)
   unfold rd_T117;rw[this];congr 1;omega
  have w1:wrap64 (1+4 * i+1)=1+4 * i+1:=by unfold wrap64;omega
  have w2:wrap64 (1+4 * i+1+1)=1+4 * i+2:=by unfold wrap64;omega
  have w3:wrap64 (1+4 * i+2+1)=1+4 * i+3:=by unfold wrap64;omega
  have w4:wrap64 (1+4 * i+3+1)=1+4 * (i+1):=by unfold wrap64;omega
  simp only[XQ.l0,h1,w1,w2,w3,w4,mk4,if_true,bne_self_eq_false,Bool.false_eq_true,if_false]
  rw[if_pos (by omega),if_pos h0,wrap_small (n:=l.length) h0 (by omega) hn]
  exact ih k (i+1) (by omega) (by omega) (by omega)
theorem heldMemberS_ev (l:List S117) (hn:l.length<=1048576) (hj:∀ j:Nat,j<l.length->l.getD j z117=mk4 (1+4 * j)) (k:Nat) (hk:l.length<k):XQ.f k l 1=some (1+4 * (l.length:Int)):=by
 have:=heldMemberS_loop l hn hj l.length k 0 (by omega) (by omega) hk
 rw[Int.mul_zero,Int.add_zero] at this
 exact this
theorem markBoolS_loop (n:Nat) (hn:n<=1048576):∀ (d k:Nat) (acc:List Bool) (c i:Int),acc.length=n->0<=i->(n:Int)-i=d->0<=c->c+d<=1000000000->d<k ->
  ∃ r,XP.l0 k acc c i=some (c+d,r)/\r.length=n/\∀ j:Nat,j<n->r.getD j false=if (j:Int)<i then acc.getD j false else(Int.tmod (c+(j-i)) 3==0):=by
 intro d
 induction d with
 |zero =>
  intro k acc c i hl h0 hd hc hb hk
  obtain⟨k,rfl⟩:∃ m,k=m+1:=⟨k-1,by omega⟩
  simp only[XP.l0]
  rw[if_neg (by omega)]
  exact⟨acc,by simp,hl,fun j hj=>by rw[if_pos (by omega)]⟩
 |succ d ih =>
  intro k acc c i hl h0 hd hc hb hk
  obtain⟨k,rfl⟩:∃ m,k=m+1:=⟨k-1,by omega⟩
  simp only[XP.l0]
  rw[if_pos (by omega),if_pos h0,wrap_small (n:=n) h0 (by omega) hn,show wrap64 (c+1)=c+1 by unfold wrap64;omega]
  obtain⟨r,hr,hrl,hrj⟩:=ih k (acc.set i.toNat (Int.tmod c 3==0)) (c+1) (i+1) (by simpa using hl) (by omega) (by omega) (by omega) (by omega) (by omega)
  refine⟨r,by rw[hr];congr 2;omega,hrl,fun j hj=>?_⟩
  rw[hrj j hj,getD_set _ _ _ _ (by omega)]
  by_cases h1:(j:Int)<i
  ·rw[if_pos (by omega),if_neg (by omega),if_pos h1]
  ·rw[if_neg h1]
   by_cases h2:(j:Int)=i
   ·rw[if_pos (by omega),if_pos (by omega),show c+((j:Int)-i)=c by omega]
   ·rw[if_neg (by omega),show c+1+((j:Int)-(i+1))=c+((j:Int)-i) by omega]
theorem markBoolS_ev (l:List Bool) (hn:l.length<=1048576) (c:Int) (hc:0<=c) (hb:c+l.length<=1000000000) (k:Nat) (hk:l.length<k) :
  ∃ r,XP.f k l c=some (c+l.length,r)/\r.length=l.length/\∀ j:Nat,j<l.length->r.getD j false=(Int.tmod (c+j) 3==0):=by
 obtain⟨r,h1,h2,h3⟩:=markBoolS_loop l.length hn l.length k l c 0 rfl (by omega) (by omega) hc hb hk
 refine⟨r,h1,h2,fun j hj=>?_⟩
 rw[h3 j hj,if_neg (by omega),show c+((j:Int)-0)=c+j by omega]
theorem heldBoolS_loop (l:List Bool) (hn:l.length<=1048576):∀ (d k:Nat) (c i:Int),0<=i->(l.length:Int)-i=d->0<=c->c+d<=1000000000->d<k ->
  (∀ j:Nat,i<=j->j<l.length->l.getD j false=(Int.tmod (c+(j-i)) 3==0))->XU.l0 k l c i=some (c+d):=by
 intro d
 induction d with
 |zero =>
  intro k c i h0 hd hc hb hk hj
  obtain⟨k,rfl⟩:∃ m,k=m+1:=⟨k-1,by omega⟩
  simp only[XU.l0]
  rw[if_neg (by omega)];simp
 |succ d ih =>
  intro k c i h0 hd hc hb hk hj
  obtain⟨k,rfl⟩:∃ m,k=m+1:=⟨k-1,by omega⟩
  have h1:rdOf false l i=(Int.tmod c 3==0):=by
   have:=hj i.toNat (by omega) (by omega)
   unfold rdOf;rw[this,show c+((i.toNat:Int)-i)=c by omega]
  simp only[XU.l0,h1,bne_self_eq_false,Bool.false_eq_true,if_false]
  rw[if_pos (by omega),if_pos h0,wrap_small (n:=l.length) h0 (by omega) hn,show wrap64 (c+1)=c+1 by unfold wrap64;omega]
  rw[ih k (c+1) (i+1) (by omega) (by omega) (by omega) (by omega) (by omega) (fun j h2 h3=>by rw[hj j (by omega) h3,show c+1+((j:Int)-(i+1))=c+((j:Int)-i) by omega])]
  congr 1;omega
theorem heldBoolS_ev (l:List Bool) (hn:l.length<=1048576) (c:Int) (hc:0<=c) (hb:c+l.length<=1000000000) (k:Nat) (hk:l.length<k) (hj:∀ j:Nat,j<l.length->l.getD j false=(Int.tmod (c+j) 3==0)) :
  XU.f k l c=some (c+l.length) :=
 heldBoolS_loop l hn l.length k c 0 (by omega) (by omega) hc hb hk (fun j _ h=>by rw[hj j h,show c+((j:Int)-0)=c+j by omega])
theorem rdD_set (l:List S85) (i:Int) (h0:0<=i) (h:i<(l.length:Int)) (a:S85):rd_T85 (l.set i.toNat a) i=a:=by
 unfold rd_T85;rw[getD_set _ _ _ _ (by omega),if_pos rfl]
theorem markDepotS_loop (n:Nat) (hn:n<=1048576):∀ (d k:Nat) (acc:List S85) (c i:Int),acc.length=n->0<=i->(n:Int)-i=d->0<=c->c+2 * d<=1000000000->d<k ->
  ∃ r,XO.l0 k acc c i=some (c+2 * d,r)/\r.length=n:=by
 intro d
 induction d with
 |zero =>
  intro k acc c i hl h0 hd hc hb hk
  obtain⟨k,rfl⟩:∃ m,k=m+1:=⟨k-1,by omega⟩
  simp only[XO.l0]
  rw[if_neg (by omega)]
  exact⟨acc,by simp,hl⟩
 |succ d ih =>
  intro k acc c i hl h0 hd hc hb hk
  obtain⟨k,rfl⟩:∃ m,k=m+1:=⟨k-1,by omega⟩
  have w1:wrap64 (c+1)=c+1:=by unfold wrap64;omega
  have w2:wrap64 (c+1+1)=c+2:=by unfold wrap64;omega
  have hi:i<(acc.length:Int):=by omega
  obtain⟨r,hr,hrl⟩:=ih k (acc.set i.toNat ⟨c,c+1⟩) (c+2) (i+1) (by simpa using hl) (by omega) (by omega) (by omega) (by omega) (by omega)
  refine⟨r,?_,hrl⟩
  simp only[XO.l0,Option.bind_some,w1,w2,rdD_set acc i h0 hi,List.set_set]
  rw[if_pos (by omega),if_pos h0,wrap_small (n:=n) h0 (by omega) hn,hr]
  congr 2;omega
theorem markDepotS_ev (l:List S85) (hn:l.length<=1048576) (c:Int) (hc:0<=c) (hb:c+2 * l.length<=1000000000) (k:Nat) (hk:l.length<k) :
  ∃ r,XO.f k l c=some (c+2 * l.length,r):=by
 obtain⟨r,h1,_⟩:=markDepotS_loop l.length hn l.length k l c 0 rfl (by omega) (by omega) hc hb hk
 exact⟨r,h1⟩
theorem markLand_ev (W H:Int) (xs:List Int) (hn:xs.length<=1048576) (k:Nat) (hk:xs.length<k):∃ r,X1y.f k W H xs 1=some (1+(xs.length:Int),r):=by
 obtain⟨r,h1,_,_⟩:=markIntS_ev xs hn 1 (by omega) (by omega) k hk
 exact⟨r,by unfold X1y.f;rw[h1];rfl⟩
theorem markPartyC_ev (a b:Int) (l:List S117) (h:List Bool) (hl:l.length<=1048576) (hh:h.length<=1048576) (c:Int) (hc:0<=c) (hb:c+4 * l.length+h.length<=1000000000) (k:Nat) (hk:l.length+h.length<k) :
  ∃ r1 r2,X1b.f k a b l h c=some (c+4 * l.length+h.length,r1,r2):=by
 obtain⟨r1,h1,_,_⟩:=markMemberS_loop2 l.length hl l.length k l c 0 rfl (by omega) (by omega) hc (by omega) (by omega)
 obtain⟨r2,h2,_,_⟩:=markBoolS_ev h hh (c+4 * l.length) (by omega) (by omega) k (by omega)
 refine⟨r1,r2,?_⟩
 unfold X1b.f Xx.f
 rw[h1];simp only[Option.bind_some,h2]
theorem markParty_ev (a b:Int) (l:List S117) (h:List Bool) (hl:l.length<=1048576) (hh:h.length<=1048576) :
  ∃ l' h',∀ k,l.length+h.length<k->X1b.f k a b l h 1=some (1+4 * (l.length:Int)+(h.length:Int),l',h')/\X1n.f k a b l' h' 1=some (1+4 * (l.length:Int)+(h.length:Int)):=by
 obtain⟨l',m0,m2,m3⟩:=markMemberS_ev2 l hl (l.length+1) (by omega)
 obtain⟨h',n0,n2,n3⟩:=markBoolS_ev h hh (1+4 * (l.length:Int)) (by omega) (by omega) (h.length+1) (by omega)
 refine⟨l',h',fun k hk=>?_⟩
 have m1:Xx.f k l 1=some (1+4 * (l.length:Int),l'):=by
  obtain⟨l2,q1,q2,q3⟩:=markMemberS_ev2 l hl k (by omega)
  have e:l2=l':=ext_getD (d:=z117) (by omega) (fun j hj=>by rw[q3 j (by omega),m3 j (by omega)])
  rw[q1,e]
 have n1:XP.f k h (1+4 * (l.length:Int))=some (1+4 * (l.length:Int)+h.length,h'):=by
  obtain⟨h2,q1,q2,q3⟩:=markBoolS_ev h hh (1+4 * (l.length:Int)) (by omega) (by omega) k (by omega)
  have e:h2=h':=ext_getD (d:=false) (by omega) (fun j hj=>by rw[q3 j (by omega),n3 j (by omega)])
  rw[q1,e]
 have e1:=heldMemberS_ev l' (by omega) (fun j hj=>m3 j (by omega)) k (by omega)
 have e2:=heldBoolS_ev h' (by omega) (1+4 * (l.length:Int)) (by omega) (by omega) k (by omega) (fun j hj=>n3 j (by omega))
 rw[m2] at e1
 rw[n2] at e2
 constructor
 ·unfold X1b.f
  rw[m1,Option.bind_some]
  simp only[]
  rw[n1,Option.bind_some]
 ·unfold X1n.f
  rw[e1,Option.bind_some,if_neg (by omega),e2,Option.bind_some,if_neg (by omega)]
theorem canReturn_ev {W H:Int} {xs:List Int} {K:Nat} {lb:Bool} {oc:Int->Bool} (A:LandAll W H xs K lb oc) (base M Wi:Int) (ds:List S85) (hds:ds.length<=1048576) (a b:Int) (l:List S117) (hl:l.length<=1048576) (h:List Bool) :
  ∃ c,∀ k,K+ds.length+l.length+3000000<k->X16.f k W H xs base M Wi ds a b l h=some c/\X14.f k W H xs base M Wi ds a b l h=some c:=by
 obtain⟨v,hv⟩:=worst_ev A base M Wi ds hds a b l hl h
 refine⟨decide (v>=0),fun k hk=>?_⟩
 unfold X16.f X14.f
 rw[(hv k hk).1,(hv k hk).2]
 exact⟨rfl,rfl⟩
def EatOk (a b:Int) (l:List S117) (h:List Bool):Prop:=∃ b',∀ k,2 * l.length+3<k->Xd.f k a b l h=some (a,b',l,h,true)/\XL.f k a b l h=some (a,b',l,h,true)
theorem safe_ev {W H:Int} {xs:List Int} {K:Nat} {lb:Bool} {oc:Int->Bool} (A:LandAll W H xs K lb oc) (base M Wi:Int) (ds:List S85) (hds:ds.length<=1048576) (a b:Int) (l:List S117) (hl:l.length<=1048576) (h:List Bool) (hh:h.length<=1048576) (dst:Int) (s:Bool) :
  ∃ c,(c=true->EatOk a b l h)/\∀ k,K+ds.length+2 * l.length+3000003<k->X1a.f k W H xs base M Wi ds a b l h dst s=some c/\X18.f k W H xs base M Wi ds a b l h dst s=some c:=by
 obtain⟨b',o,he⟩:=eat_ev a b l h hl hh
 obtain⟨a1,a2⟩:=addDay_ev h s hh
 cases o with
 |false =>
  refine⟨false,fun e=>(by cases e),fun k hk=>?_⟩
  obtain⟨e1,e2⟩:=he k (by omega)
  unfold X1a.f X18.f X19.f X17.f
  simp only[e1,e2,a1,a2,Option.bind_some,Bool.false_eq_true,if_false,and_self]
 |true =>
  obtain⟨c,hc⟩:=canReturn_ev A base M Wi ds hds dst b' l hl (addDay h s)
  refine⟨c,fun _=>⟨b',he⟩,fun k hk=>?_⟩
  obtain⟨e1,e2⟩:=he k (by omega)
  unfold X1a.f X18.f X19.f X17.f
  simp only[e1,e2,a1,a2,Option.bind_some,if_true,(hc k (by omega)).1,(hc k (by omega)).2,and_self]
theorem mayWait_ev {W H:Int} {xs:List Int} {K:Nat} {lb:Bool} {oc:Int->Bool} (A:LandAll W H xs K lb oc) (base M Wi:Int) (ds:List S85) (hds:ds.length<=1048576) (a b:Int) (l:List S117) (hl:l.length<=1048576) (h:List Bool) (hh:h.length<=1048576) :
  ∃ c,(c=true->EatOk a b l h)/\∀ k,K+ds.length+2 * l.length+h.length+3000003<k->X1m.f k W H xs base M Wi ds a b l h=some c/\X1l.f k W H xs base M Wi ds a b l h=some c:=by
 obtain⟨c,hc⟩:=canReturn_ev A base M Wi ds hds a b l hl h
 obtain⟨s1,he1,hs1⟩:=safe_ev A base M Wi ds hds a b l hl h hh a false
 obtain⟨s2,_,hs2⟩:=safe_ev A base M Wi ds hds a b l hl h hh a true
 obtain⟨m,hm⟩:=mayStorm_ev M Wi h hh
 refine⟨c && (s1 && (!m || s2)),fun e=>he1 (by cases c <;> cases s1 <;> simp_all),fun k hk=>?_⟩
 unfold X1m.f X1l.f
 simp only[(hc k (by omega)).1,(hc k (by omega)).2,(hs1 k (by omega)).1,(hs1 k (by omega)).2,(hs2 k (by omega)).1,(hs2 k (by omega)).2,(hm k (by omega)).1,(hm k (by omega)).2,Option.bind_some]
 cases c <;> cases s1 <;> cases m <;> cases s2 <;> exact⟨rfl,rfl⟩
theorem waitStep_ev {W H:Int} {xs:List Int} {K:Nat} {lb:Bool} {oc:Int->Bool} (A:LandAll W H xs K lb oc) (base M Wi:Int) (ds:List S85) (hds:ds.length<=1048576) (a b:Int) (l:List S117) (hl:l.length<=1048576) (h:List Bool) (hh:h.length<=1048576) (s:Bool) :
  ∃ b' h' o,h'.length<=1048576/\∀ k,K+ds.length+2 * l.length+h.length+3000110<k->Xt.f k W H xs base M Wi ds a b l h s=some (a,b',l,h',o)/\XD.f k W H xs base M Wi ds a b l h s=some (a,b',l,h',o):=by
 obtain⟨c,he,hc⟩:=mayWait_ev A base M Wi ds hds a b l hl h hh
 obtain⟨c1,c2⟩:=copied_ev a b l h hl hh
 obtain⟨m,hm⟩:=mayStorm_ev M Wi h hh
 obtain⟨d1,d2⟩:=addDay_ev h s hh
 by_cases ok:c=true/\(s=true->m=true)
 ·obtain⟨rfl,hs⟩:=ok
  obtain⟨b',hb⟩:=he rfl
  refine⟨b',addDay h s,true,by have:=addDay_len h s;omega,fun k hk=>?_⟩
  obtain⟨k,rfl⟩:∃ j,k=j+1:=⟨k-1,by omega⟩
  unfold Xt.f XD.f
  rw[(hc (k+1) (by omega)).1,(hc (k+1) (by omega)).2]
  cases s with
  |false=>simp only[Option.bind_some,if_true,Bool.false_eq_true,if_false,Xt.j0,XD.j0,X19.f,X17.f,(hb k (by omega)).1,(hb k (by omega)).2,d1,d2,and_self]
  |true =>
   have hm1:=hs rfl
   subst hm1
   simp only[Option.bind_some,if_true,Bool.not_true,Bool.false_eq_true,if_false,(hm (k+1) (by omega)).1,(hm (k+1) (by omega)).2,Xt.j0,XD.j0,X19.f,X17.f,(hb k (by omega)).1,(hb k (by omega)).2,d1,d2,and_self]
 ·refine⟨b,h,false,hh,fun k hk=>?_⟩
  obtain⟨k,rfl⟩:∃ j,k=j+1:=⟨k-1,by omega⟩
  unfold Xt.f XD.f
  rw[(hc (k+1) (by omega)).1,(hc (k+1) (by omega)).2]
  cases c with
  |false=>simp only[Option.bind_some,Bool.false_eq_true,if_false,if_true,Xt.j0,XD.j0,c1,c2,and_self]
  |true =>
   cases s with
   |false=>exact absurd ⟨rfl,fun e=>by cases e⟩ ok
   |true =>
    cases m with
    |true=>exact absurd ⟨rfl,fun _=>rfl⟩ ok
    |false=>simp only[Option.bind_some,if_true,Bool.not_false,(hm (k+1) (by omega)).1,(hm (k+1) (by omega)).2,Xt.j0,XD.j0,c1,c2,and_self]
theorem FnExactWaitStep:X2.Stmt:=by
 intro y0 a1 y2 y3 y4 a5 h0 _ _ h3 h4 _
 obtain⟨z1,e1,c1⟩:=szCase y0.f0 y0.f1 y0.f2 y3 y4.f0 y4.f1 y4.f2 y4.f3 h0.2.2.1 h3.1 h4.2.2.1.1 h4.2.2.2.1
 by_cases n1:z1<0
 ·exact⟨0,by unfold X2.f;rw[e1];simp only[Option.bind_some];rw[if_pos n1]⟩
 obtain⟨z2,e2,c2⟩:=c1.resolve_left n1
 by_cases n2:z2<0
 ·exact⟨0,by unfold X2.f;rw[e1];simp only[Option.bind_some];rw[if_neg n1,e2];simp only[Option.bind_some];rw[if_pos n2]⟩
 obtain⟨z3,e3,c3⟩:=c2.resolve_left n2
 by_cases n3:z3<0
 ·exact⟨0,by unfold X2.f;rw[e1];simp only[Option.bind_some];rw[if_neg n1,e2];simp only[Option.bind_some];rw[if_neg n2,e3];simp only[Option.bind_some];rw[if_pos n3]⟩
 have hs:=c3.resolve_left n3
 have hl2:(y4.f2.map cMember).length=y4.f2.length:=by simp
 have hd2:(y3.map cDepot).length=y3.length:=by simp
 obtain⟨lb,oc,A⟩:=land_all y0.f0 y0.f1 y0.f2 (by omega)
 obtain⟨b',h',o,hh',hv⟩:=waitStep_ev A a1 y2.f0 y2.f1 (y3.map cDepot) (by omega) y4.f0 y4.f1 (y4.f2.map cMember) (by omega) y4.f3 (by omega) a5
 obtain⟨k,hk⟩:∃ k,k=y0.f2.length+4 * y3.length+2 * y4.f2.length+y4.f3.length+h'.length+9000000:=⟨_,rfl⟩
 obtain⟨v1,v2⟩:=hv (k+3) (by omega)
 obtain⟨v3,_⟩:=hv (k+1) (by omega)
 obtain⟨m1,hm1⟩:=markLand_ev y0.f0 y0.f1 y0.f2 (by omega) (k+2) (by omega)
 obtain⟨m2,hm2⟩:=markDepotS_ev (y3.map cDepot) (by omega) (1+y0.f2.length) (by omega) (by omega) (k+2) (by omega)
 obtain⟨m3,m4,hm3⟩:=markPartyC_ev y4.f0 y4.f1 (y4.f2.map cMember) y4.f3 (by omega) (by omega) (1+y0.f2.length+2 * (y3.map cDepot).length) (by omega) (by omega) (k+2) (by omega)
 obtain⟨l1,h1,hm4⟩:=markParty_ev y4.f0 b' (y4.f2.map cMember) h' (by omega) hh'
 obtain⟨p1,p2⟩:=hm4 (k+1) (by omega)
 obtain⟨_,p3⟩:=hm4 k (by omega)
 have hneg:¬ (1+(y0.f2.length:Int)+2 * ((y3.map cDepot).length:Int)+4 * ((y4.f2.map cMember).length:Int)+(y4.f3.length:Int)<0):=by omega
 have hneg2:¬ (1+4 * ((y4.f2.map cMember).length:Int)+(h'.length:Int)<0):=by omega
 refine⟨k+3,?_⟩
 unfold X2.f XY.f
 rw[e1];simp only[Option.bind_some];rw[if_neg n1,e2];simp only[Option.bind_some];rw[if_neg n2,e3];simp only[Option.bind_some];rw[if_neg n3]
 simp only[toLand_ev y0.f0 y0.f1 y0.f2 (by omega) (k+3) (by omega),toDepotS_ev y3 (by omega) (k+3) (by omega),toParty_ev y4.f0 y4.f1 y4.f2 y4.f3 (by omega) (by omega) (k+3) (by omega),Option.bind_some,v1,v2,eqParty_ev y4.f0 b' (y4.f2.map cMember) h' (by omega) hh' (k+3) (by omega),if_true,bne_self_eq_false]
 simp only[X2.j0,Bool.false_eq_true,if_false,toLand_ev y0.f0 y0.f1 y0.f2 (by omega) (k+2) (by omega),toDepotS_ev y3 (by omega) (k+2) (by omega),toParty_ev y4.f0 y4.f1 y4.f2 y4.f3 (by omega) (by omega) (k+2) (by omega),Option.bind_some,eqLand_ev y0.f0 y0.f1 y0.f2 (by omega) (k+2) (by omega),eqDepotS_ev (y3.map cDepot) (by omega) (k+2) (by omega),eqParty_ev y4.f0 y4.f1 (y4.f2.map cMember) y4.f3 (by omega) (by omega) (k+2) (by omega),eqParty_ev y4.f0 b' (y4.f2.map cMember) h' (by omega) hh' (k+2) (by omega),if_true,hm1,hm2,hm3,if_neg hneg,bne_self_eq_false]
 simp only[X2.j1,Bool.false_eq_true,if_false,p1,p2,Option.bind_some,if_neg hneg2,if_true,toLand_ev y0.f0 y0.f1 y0.f2 (by omega) (k+1) (by omega),toDepotS_ev y3 (by omega) (k+1) (by omega),toParty_ev y4.f0 y4.f1 y4.f2 y4.f3 (by omega) (by omega) (k+1) (by omega),XY.f,v3,eqParty_ev y4.f0 b' (y4.f2.map cMember) h' (by omega) hh' (k+1) (by omega),bne_self_eq_false]
 simp only[X2.j2,Bool.false_eq_true,if_false,p3,Option.bind_some,if_neg hneg2,if_true]

end Go.Proofs.Yteiepphhkikmoaa.Pure
