/- Whoever can return can do so after every day on the way home, whatever the weather is that the rule allows, eats a day's food of what is carried and lies in the depots and nothing else, and so comes home; whoever carries the food for the worst days can return: the law FnReturns holds for every code (a code of more than 2^20 bytes the law lets pass). No further condition. -/
import Derived.Test.YtdnbfegkplpngaaSFnReturns
namespace Go.Proofs.Ytdnbfegkplpngaa.Pure
open Go.RowKit Go.Proofs.Ytdnbfegkplpngaa.Q Go.Proofs.YtdnbfegkplpngaaW.PrintWords Go.Proofs.YtdnbfegkplpngaaW.PrintLast Go.Proofs.YtdnbfegkplpngaaW.PrintMore
set_option linter.unusedVariables false
set_option linter.unusedSimpArgs false
theorem Yw {p:Prop} (h:p:=by unfold wrap64;omega):p:=h
theorem Yk (k:Nat) (h:0<k:=by omega):∃ m,k=m+1:=⟨k-1,by omega⟩
theorem Om {p:Prop} (h:p:=by omega):p:=h
theorem Ob {α β:Type} (a:α) (f:α→Option β):(some a).bind f=f a:=rfl
def shf (y:List S73) (k:Nat):List S73:=y.take (k+1)++(y.drop k).take (y.length-(k+1))
def spec_AreCrew.l0:Nat->List (S76)->Int->Option (Bool)
 |0,_,_=>none
 |k+1,x0,x3=>if x3<(x0.length:Int) then(if 0<=x3 then((spec_l1In.f ((rd_T76 x0 x3).f0) 1 99).bind fun a=>(if a=true then((spec_l1In.f ((rd_T76 x0 x3).f1) 0 100).bind fun b=>(if b=true then((spec_l1In.f ((rd_T76 x0 x3).f2) 1 10).bind fun c=>(if c=true then(if x3>0 then(if 0<=(wrap64 (x3-1)) then(if (wrap64 (x3-1))<(x0.length:Int) then(if ((rd_T76 x0 (wrap64 (x3-1))).f0)>=((rd_T76 x0 x3).f0) then(some false) else(spec_AreCrew.l0 k x0 (wrap64 (x3+1)))) else(none)) else(none)) else(spec_AreCrew.l0 k x0 (wrap64 (x3+1)))) else(some false))) else(some false))) else(some false))) else(none)) else((spec_l1In.f (x0.length:Int) 1 8).bind fun d=>(some d))
def spec_AreCrew.f (k:Nat) (l0:List (S76)):Option (Bool):=spec_AreCrew.l0 k l0 0
def spec_NeedOf.l0:Nat->List (S76)->Int->Int->Option (Int)
 |0,_,_,_=>none
 |k+1,x0,x3,x4=>if x4<(x0.length:Int) then((spec_AreCrew.f k x0).bind fun a=>(if a=true then(if 0<=x4 then(spec_NeedOf.l0 k x0 (wrap64 (x3+((rd_T76 x0 x4).f2))) (wrap64 (x4+1))) else(none)) else(some x3))) else(some x3)
def spec_NeedOf.f (k:Nat) (l0:List (S76)):Option (Int):=spec_NeedOf.l0 k l0 0 0
def spec_l9Copy.f (a0_0:Int) (a0_1:Int) (l0_2:List (S76)) (l0_3:List Bool):Option (Int × Int × (List (S76)) × List Bool):=(some (([]:List (S76)):List (S76))).bind fun a=>(if a.length+l0_2.length<4398046511104 then((some (([]:List Bool):List Bool)).bind fun b=>(if b.length+l0_3.length<140737488355328 then(some (a0_0,a0_1,(a++l0_2),(b++l0_3))) else(none))) else(none))
def spec_AddDay.f (l0:List Bool) (a1:Bool):Option (List Bool):=(some (([]:List Bool):List Bool)).bind fun c=>(if c.length+l0.length<140737488355328 then((some (c++l0:List Bool)).bind fun d=>(if d.length<140737488355328 then((some (d++[a1]:List Bool)).bind fun a=>((spec_Max.f 0 (wrap64 ((a.length:Int)-10))).bind fun b=>(if 0<=b then(if b<=(a.length:Int) then(some (a.drop (b:Int).toNat)) else(none)) else(none)))) else(none))) else(none))
def spec_IsParty.f (k:Nat) (a0_0:Int) (a0_1:Int) (l0_2:List Int) (a1_0:Int) (a1_1:Int) (l1_2:List (S76)) (l1_3:List Bool):Option (Bool):=(spec_IsOpen.f k a0_0 a0_1 l0_2 a1_0).bind fun a=>(if a=true then((spec_AreCrew.f k l1_2).bind fun b=>(if b=true then((spec_l1In.f a1_1 0 10000).bind fun c=>(if c=true then(some (decide ((l1_3.length:Int)<=10))) else(some false))) else(some false))) else(some false))
mutual
def spec_CapOf.l0:Nat->List (S76)->Int->Int->Option (Int)
 |0,_,_,_=>none
 |k+1,x0,x3,x4=>if x4<(x0.length:Int) then((spec_AreCrew.f k x0).bind fun a=>(spec_CapOf.j1 k x0 x3 x4 a)) else(spec_CapOf.j1 k x0 x3 x4 false)
def spec_CapOf.j1:Nat->List (S76)->Int->Int->Bool->Option (Int)
 |0,_,_,_,_=>none
 |k+1,x0,x3,x4,b=>if b=true then(if 0<=x4 then(if x4<(x0.length:Int) then(if ((rd_T76 x0 x4).f3=true) then(spec_CapOf.l0 k x0 x3 (wrap64 (x4+1))) else(spec_CapOf.l0 k x0 (wrap64 (x3+((rd_T76 x0 x4).f1))) (wrap64 (x4+1)))) else(none)) else(none)) else(some x3)
end
def spec_CapOf.f (k:Nat) (l0:List (S76)):Option (Int):=spec_CapOf.l0 k l0 0 0
def spec_Days.f (k:Nat) (a0_0:Int) (a0_1:Int) (l0_2:List Int) (a1:Int) (a2:Int):Option (Int):=(spec_IsOpen.f k a0_0 a0_1 l0_2 a1).bind fun b=>(if b=true then((spec_IsOpen.f k a0_0 a0_1 l0_2 a2).bind fun c=>(if c=true then((spec_l5From.f k a0_0 a0_1 l0_2 a1).bind fun a=>(if 0<=a2 then(if a2<(a.length:Int) then(some (rd a a2)) else(none)) else(none))) else(some (-1)))) else(some (-1)))
mutual
def spec_WayTo.l0:Nat->Int->Int->List Int->List Int->Int->Int->List Int->Option (List Int)
 |0,_,_,_,_,_,_,_=>none
 |k+1,x1,x2,x7,x8,b,c,d=>if x1=x2 then(some x7) else((spec_l4Near.f k b c d x1).bind fun e=>(spec_WayTo.l1 k x1 x2 x7 x8 e (wrap64 ((e.length:Int)-1)) b c d))
def spec_WayTo.l1:Nat->Int->Int->List Int->List Int->List Int->Int->Int->Int->List Int->Option (List Int)
 |0,_,_,_,_,_,_,_,_,_=>none
 |k+1,x1,x2,x7,x8,x9,a,b,c,d=>if a>=0 then(if 0<=a then(if a<(x9.length:Int) then(if 0<=(rd x9 a) then(if (rd x9 a)<(x8.length:Int) then(if 0<=(wrap64 ((x7.length:Int)-1)) then(if (wrap64 ((x7.length:Int)-1))<(x7.length:Int) then(if 0<=(rd x7 (wrap64 ((x7.length:Int)-1))) then(if (rd x7 (wrap64 ((x7.length:Int)-1)))<(x8.length:Int) then(if (rd x8 (rd x9 a))=(wrap64 ((rd x8 (rd x7 (wrap64 ((x7.length:Int)-1))))-1)) then(spec_WayTo.l1 k (rd x9 a) x2 x7 x8 x9 (wrap64 (a-1)) b c d) else(spec_WayTo.l1 k x1 x2 x7 x8 x9 (wrap64 (a-1)) b c d)) else(none)) else(none)) else(none)) else(none)) else(none)) else(none)) else(none)) else(none)) else(if x7.length<17592186044416 then(spec_WayTo.l0 k x1 x2 (x7++[x1]) x8 b c d) else(none))
end
def spec_WayTo.f (k:Nat) (a0_0:Int) (a0_1:Int) (l0_2:List Int) (a1:Int) (a2:Int):Option (List Int):=(some (([]:List Int):List Int)).bind fun a=>((spec_Days.f k a0_0 a0_1 l0_2 a1 a2).bind fun b=>(if b<0 then(some a) else((spec_l5From.f k a0_0 a0_1 l0_2 a2).bind fun c=>(if a.length<17592186044416 then(spec_WayTo.l0 k a1 a2 (a++[a1]) c a0_0 a0_1 l0_2) else(none)))))
mutual
def impl_Lay.j0:Nat->List (S73)->Int->Int->Bool->Int->Int->List Int->Option ((List (S73)) × Bool)
 |0,_,_,_,_,_,_,_=>none
 |k+1,x1,x2,x3,h,c,d,e=>if h=true then((impl_copyDepots.f x1).bind fun i=>(some (i,false))) else((impl_copyDepots.f x1).bind fun j=>(impl_Lay.l0 k x1 x2 x3 j 0 c d e))
def impl_Lay.j2:Nat->List (S73)->Int->Int->List (S73)->Int->Int->Int->List Int->Option ((List (S73)) × Bool)
 |0,_,_,_,_,_,_,_,_=>none
 |k+1,x1,x2,x3,b,a,c,d,e=>if a<(b.length:Int) then(if 0<=a then(impl_Lay.j3 k x1 x2 x3 b a (((rd_T73 b a).f0)==x2) c d e) else(none)) else(impl_Lay.j3 k x1 x2 x3 b a false c d e)
def impl_Lay.j3:Nat->List (S73)->Int->Int->List (S73)->Int->Bool->Int->Int->List Int->Option ((List (S73)) × Bool)
 |0,_,_,_,_,_,_,_,_,_=>none
 |k+1,x1,x2,x3,b,a,l,c,d,e=>if l=true then(if 0<=a then(if a<(b.length:Int) then(impl_Lay.j4 k x1 (b.set (a:Int).toNat (⟨(rd_T73 b a).f0,wrap64 (((rd_T73 b a).f1)+x3)⟩:S73)) c d e) else(none)) else(none)) else(if b.length<8796093022208 then((some (b++[(⟨0,0⟩:S73)]:List (S73))).bind fun g=>(if 0<=a then(if a<(g.length:Int) then(impl_Lay.j4 k x1 ((shf g (a:Int).toNat).set (a:Int).toNat (⟨x2,x3⟩:S73)) c d e) else(none)) else(none))) else(none))
def impl_Lay.j4:Nat->List (S73)->List (S73)->Int->Int->List Int->Option ((List (S73)) × Bool)
 |0,_,_,_,_,_=>none
 |k+1,x1,b,c,d,e=>(impl_AreDepots.f k c d e b).bind fun m=>(if m=true then(some (b,true)) else((impl_copyDepots.f x1).bind fun n=>(some (n,false))))
def impl_Lay.l0:Nat->List (S73)->Int->Int->List (S73)->Int->Int->Int->List Int->Option ((List (S73)) × Bool)
 |0,_,_,_,_,_,_,_,_=>none
 |k+1,x1,x2,x3,b,a,c,d,e=>if a<(b.length:Int) then(if 0<=a then(if ((rd_T73 b a).f0)<x2 then(impl_Lay.l0 k x1 x2 x3 b (wrap64 (a+1)) c d e) else(impl_Lay.j2 k x1 x2 x3 b a c d e)) else(none)) else(impl_Lay.j2 k x1 x2 x3 b a c d e)
end
def impl_Lay.f (k:Nat) (a0_0:Int) (a0_1:Int) (l0_2:List Int) (l1:List (S73)) (a2:Int) (a3:Int):Option ((List (S73)) × Bool):=(impl_InRange.f a3 1 10000).bind fun a=>(if a=true then((impl_AreDepots.f k a0_0 a0_1 l0_2 l1).bind fun b=>(impl_Lay.j0 k l1 a2 a3 (!b) a0_0 a0_1 l0_2)) else(impl_Lay.j0 k l1 a2 a3 true a0_0 a0_1 l0_2))
theorem Zp {i:Int} {n:Nat} (h0:0<=i) (h:i<(n:Int)) (hn:n<=1048576):wrap64 (i+1)=i+1:=by
 unfold wrap64;omega
theorem ZB {α:Type} (d:α) (l:List α) (i:Int) (h0:0<=i) (h:i<(l.length:Int)):l.drop i.toNat=l.getD i.toNat d :: l.drop (i+1).toNat:=by
 have h1:i.toNat<l.length:=by omega
 rw[List.drop_eq_getElem_cons h1,show (i+1).toNat=i.toNat+1 by omega]
 congr 1
 simp[List.getD_eq_getElem?_getD,List.getElem?_eq_getElem h1]
theorem Zj (a b c:Int):spec_l1In.f a b c=some (decide (b<=a/\a<=c)):=by
 unfold spec_l1In.f
 by_cases h:a>=b
 ·rw[if_pos h];congr 1;have:b<=a:=h;simp[this]
 ·rw[if_neg h];have:¬ b<=a:=h;simp[this]
theorem Zd (a b c:Int):impl_InRange.f a b c=some (decide (b<=a/\a<=c)):=by
 unfold impl_InRange.f
 by_cases h:b<=a
 ·rw[if_pos h];simp[h]
 ·rw[if_neg h];simp[h]
def ZL (m:S76):Prop:=1<=m.f0/\m.f0<=99/\0<=m.f1/\m.f1<=100/\1<=m.f2/\m.f2<=10
theorem ZTa (xs:List S76) (hn:xs.length<=1048576):∀ (d:Nat) (i:Int),0<=i->(xs.length:Int)-i=d ->
  ∃ b,(∀ k,d<k->impl_AreCrew.l0 k xs xs (xs.length:Int) i=some b/\spec_AreCrew.l0 k xs i=some b)/\(b=true->(1<=xs.length/\xs.length<=8)/\∀ j:Int,i<=j->j<(xs.length:Int)->ZL (rd_T76 xs j)):=by
 intro d
 induction d with
 |zero =>
  intro i h0 hd
  have hlt:¬ i<(xs.length:Int):=by omega
  refine⟨decide (1<=(xs.length:Int)/\(xs.length:Int)<=8),fun k hk=>?_,fun hb=>?_⟩
  ·obtain⟨k,rfl⟩:=Yk k
   simp only[impl_AreCrew.l0,spec_AreCrew.l0,if_neg hlt,Zj,Zd,Ob,and_self]
  ·have:=of_decide_eq_true hb
   exact⟨by omega,fun j h1 h2=>by omega⟩
 |succ d ih =>
  intro i h0 hd
  have hlt:i<(xs.length:Int):=by omega
  obtain⟨b,hb,hp⟩:=ih (i+1) Om Om
  have hw:wrap64 (i-1)=i-1:=Yw
  by_cases ok:(1<=(rd_T76 xs i).f0/\(rd_T76 xs i).f0<=99/\0<=(rd_T76 xs i).f1/\(rd_T76 xs i).f1<=100/\1<=(rd_T76 xs i).f2/\(rd_T76 xs i).f2<=10)/\(i>0->(rd_T76 xs (i-1)).f0<(rd_T76 xs i).f0)
  ·refine⟨b,fun k hk=>?_,fun e=>⟨(hp e).1,fun j h1 h2=>?_⟩⟩
   ·obtain⟨k,rfl⟩:=Yk k
    obtain⟨b1,b2⟩:=hb k Om
    have e1:1<=(rd_T76 xs i).f0/\(rd_T76 xs i).f0<=99:=⟨ok.1.1,ok.1.2.1⟩
    have e2:0<=(rd_T76 xs i).f1/\(rd_T76 xs i).f1<=100:=⟨ok.1.2.2.1,ok.1.2.2.2.1⟩
    have e3:1<=(rd_T76 xs i).f2/\(rd_T76 xs i).f2<=10:=ok.1.2.2.2.2
    simp only[impl_AreCrew.l0,spec_AreCrew.l0,if_pos hlt,if_pos h0,Zj,Zd,Ob,decide_eq_true_eq,if_pos e1,if_pos e2,if_pos e3,hw,Zp (n:=xs.length) h0 hlt hn]
    by_cases hi:i>0
    ·have h1:0<=i-1:=by omega
     have h2:i-1<(xs.length:Int):=by omega
     have h3:=ok.2 hi
     have h4:¬ (rd_T76 xs i).f0<=(rd_T76 xs (i-1)).f0:=by omega
     have h5:¬ (rd_T76 xs (i-1)).f0>=(rd_T76 xs i).f0:=by omega
     simp only[if_pos hi,if_pos h1,if_pos h2,if_neg h4,if_neg h5]
     exact⟨b1,b2⟩
    ·simp only[if_neg hi]
     exact⟨b1,b2⟩
   ·by_cases e2:j=i
    ·subst e2;exact ok.1
    ·exact(hp e).2 j Om h2
  ·refine⟨false,fun k hk=>?_,fun e=>by cases e⟩
   obtain⟨k,rfl⟩:=Yk k
   simp only[impl_AreCrew.l0,spec_AreCrew.l0,if_pos hlt,if_pos h0,Zj,Zd,Ob,decide_eq_true_eq,hw]
   constructor
   ·repeat' split
    all_goals first|rfl|(exfalso;omega)
   ·repeat' split
    all_goals first|rfl|(exfalso;omega)
theorem Z1 (xs:List S76) (hn:xs.length<=1048576):∃ b,(∀ k,xs.length<k->impl_AreCrew.f k xs=some b/\spec_AreCrew.f k xs=some b)/\(b=true->(1<=xs.length/\xs.length<=8)/\∀ j:Int,0<=j->j<(xs.length:Int)->ZL (rd_T76 xs j)):=by
 obtain⟨b,h,hp⟩:=ZTa xs hn xs.length 0 Om Om
 exact⟨b,h,hp⟩
theorem Zza (W H:Int) (xs:List Int) (hn:xs.length<=1048576):∀ (d:Nat) (i:Int),0<=i->(xs.length:Int)-i=d ->
  ∃ b,(∀ k,d<k->impl_allIn.l0 k 0 2 xs (xs.length:Int) i=some b/\spec_IsLand.l0 k i W H xs=some b)/\(b=true->∀ j:Int,i<=j->j<(xs.length:Int)->0<=rd xs j/\rd xs j<=2):=by
 intro d
 induction d with
 |zero =>
  intro i h0 hd
  have hlt:¬ i<(xs.length:Int):=by omega
  refine⟨true,fun k hk=>?_,fun _ j h1 h2=>by omega⟩
  obtain⟨k,rfl⟩:=Yk k
  simp only[impl_allIn.l0,spec_IsLand.l0,if_neg hlt,and_self]
 |succ d ih =>
  intro i h0 hd
  have hlt:i<(xs.length:Int):=by omega
  obtain⟨b,hb,hp⟩:=ih (i+1) Om Om
  by_cases e:0<=rd xs i/\rd xs i<=2
  ·refine⟨b,fun k hk=>?_,fun h j h1 h2=>?_⟩
   ·obtain⟨k,rfl⟩:=Yk k
    simp only[impl_allIn.l0,spec_IsLand.l0,if_pos hlt,if_pos h0,Zj,Zd,e,and_self,decide_true,Ob,if_true,Zp (n:=xs.length) h0 hlt hn]
    exact hb k Om
   ·by_cases h3:j=i
    ·subst h3;exact e
    ·exact hp h j Om h2
  ·refine⟨false,fun k hk=>?_,fun h=>by cases h⟩
   obtain⟨k,rfl⟩:=Yk k
   simp only[impl_allIn.l0,spec_IsLand.l0,if_pos hlt,if_pos h0,Zj,Zd,e,decide_false,Ob,Bool.false_eq_true,if_false,and_self]
theorem Zzb (W H:Int) (xs:List Int) (hn:xs.length<=1048576):∃ b,(∀ k,xs.length+1<k->impl_IsLand.f k W H xs=some b/\spec_IsLand.f k W H xs=some b) /\
  (b=true->(1<=W/\W<=8)/\(1<=H/\H<=8)/\(xs.length:Int)=W * H/\1<=xs.length/\xs.length<=64/\∀ j:Int,0<=j->j<(xs.length:Int)->0<=rd xs j/\rd xs j<=2):=by
 by_cases hW:1<=W/\W<=8
 ·by_cases hH:1<=H/\H<=8
  ·have h1:W * H<=8 * 8:=Int.mul_le_mul hW.2 hH.2 Om Om
   have h2:1 * 1<=W * H:=Int.mul_le_mul hW.1 hH.1 Om Om
   have hw:wrap64 (W * H)=W * H:=Yw
   by_cases hl:(xs.length:Int)=W * H
   ·obtain⟨b,hb,hp⟩:=Zza W H xs hn xs.length 0 Om Om
    refine⟨b,fun k hk=>?_,fun e=>⟨hW,hH,hl,by omega,by omega,hp e⟩⟩
    obtain⟨k,rfl⟩:=Yk k
    have e:((xs.length:Int) != W * H)=false:=by simp[hl]
    have b1:=(hb (k+1) Om).1
    have b2:=(hb k Om).2
    unfold impl_IsLand.f spec_IsLand.f
    simp only[Zj,Zd,hW,hH,and_self,decide_true,Ob,if_true,hw,if_pos hl,e,spec_IsLand.j0,Bool.false_eq_true,if_false,impl_allIn.f,b1,b2]
   ·refine⟨false,fun k hk=>?_,fun e=>by cases e⟩
    obtain⟨k,rfl⟩:=Yk k
    have e:((xs.length:Int) != W * H)=true:=by simp[hl]
    unfold impl_IsLand.f spec_IsLand.f
    simp only[Zj,Zd,hW,hH,and_self,decide_true,Ob,if_true,hw,if_neg hl,e,spec_IsLand.j0]
  ·refine⟨false,fun k hk=>?_,fun e=>by cases e⟩
   obtain⟨k,rfl⟩:=Yk k
   unfold impl_IsLand.f spec_IsLand.f
   simp only[Zj,Zd,hW,hH,and_self,decide_true,decide_false,Ob,if_true,Bool.false_eq_true,if_false,spec_IsLand.j0]
 ·refine⟨false,fun k hk=>?_,fun e=>by cases e⟩
  obtain⟨k,rfl⟩:=Yk k
  unfold impl_IsLand.f spec_IsLand.f
  simp only[Zj,Zd,hW,decide_false,Ob,if_true,Bool.false_eq_true,if_false,spec_IsLand.j0,and_self]
def fsM:List S76->Int
 |[]=>0
 |m :: ms=>m.f2+fsM ms
theorem ZHa:∀ l:List S76,(∀ m∈l,ZL m)->(l.length:Int)<=fsM l/\fsM l<=10 * (l.length:Int)
 |[],_=>by simp[fsM]
 |m :: ms,h=>by
  have h1:=ZHa ms (fun x hx=>h x (List.mem_cons_of_mem _ hx))
  have h2:=h m (List.mem_cons_self)
  unfold ZL at h2
  simp only[fsM,List.length_cons]
  omega
theorem Z4b {xs:List S76} (h:∀ j:Int,0<=j->j<(xs.length:Int)->ZL (rd_T76 xs j)):∀ m∈xs,ZL m:=by
 intro m hm
 obtain⟨j,hj,rfl⟩:=List.mem_iff_getElem.mp hm
 have:=h (j:Int) Om Om
 unfold rd_T76 at this
 simpa [List.getD_eq_getElem?_getD,List.getElem?_eq_getElem hj] using this
theorem Z8a (xs:List S76) (hn:xs.length<=8) (hfit:∀ m∈xs,ZL m) (hc:∀ k,xs.length<k->spec_AreCrew.f k xs=some true):∀ (d:Nat) (i a:Int),0<=i->(xs.length:Int)-i=d->0<=a->a<=1000-10 * d ->
  ∀ k,xs.length+d+2<k->impl_NeedOf.l0 k a xs (xs.length:Int) i=some (a+fsM (xs.drop i.toNat))/\spec_NeedOf.l0 k xs a i=some (a+fsM (xs.drop i.toNat)):=by
 intro d
 induction d with
 |zero =>
  intro i a h0 hd _ _ k hk
  obtain⟨k,rfl⟩:=Yk k
  have hlt:¬ i<(xs.length:Int):=by omega
  simp only[impl_NeedOf.l0,spec_NeedOf.l0,if_neg hlt,List.drop_eq_nil_of_le (show xs.length<=i.toNat by omega),fsM,Int.add_zero,and_self]
 |succ d ih =>
  intro i a h0 hd ha hb k hk
  obtain⟨k,rfl⟩:=Yk k
  have hlt:i<(xs.length:Int):=by omega
  have hm:ZL (rd_T76 xs i):=hfit _ (by
   unfold rd_T76
   have h1:i.toNat<xs.length:=by omega
   simp[List.getD_eq_getElem?_getD,List.getElem?_eq_getElem h1])
  unfold ZL at hm
  have hw:wrap64 (a+(rd_T76 xs i).f2)=a+(rd_T76 xs i).f2:=Yw
  obtain⟨h1,h2⟩:=ih (i+1) (a+(rd_T76 xs i).f2) Om Om Om Om k Om
  rw[ZB z76 xs i h0 hlt,show xs.getD i.toNat z76=rd_T76 xs i from rfl]
  simp only[impl_NeedOf.l0,spec_NeedOf.l0,if_pos hlt,if_pos h0,hc k Om,Ob,if_true,hw,Zp (n:=xs.length) h0 hlt Om,fsM,h1,h2,Int.add_assoc,and_self]
theorem ZJa (xs:List S76) (hn:xs.length<=1048576):∃ b c,(∀ k,xs.length<k->impl_AreCrew.f k xs=some b/\spec_AreCrew.f k xs=some b) /\
  (b=true->c=fsM xs/\1<=xs.length/\xs.length<=8/\(∀ m∈xs,ZL m)/\1<=c/\c<=80)/\(b=false->c=0) /\
  ∀ k,2 * xs.length+3<k->impl_NeedOf.f k xs=some c/\spec_NeedOf.f k xs=some c:=by
 obtain⟨b,hb,hp⟩:=Z1 xs hn
 cases b with
 |true =>
  obtain⟨⟨h1,h8⟩,hf⟩:=hp rfl
  have hm:=Z4b hf
  have hbd:=ZHa xs hm
  refine⟨true,fsM xs,hb,fun _=>⟨rfl,h1,h8,hm,by omega,by omega⟩,(fun e=>by cases e),fun k hk=>?_⟩
  obtain⟨h3,h4⟩:=Z8a xs h8 hm (fun k hk=>(hb k hk).2) xs.length 0 0 Om Om Om Om k Om
  rw[Int.toNat_zero,List.drop_zero,Int.zero_add] at h3 h4
  unfold impl_NeedOf.f spec_NeedOf.f
  simp only[(hb k Om).1,Ob,if_true]
  exact⟨h3,h4⟩
 |false =>
  refine⟨false,0,hb,fun e=>(by cases e),fun _=>rfl,fun k hk=>?_⟩
  obtain⟨k,rfl⟩:=Yk k
  unfold impl_NeedOf.f spec_NeedOf.f
  simp only[(hb (k+1) Om).1,Ob,Bool.false_eq_true,if_false,spec_NeedOf.l0,(hb k Om).2,ite_self,and_self]
theorem Z5a (xs:List S76) (hn:xs.length<=1048576) (h8:xs.length<=8) (hf:∀ j:Int,0<=j->j<(xs.length:Int)->ZL (rd_T76 xs j)) (hc:∀ k,xs.length<k->spec_AreCrew.f k xs=some true):∀ (d:Nat) (i a:Int),0<=i->(xs.length:Int)-i=d->0<=a->a<=100 * i ->
  ∃ c,(0<=c/\c<=800)/\∀ k,xs.length+2 * d+2<k->impl_CapOf.l0 k a xs (xs.length:Int) i=some c/\spec_CapOf.l0 k xs a i=some c:=by
 intro d
 induction d with
 |zero =>
  intro i a h0 hd ha ha2
  have hlt:¬ i<(xs.length:Int):=by omega
  refine⟨a,⟨ha,by omega⟩,fun k hk=>?_⟩
  obtain⟨k,rfl⟩:∃ m,k=m+2:=⟨k-2,by omega⟩
  simp only[impl_CapOf.l0,spec_CapOf.l0,spec_CapOf.j1,if_neg hlt,Bool.false_eq_true,if_false,and_self]
 |succ d ih =>
  intro i a h0 hd ha ha2
  have hm:=hf i h0 Om
  unfold ZL at hm
  have hwa:wrap64 (a+(rd_T76 xs i).f1)=a+(rd_T76 xs i).f1:=Yw
  have hlt:i<(xs.length:Int):=by omega
  by_cases hf:(rd_T76 xs i).f3=true
  ·obtain⟨c,hcb,hk2⟩:=ih (i+1) a Om Om ha Om
   refine⟨c,hcb,fun k hk=>?_⟩
   obtain⟨k,rfl⟩:∃ m,k=m+2:=⟨k-2,by omega⟩
   have h1:=(hk2 (k+1) Om).1
   have h2:=(hk2 k Om).2
   simp only[impl_CapOf.l0,spec_CapOf.l0,spec_CapOf.j1,if_pos hlt,if_pos h0,if_pos hf,hc (k+1) Om,Ob,if_true,Zp (n:=xs.length) h0 hlt hn] at h1 h2 ⊢
   exact⟨h1,h2⟩
  ·obtain⟨c,hcb,hk2⟩:=ih (i+1) (wrap64 (a+(rd_T76 xs i).f1)) Om Om Om Om
   refine⟨c,hcb,fun k hk=>?_⟩
   obtain⟨k,rfl⟩:∃ m,k=m+2:=⟨k-2,by omega⟩
   have h1:=(hk2 (k+1) Om).1
   have h2:=(hk2 k Om).2
   constructor
   ·rw[impl_CapOf.l0]
    simp only[if_pos hlt,if_pos h0,if_neg hf,Zp (n:=xs.length) h0 hlt hn]
    exact h1
   ·rw[spec_CapOf.l0]
    simp only[spec_CapOf.j1,if_pos hlt,if_pos h0,if_neg hf,hc (k+1) Om,Ob,if_true,Zp (n:=xs.length) h0 hlt hn]
    exact h2
theorem Ztb (xs:List S76) (hn:xs.length<=1048576):∃ c,(0<=c/\c<=800)/\∀ k,3 * xs.length+3<k->impl_CapOf.f k xs=some c/\spec_CapOf.f k xs=some c:=by
 obtain⟨b,hb,hp⟩:=Z1 xs hn
 cases b with
 |true =>
  obtain⟨⟨h1,h8⟩,hf⟩:=hp rfl
  obtain⟨c,hcb,hc⟩:=Z5a xs hn h8 hf (fun k hk=>(hb k hk).2) xs.length 0 0 Om Om Om Om
  refine⟨c,hcb,fun k hk=>?_⟩
  unfold impl_CapOf.f spec_CapOf.f
  simp only[(hb k Om).1,Ob,if_true]
  exact hc k Om
 |false =>
  refine⟨0,by omega,fun k hk=>?_⟩
  obtain⟨k,rfl⟩:∃ m,k=m+2:=⟨k-2,by omega⟩
  unfold impl_CapOf.f spec_CapOf.f
  simp only[(hb (k+2) Om).1,Ob,Bool.false_eq_true,if_false,spec_CapOf.l0,(hb (k+1) Om).2,spec_CapOf.j1,ite_self,and_self]
theorem ZJ (a b:Int) (l:List S76) (h:List Bool) (hl:l.length<=1048576) (hh:h.length<=1048576):impl_Party_copied.f a b l h=some (a,b,l,h)/\spec_l9Copy.f a b l h=some (a,b,l,h):=by
 have e1:([]:List S76).length+l.length<4398046511104:=by simp;omega
 have e2:([]:List Bool).length+h.length<140737488355328:=by simp;omega
 unfold impl_Party_copied.f spec_l9Copy.f impl_copyCrew.f
 simp only[Ob,if_pos e1,if_pos e2,List.nil_append,and_self]
def Zn:List Int->Nat
 |[]=>0
 |v :: vs=>(if v<0 then 1 else 0)+Zn vs
theorem ZG:∀ (l:List Int) (i:Nat) (v:Int),i<l.length->l.getD i 0<0->0<=v->Zn (l.set i v)+1=Zn l
 |x :: xs,0,v,_,h,hv=>by
  simp only[List.getD_cons_zero] at h
  simp only[List.set_cons_zero,Zn,if_pos h]
  rw[if_neg Om];omega
 |x :: xs,i+1,v,hi,h,hv=>by
  have:=ZG xs i v (by simpa using hi) (by simpa using h) hv
  simp only[List.set_cons_succ,Zn];omega
def Zf (d q:List Int) (own:Int):List Int->List Int × List Int
 |[]=>(d,q)
 |b :: bs=>if rd d b<0 then Zf (d.set b.toNat (rd d own+1)) (q++[b]) own bs else Zf d q own bs
def bfs (adj:Int->List Int):Nat->List Int->List Int->List Int
 |0,d,_=>d
 |_+1,d,[]=>d
 |f+1,d,own :: rest=>bfs adj f (Zf d rest own (adj own)).1 (Zf d rest own (adj own)).2
theorem ZF (l:List Int) (x j v:Int) (hx:0<=x) (hx2:x<(l.length:Int)) (hj:0<=j):rd (l.set x.toNat v) j=if j=x then v else rd l j:=by
 unfold rd
 rw[List.getD_eq_getElem?_getD,List.getD_eq_getElem?_getD,List.getElem?_set]
 by_cases e:j=x
 ·subst e
  have h:j.toNat<l.length:=by omega
  simp[h]
 ·rw[if_neg (show ¬ x.toNat=j.toNat by omega),if_neg e]
structure Visited (d q:List Int) (own:Int) (bs:List Int) (d' q':List Int):Prop where
 len:d'.length=d.length
 old:∀ v,0<=v->0<=rd d v->rd d' v=rd d v
 new:∀ v,0<=v->rd d v<0->rd d' v=rd d v\/(v∈bs/\rd d' v=rd d own+1)
 seen:∀ b∈bs,0<=rd d' b
 que:∃ ns,q'=q++ns/\ns.length+Zn d'=Zn d/\(∀ x∈ns,x∈bs/\rd d' x=rd d own+1)/\∀ v,0<=v->rd d v<0->0<=rd d' v->v∈ns
theorem ZO (n:Nat) (own:Int) (hown:0<=own):∀ (bs d q:List Int),d.length=n->0<=rd d own->(∀ b∈bs,0<=b/\b<(n:Int))->Visited d q own bs (Zf d q own bs).1 (Zf d q own bs).2
 |[],d,q,hl,h0,hb=>⟨rfl,fun _ _ _=>rfl,fun _ _ _=>Or.inl rfl,fun b hb=>(by cases hb),⟨[],(by simp[Zf]),(by simp[Zf]),fun x hx=>(by cases hx),fun v h1 h2 h3=>(by simp only[Zf] at h3;omega)⟩⟩
 |b :: bs,d,q,hl,h0,hb=>by
  have hbb:=hb b (List.mem_cons_self)
  unfold Zf
  by_cases c:rd d b<0
  ·rw[if_pos c]
   have hr:=fun j hj=>ZF d b j (rd d own+1) hbb.1 Om hj
   have hob:own≠b:=fun e=>by rw[e] at h0;omega
   have ho2:rd (d.set b.toNat (rd d own+1)) own=rd d own:=by rw[hr own hown,if_neg hob]
   have ih:=ZO n own hown bs (d.set b.toNat (rd d own+1)) (q++[b]) (by simpa using hl) (by rw[ho2];exact h0) (fun x hx=>hb x (List.mem_cons_of_mem _ hx))
   obtain⟨i1,i2,i3,i4,ns,i5,i6,i7,i8⟩:=ih
   rw[ho2] at i3 i7
   have hb1:rd (d.set b.toNat (rd d own+1)) b=rd d own+1:=by rw[hr b hbb.1,if_pos rfl]
   have hb2:=i2 b hbb.1 (by rw[hb1];omega)
   rw[hb1] at hb2
   refine⟨by rw[i1,List.length_set],fun v hv h=>?_,fun v hv h=>?_,fun x hx=>?_,b :: ns,by rw[i5];simp,?_,fun x hx=>?_,fun v hv h1 h2=>?_⟩
   ·have hvb:v≠b:=fun e=>by rw[e] at h;omega
    rw[i2 v hv (by rw[hr v hv,if_neg hvb];exact h),hr v hv,if_neg hvb]
   ·by_cases e:v=b
    ·subst e;exact Or.inr ⟨List.mem_cons_self,hb2⟩
    ·have h2:=i3 v hv (by rw[hr v hv,if_neg e];exact h)
     rw[hr v hv,if_neg e] at h2
     rcases h2 with h2|⟨h2,h3⟩
     ·exact Or.inl h2
     ·exact Or.inr ⟨List.mem_cons_of_mem _ h2,h3⟩
   ·rcases List.mem_cons.mp hx with h|h
    ·rw[h,hb2];omega
    ·exact i4 x h
   ·have:=ZG d b.toNat (rd d own+1) Om (by exact c) Om
    simp only[List.length_cons];omega
   ·rcases List.mem_cons.mp hx with h|h
    ·rw[h];exact⟨List.mem_cons_self,hb2⟩
    ·exact⟨List.mem_cons_of_mem _ (i7 x h).1,(i7 x h).2⟩
   ·by_cases e:v=b
    ·rw[e];exact List.mem_cons_self
    ·exact List.mem_cons_of_mem _ (i8 v hv (by rw[hr v hv,if_neg e];exact h1) h2)
  ·rw[if_neg c]
   obtain⟨i1,i2,i3,i4,ns,i5,i6,i7,i8⟩:=ZO n own hown bs d q hl h0 (fun x hx=>hb x (List.mem_cons_of_mem _ hx))
   refine⟨i1,i2,fun v hv h=>?_,fun x hx=>?_,ns,i5,i6,fun x hx=>⟨List.mem_cons_of_mem _ (i7 x hx).1,(i7 x hx).2⟩,i8⟩
   ·rcases i3 v hv h with h2|⟨h2,h3⟩
    ·exact Or.inl h2
    ·exact Or.inr ⟨List.mem_cons_of_mem _ h2,h3⟩
   ·rcases List.mem_cons.mp hx with h|h
    ·rw[h,i2 b hbb.1 Om];omega
    ·exact i4 x h
structure BInv (adj:Int->List Int) (n:Nat) (src:Int) (d q:List Int) (m:Int):Prop where
 len:d.length=n
 m0:0<=m
 src0:rd d src=0
 zero:∀ v,0<=v->v<(n:Int)->rd d v=0->v=src
 lvl:∃ A B,q=A++B/\(∀ x∈A,0<=x/\x<(n:Int)/\rd d x=m)/\(∀ x∈B,0<=x/\x<(n:Int)/\rd d x=m+1)
 top:∀ v,0<=v->rd d v<=m+1
 from_:∀ v,0<=v->v<(n:Int)->0<=rd d v->v≠src->∃ u,0<=u/\u<(n:Int)/\v∈adj u/\0<=rd d u/\rd d u=rd d v-1
 done:∀ u,0<=u->u<(n:Int)->0<=rd d u->u ∉ q->∀ v∈adj u,0<=rd d v/\rd d v<=rd d u+1
structure BEnd (adj:Int->List Int) (n:Nat) (src:Int) (d:List Int):Prop where
 len:d.length=n
 src0:rd d src=0
 zero:∀ v,0<=v->v<(n:Int)->rd d v=0->v=src
 from_:∀ v,0<=v->v<(n:Int)->0<=rd d v->v≠src->∃ u,0<=u/\u<(n:Int)/\v∈adj u/\0<=rd d u/\rd d u=rd d v-1
 done:∀ u,0<=u->u<(n:Int)->0<=rd d u->∀ v∈adj u,0<=rd d v/\rd d v<=rd d u+1
theorem ZUb (adj:Int->List Int) (n:Nat) (src:Int) (hs:0<=src) (hs1:src<(n:Int)) (hadj:∀ u,0<=u->u<(n:Int)->∀ v∈adj u,0<=v/\v<(n:Int)):∀ (f:Nat) (d q:List Int) (m:Int),BInv adj n src d q m->q.length+Zn d<=f->BEnd adj n src (bfs adj f d q):=by
 have endq:∀ (d:List Int) (m:Int),BInv adj n src d [] m->BEnd adj n src d:=fun d m h=>⟨h.len,h.src0,h.zero,h.from_,fun u hu hu1 h2=>h.done u hu hu1 h2 (by simp)⟩
 intro f
 induction f with
 |zero =>
  intro d q m h hf
  have:q=[]:=List.eq_nil_of_length_eq_zero Om
  subst this
  exact endq d m h
 |succ f ih =>
  intro d q m h hf
  cases q with
  |nil=>exact endq d m h
  |cons own rest =>
   have key:∃ m',m<=m'/\BInv adj n src d (own :: rest) m'/\(0<=own/\own<(n:Int)/\rd d own=m')/\∃ A B,rest=A++B/\(∀ x∈A,0<=x/\x<(n:Int)/\rd d x=m')/\(∀ x∈B,0<=x/\x<(n:Int)/\rd d x=m'+1):=by
    obtain⟨A,B,e,hA,hB⟩:=h.lvl
    cases A with
    |cons a A =>
     simp only[List.cons_append,List.cons.injEq] at e
     obtain⟨rfl,rfl⟩:=e
     exact⟨m,Int.le_refl _,h,hA own List.mem_cons_self,A,B,rfl,fun x hx=>hA x (List.mem_cons_of_mem _ hx),hB⟩
    |nil =>
     simp only[List.nil_append] at e
     subst e
     refine⟨m+1,by omega,⟨h.len,by have:=h.m0;omega,h.src0,h.zero,⟨own :: rest,[],by simp,hB,fun x hx=>by cases hx⟩,fun v hv=>by have:=h.top v hv;omega,h.from_,h.done⟩,hB own List.mem_cons_self,rest,[],by simp,fun x hx=>hB x (List.mem_cons_of_mem _ hx),fun x hx=>by cases hx⟩
   obtain⟨m',_,h',⟨ho0,ho1,ho2⟩,A,B,hr,hA,hB⟩:=key
   have hm0:=h'.m0
   obtain⟨v1,v2,v3,v4,ns,v5,v6,v7,v8⟩:=ZO n own ho0 (adj own) d rest h'.len Om (hadj own ho0 ho1)
   show BEnd adj n src (bfs adj f (Zf d rest own (adj own)).1 (Zf d rest own (adj own)).2)
   obtain⟨d',hd'⟩:∃ d',d'=(Zf d rest own (adj own)).1:=⟨_,rfl⟩
   obtain⟨q',hq'⟩:∃ q',q'=(Zf d rest own (adj own)).2:=⟨_,rfl⟩
   rw[<-hd'] at v1 v2 v3 v4 v6 v7 v8 ⊢
   rw[<-hq'] at v5 ⊢
   have keep:∀ x,0<=x->0<=rd d x->rd d' x=rd d x:=v2
   have hsrc:rd d' src=0:=by rw[keep src hs (by rw[h'.src0];omega),h'.src0]
   refine ih d' q' m' ⟨by rw[v1,h'.len],hm0,hsrc,fun v hv hv1 e=>?_,?_,fun v hv=>?_,fun v hv hv1 e hne=>?_,fun u hu hu1 e hnq v hvu=>?_⟩ ?_
   ·by_cases c:0<=rd d v
    ·exact h'.zero v hv hv1 (by rw[<-keep v hv c];exact e)
    ·rcases v3 v hv Om with h2|⟨_,h2⟩ <;> omega
   ·refine⟨A,B++ns,by rw[v5,hr,List.append_assoc],fun x hx=>?_,fun x hx=>?_⟩
    ·have:=hA x hx
     exact⟨this.1,this.2.1,by rw[keep x this.1 Om];exact this.2.2⟩
    ·rcases List.mem_append.mp hx with h2|h2
     ·have:=hB x h2
      exact⟨this.1,this.2.1,by rw[keep x this.1 Om];exact this.2.2⟩
     ·obtain⟨h3,h4⟩:=v7 x h2
      have:=hadj own ho0 ho1 x h3
      exact⟨this.1,this.2,by rw[h4,ho2]⟩
   ·by_cases c:0<=rd d v
    ·rw[keep v hv c];exact h'.top v hv
    ·rcases v3 v hv Om with h2|⟨_,h2⟩ <;> omega
   ·by_cases c:0<=rd d v
    ·obtain⟨u,u1,u2,u3,u4,u5⟩:=h'.from_ v hv hv1 c hne
     exact⟨u,u1,u2,u3,by rw[keep u u1 u4];exact u4,by rw[keep u u1 u4,keep v hv c];exact u5⟩
    ·rcases v3 v hv Om with h2|⟨h2,h3⟩
     ·omega
     ·exact⟨own,ho0,ho1,h2,by rw[keep own ho0 Om];omega,by rw[keep own ho0 Om,h3];omega⟩
   ·by_cases c:0<=rd d u
    ·rw[keep u hu c]
     by_cases e2:u=own
     ·subst e2
      refine⟨v4 v hvu,?_⟩
      have hvr:=hadj u ho0 ho1 v hvu
      by_cases c2:0<=rd d v
      ·rw[keep v hvr.1 c2,ho2];exact h'.top v hvr.1
      ·rcases v3 v hvr.1 Om with h2|⟨_,h2⟩
       ·have:=v4 v hvu;omega
       ·omega
     ·have hnq2:u ∉ own :: rest:=by
       intro hm
       rcases List.mem_cons.mp hm with h2|h2
       ·exact e2 h2
       ·exact hnq (by rw[v5];exact List.mem_append_left _ h2)
      obtain⟨h2,h3⟩:=h'.done u hu hu1 c hnq2 v hvu
      have hv0:0<=v:=(hadj u hu hu1 v hvu).1
      rw[keep v hv0 h2]
      exact⟨h2,h3⟩
    ·exfalso
     exact hnq (by rw[v5];exact List.mem_append_right _ (v8 u hu Om e))
   ·have:(own :: rest).length=rest.length+1:=rfl
    rw[v5,List.length_append];omega
structure LandOk (W H:Int) (xs:List Int):Prop where
 w:1<=W/\W<=8
 h:1<=H/\H<=8
 len:(xs.length:Int)=W * H
 pos:1<=xs.length
 le:xs.length<=64
 ev:∀ k,70<k->impl_IsLand.f k W H xs=some true/\spec_IsLand.f k W H xs=some true
theorem ZN (W H:Int) (xs:List Int) (hn:xs.length<=1048576):LandOk W H xs\/∀ k,xs.length+1<k->impl_IsLand.f k W H xs=some false/\spec_IsLand.f k W H xs=some false:=by
 obtain⟨b,hb,hp⟩:=Zzb W H xs hn
 cases b with
 |false=>exact Or.inr hb
 |true =>
  obtain⟨h1,h2,h3,h4,h5,_⟩:=hp rfl
  exact Or.inl ⟨h1,h2,h3,h4,h5,fun k hk=>hb k Om⟩
def opn (xs:List Int) (m:Int):Bool:=decide (0<=m/\m<(xs.length:Int)) && (rd xs m != 2)
theorem Za {xs:List Int} {m:Int} (h:opn xs m=true):0<=m/\m<(xs.length:Int):=by
 unfold opn at h
 rw[Bool.and_eq_true,decide_eq_true_eq] at h
 exact h.1
theorem ZD {W H:Int} {xs:List Int} (L:LandOk W H xs) (m:Int) (k:Nat) (hk:70<k):impl_IsCell.f k W H xs m=some (decide (0<=m/\m<(xs.length:Int)))/\spec_IsCell.f k W H xs m=some (decide (0<=m/\m<(xs.length:Int))):=by
 have:=L.pos
 have:=L.le
 have e:wrap64 ((xs.length:Int)-1)=(xs.length:Int)-1:=Yw
 have e2:decide (0<=m/\m<=(xs.length:Int)-1)=decide (0<=m/\m<(xs.length:Int)):=decide_eq_decide.mpr Om
 unfold impl_IsCell.f spec_IsCell.f
 simp only[(L.ev k hk).1,(L.ev k hk).2,Ob,if_true,e,Zd,Zj,e2,and_self]
theorem Zq {W H:Int} {xs:List Int} (L:LandOk W H xs) (m:Int) (k:Nat) (hk:70<k):impl_IsOpen.f k W H xs m=some (opn xs m)/\spec_IsOpen.f k W H xs m=some (opn xs m):=by
 obtain⟨c1,c2⟩:=ZD L m k hk
 unfold impl_IsOpen.f spec_IsOpen.f
 rw[c1,c2]
 unfold opn
 by_cases h:0<=m/\m<(xs.length:Int)
 ·simp only[h,and_self,decide_true,Ob,if_true,Bool.true_and]
 ·simp only[h,decide_false,Ob,Bool.false_eq_true,if_false,Bool.false_and,and_self]
theorem ZLa {W H:Int} {xs:List Int} (m:Int) (k:Nat) (h:impl_IsLand.f k W H xs=some false/\spec_IsLand.f k W H xs=some false):impl_IsCell.f k W H xs m=some false/\spec_IsCell.f k W H xs m=some false:=by
 unfold impl_IsCell.f spec_IsCell.f
 simp only[h.1,h.2,Ob,Bool.false_eq_true,if_false,and_self]
theorem ZT {W H:Int} {xs:List Int} (m:Int) (k:Nat) (h:impl_IsLand.f k W H xs=some false/\spec_IsLand.f k W H xs=some false):impl_IsOpen.f k W H xs m=some false/\spec_IsOpen.f k W H xs m=some false:=by
 obtain⟨c1,c2⟩:=ZLa m k h
 unfold impl_IsOpen.f spec_IsOpen.f
 simp only[c1,c2,Ob,Bool.false_eq_true,if_false,and_self]
def ab (a:Int):Int:=mx a (-a)
def ap (W n m:Int):Int:=ab (n % W-m % W)+ab (n / W-m / W)
theorem Zx {W:Int} (h:1<=W/\W<=8):W=1\/W=2\/W=3\/W=4\/W=5\/W=6\/W=7\/W=8:=by omega
theorem Z9a (a:Int) (h:-1000<=a/\a<=1000):impl_size.f a=some (ab a):=by
 unfold impl_size.f ab
 rw[show wrap64 (-a)=-a by unfold wrap64;omega]
theorem ZXa (a:Int) (h:-1000<=a/\a<=1000):0<=ab a/\ab a<=1000:=by
 unfold ab mx;split <;> omega
theorem ZIb {W H:Int} {xs:List Int} (L:LandOk W H xs) (n m:Int) (hn:0<=n/\n<(xs.length:Int)) (hm:0<=m/\m<(xs.length:Int)) (k:Nat) (hk:71<k):impl_Apart.f k W H xs n m=some (ap W n m):=by
 obtain⟨k,rfl⟩:∃ j,k=j+1:=⟨k-1,by omega⟩
 have hw:=L.w
 have:=L.le
 have t1:Int.tmod n W=n % W:=Int.tmod_eq_emod_of_nonneg hn.1
 have t2:Int.tmod m W=m % W:=Int.tmod_eq_emod_of_nonneg hm.1
 have d1:Int.tdiv n W=n / W:=Int.tdiv_eq_ediv_of_nonneg hn.1
 have d2:Int.tdiv m W=m / W:=Int.tdiv_eq_ediv_of_nonneg hm.1
 have b1:=Int.emod_nonneg n (show W≠0 by omega)
 have b2:=Int.emod_lt_of_pos n (show 0<W by omega)
 have b3:=Int.emod_nonneg m (show W≠0 by omega)
 have b4:=Int.emod_lt_of_pos m (show 0<W by omega)
 have b5:0<=n / W/\n / W<=64:=by rcases Zx hw with e|e|e|e|e|e|e|e <;> subst e <;> omega
 have b6:0<=m / W/\m / W<=64:=by rcases Zx hw with e|e|e|e|e|e|e|e <;> subst e <;> omega
 have e1:wrap64 (n % W-m % W)=n % W-m % W:=Yw
 have e2:wrap64 (n / W)=n / W:=Yw
 have e3:wrap64 (m / W)=m / W:=Yw
 have e4:wrap64 (n / W-m / W)=n / W-m / W:=Yw
 have s1:=Z9a (n % W-m % W) Om
 have s2:=Z9a (n / W-m / W) Om
 have s3:=ZXa (n % W-m % W) Om
 have s4:=ZXa (n / W-m / W) Om
 have e5:wrap64 (ab (n % W-m % W)+ab (n / W-m / W))=ab (n % W-m % W)+ab (n / W-m / W):=Yw
 have hw0:¬ W=0:=by omega
 unfold impl_Apart.f
 simp only[(ZD L n (k+1) Om).1,(ZD L m (k+1) Om).1,hn,hm,and_self,decide_true,Ob,if_true,impl_Apart.j0,Bool.not_true,Bool.false_eq_true,if_false,if_neg hw0,t1,t2,d1,d2,e1,e2,e3,e4,s1,s2,e5,ap]
def Ze (W:Int) (xs:List Int) (n:Int):List Int :=
 (((if W<=n/\rd xs (n-W)≠2 then [n-W] else [])++(if 0<n % W/\rd xs (n-1)≠2 then [n-1] else []))++(if n % W<W-1/\rd xs (n+1)≠2 then [n+1] else []))++(if n+W<(xs.length:Int)/\rd xs (n+W)≠2 then [n+W] else [])
theorem ZBa {W H n l:Int} (hw:1<=W/\W<=8) (hl:l=W * H) (hn:n<l) (h0:0<=n) (h:n % W<W-1):n+1<l:=by
 rcases Zx hw with e|e|e|e|e|e|e|e <;> subst e <;> omega
theorem Zaa {W H:Int} {xs:List Int} (L:LandOk W H xs) (n:Int) (hn:0<=n/\n<(xs.length:Int)) (k:Nat) (hk:5<k):spec_l4Near.f k W H xs n=some (Ze W xs n):=by
 obtain⟨k,rfl⟩:∃ j,k=j+5:=⟨k-5,by omega⟩
 have hw:=L.w
 have:=L.le
 have t1:Int.tmod n W=n % W:=Int.tmod_eq_emod_of_nonneg hn.1
 have e1:wrap64 (n-W)=n-W:=Yw
 have e2:wrap64 (n-1)=n-1:=Yw
 have e3:wrap64 (n+1)=n+1:=Yw
 have e4:wrap64 (n+W)=n+W:=Yw
 have e5:wrap64 (W-1)=W-1:=Yw
 have hw0:¬ W=0:=by omega
 have hr:=fun h=>ZBa hw L.len hn.2 hn.1 h
 have hp:0<n % W->0<=n-1:=fun h=>by
  by_cases h0:n=0
  ·subst h0;simp at h
  ·omega
 have j4:∀ (j:Nat) (acc:List Int) (c:Bool),acc.length<=10->spec_l4Near.j4 (j+1) n acc c W H xs=some ((acc++(if c=true then [n+1] else []))++(if n+W<(xs.length:Int)/\rd xs (n+W)≠2 then [n+W] else [])):=by
  intro j acc c ha
  have q1:acc.length<17592186044416:=by omega
  have q2:(acc++[n+1]).length<17592186044416:=by simp;omega
  have q3:0<=n+W:=by omega
  rw[spec_l4Near.j4]
  simp only[e3,e4,if_pos q1,if_pos q2,if_pos q3,Ob]
  by_cases c0:c=true
  ·by_cases c1:n+W<(xs.length:Int)
   ·by_cases c2:rd xs (n+W)=2
    ·simp[c0,c1,c2]
    ·simp[c0,c1,c2]
   ·simp[c0,c1]
  ·by_cases c1:n+W<(xs.length:Int)
   ·by_cases c2:rd xs (n+W)=2
    ·simp[c0,c1,c2]
    ·simp[c0,c1,c2]
   ·simp[c0,c1]
 have j3:∀ (j:Nat) (acc:List Int),acc.length<=10->spec_l4Near.j3 (j+2) n acc W H xs=some ((acc++(if n % W<W-1/\rd xs (n+1)≠2 then [n+1] else []))++(if n+W<(xs.length:Int)/\rd xs (n+W)≠2 then [n+W] else [])):=by
  intro j acc ha
  rw[spec_l4Near.j3]
  simp only[if_neg hw0,t1,e3,e5]
  by_cases c1:n % W<W-1
  ·have q1:=hr c1
   have q2:0<=n+1:=by omega
   rw[if_pos c1,if_pos q2,if_pos q1,j4 j acc _ ha]
   by_cases c2:rd xs (n+1)=2
   ·simp[c1,c2]
   ·simp[c1,c2]
  ·rw[if_neg c1,j4 j acc _ ha]
   simp[c1]
 have j2:∀ (j:Nat) (acc:List Int) (c:Bool),acc.length<=8->spec_l4Near.j2 (j+3) n acc c W H xs=some (((acc++(if c=true then [n-1] else []))++(if n % W<W-1/\rd xs (n+1)≠2 then [n+1] else []))++(if n+W<(xs.length:Int)/\rd xs (n+W)≠2 then [n+W] else [])):=by
  intro j acc c ha
  have q1:acc.length<17592186044416:=by omega
  rw[spec_l4Near.j2]
  simp only[e2,if_pos q1]
  by_cases c0:c=true
  ·rw[if_pos c0,j3 j _ (by simp;omega),if_pos c0]
  ·rw[if_neg c0,j3 j _ Om,if_neg c0,List.append_nil]
 have j1:∀ (j:Nat) (acc:List Int),acc.length<=8->spec_l4Near.j1 (j+4) n acc W H xs=some (((acc++(if 0<n % W/\rd xs (n-1)≠2 then [n-1] else []))++(if n % W<W-1/\rd xs (n+1)≠2 then [n+1] else []))++(if n+W<(xs.length:Int)/\rd xs (n+W)≠2 then [n+W] else [])):=by
  intro j acc ha
  rw[spec_l4Near.j1]
  simp only[if_neg hw0,t1,e2,gt_iff_lt]
  by_cases c1:0<n % W
  ·have q1:=hp c1
   have q2:n-1<(xs.length:Int):=by omega
   rw[if_pos c1,if_pos q1,if_pos q2,j2 j acc _ ha]
   by_cases c2:rd xs (n-1)=2
   ·simp[c1,c2]
   ·simp[c1,c2]
  ·rw[if_neg c1,j2 j acc _ ha]
   simp[c1]
 unfold spec_l4Near.f Ze
 simp only[Ob,e1,ge_iff_le]
 have q0:([]:List Int).length<17592186044416:=by simp
 by_cases c1:W<=n
 ·have q1:0<=n-W:=by omega
  have q2:n-W<(xs.length:Int):=by omega
  rw[if_pos c1,if_pos q1,if_pos q2,spec_l4Near.j0]
  simp only[e1,if_pos q0]
  by_cases c2:rd xs (n-W)=2
  ·simp only[c2,bne_self_eq_false,Bool.false_eq_true,if_false]
   rw[j1 k [] (by simp)]
   simp[c1]
  ·rw[if_pos (by simp[c2]),j1 k _ (by simp)]
   simp[c1,c2]
 ·rw[if_neg c1,spec_l4Near.j0]
  simp only[Bool.false_eq_true,if_false]
  rw[j1 k [] (by simp)]
  simp[c1]
def Zw (W:Int) (xs:List Int) (n m:Int):Bool:=opn xs m && decide (ap W n m=1)
theorem ZLb {W H:Int} {xs:List Int} (L:LandOk W H xs) (n:Int) (hn:0<=n/\n<(xs.length:Int)) (ys:List Int) (hy:ys.length=4) (K:Nat) (hK:80<=K) (r:List Int) :
  ∀ (d:Nat) (i:Int) (acc:List Int),0<=i->(ys.length:Int)-i=d->acc.length+d<=100->(∀ k,K<k->slices_Compact_int_int.f k (acc++(ys.drop i.toNat).filter (Zw W xs n))=some r) ->
  ∀ k,K+d+1<k->impl_Near.l0 k n acc ys (ys.length:Int) i W H xs=some r:=by
 intro d
 induction d with
 |zero =>
  intro i acc h0 hd ha hr k hk
  obtain⟨k,rfl⟩:∃ j,k=j+1:=⟨k-1,by omega⟩
  have hlt:¬ i<(ys.length:Int):=by omega
  rw[List.drop_eq_nil_of_le Om,List.filter_nil,List.append_nil] at hr
  simp only[impl_Near.l0,if_neg hlt,hr k Om,Ob]
 |succ d ih =>
  intro i acc h0 hd ha hr k hk
  obtain⟨k,rfl⟩:∃ j,k=j+1:=⟨k-1,by omega⟩
  have hlt:i<(ys.length:Int):=by omega
  rw[ZB 0 ys i h0 hlt,show ys.getD i.toNat 0=rd ys i from rfl,List.filter_cons] at hr
  have q1:acc.length<17592186044416:=by omega
  have hw:wrap64 (i+1)=i+1:=Yw
  simp only[impl_Near.l0,if_pos hlt,if_pos h0,(Zq L (rd ys i) k Om).1,Ob,hw,if_pos q1]
  by_cases c:opn xs (rd ys i)=true
  ·rw[if_pos c,ZIb L n (rd ys i) hn (Za c) k Om,Ob]
   by_cases c2:ap W n (rd ys i)=1
   ·rw[if_pos c2]
    rw[if_pos (by unfold Zw;rw[c];simp[c2])] at hr
    exact ih (i+1) (acc++[rd ys i]) Om Om (by simp;omega) (by simpa using hr) k Om
   ·rw[if_neg c2]
    rw[if_neg (by unfold Zw;rw[c];simp[c2])] at hr
    exact ih (i+1) acc Om Om Om hr k Om
  ·rw[if_neg c]
   rw[if_neg (by unfold Zw;simp[c])] at hr
   exact ih (i+1) acc Om Om Om hr k Om
theorem ZRa (l:List Int) (hl:l.length<=100) (h:l.Pairwise (· < ·)):∀ (d:Nat) (i:Int),1<=i->(l.length:Int)-i=d->∀ k,d<k->slices_Compact_int_int.l0 k l i=some l:=by
 intro d
 induction d with
 |zero =>
  intro i h1 hd k hk
  obtain⟨k,rfl⟩:∃ j,k=j+1:=⟨k-1,by omega⟩
  rw[slices_Compact_int_int.l0,if_neg Om]
 |succ d ih =>
  intro i h1 hd k hk
  obtain⟨k,rfl⟩:∃ j,k=j+1:=⟨k-1,by omega⟩
  have w1:wrap64 (i-1)=i-1:=Yw
  have w2:wrap64 (i+1)=i+1:=Yw
  have hne:¬ rd l i=rd l (i-1):=by
   have ha:i.toNat<l.length:=by omega
   have hb:(i-1).toNat<l.length:=by omega
   have:=List.pairwise_iff_getElem.mp h (i-1).toNat i.toNat hb ha Om
   unfold rd
   rw[List.getD_eq_getElem?_getD,List.getD_eq_getElem?_getD,List.getElem?_eq_getElem ha,List.getElem?_eq_getElem hb]
   simp only[Option.getD_some]
   omega
  rw[slices_Compact_int_int.l0,if_pos Om,if_pos Om,w1,if_pos Om,if_pos Om,if_neg hne,w2]
  exact ih (i+1) Om Om k Om
theorem Zia (l:List Int) (hl:l.length<=100) (h:l.Pairwise (· < ·)) (k:Nat) (hk:l.length<k):slices_Compact_int_int.f k l=some l:=by
 unfold slices_Compact_int_int.f
 split
 ·rfl
 ·exact ZRa l hl h (l.length-1) 1 Om Om k Om
theorem ZFa (a:Int) (k:Nat) (hk:10<k):slices_Compact_int_int.f k [a,a]=some [a]:=by
 obtain⟨k,rfl⟩:∃ j,k=j+10:=⟨k-10,by omega⟩
 have w0:wrap64 0=0:=Yw
 have w2:wrap64 2=2:=Yw
 unfold slices_Compact_int_int.f
 simp[slices_Compact_int_int.l0,slices_Compact_int_int.l1,rd,rs,w0,w2]
theorem Zqb (a b:Int) (hab:a≠b) (k:Nat) (hk:10<k):slices_Compact_int_int.f k [a,a,b,b]=some [a,b]:=by
 obtain⟨k,rfl⟩:∃ j,k=j+10:=⟨k-10,by omega⟩
 have w0:wrap64 0=0:=Yw
 have w1:wrap64 1=1:=Yw
 have w2:wrap64 2=2:=Yw
 have w3:wrap64 3=3:=Yw
 unfold slices_Compact_int_int.f
 simp[slices_Compact_int_int.l0,slices_Compact_int_int.l1,rd,rs,w0,w1,w2,w3,hab,Ne.symm hab]
theorem ZAa {W H:Int} {xs:List Int} (L:LandOk W H xs) (n:Int) (hn:0<=n/\n<(xs.length:Int)) (k:Nat) (hk:100<k):impl_Near.f k W H xs n=some (Ze W xs n):=by
 have hw:=L.w
 have:=L.le
 have e1:wrap64 (n-W)=n-W:=Yw
 have e2:wrap64 (n-1)=n-1:=Yw
 have e3:wrap64 (n+1)=n+1:=Yw
 have e4:wrap64 (n+W)=n+W:=Yw
 unfold impl_Near.f
 simp only[(ZD L n k Om).1,hn,and_self,decide_true,Ob,if_true,e1,e2,e3,e4]
 refine ZLb L n hn [n-W,n-1,n+1,n+W] rfl 90 Om (Ze W xs n) 4 0 [] Om (by simp) (by simp) (fun k hk=>?_) k Om
 simp only[Int.toNat_zero,List.drop_zero,List.nil_append]
 by_cases h1:W=1
 ·subst h1
  have o1:ap 1 n (n-1)=1:=by unfold ap ab mx;split <;> split <;> omega
  have o2:ap 1 n (n+1)=1:=by unfold ap ab mx;split <;> split <;> omega
  unfold Ze
  by_cases c1:opn xs (n-1)=true <;> by_cases c2:opn xs (n+1)=true <;> simp only[List.filter_cons,Zw,o1,o2,c1,c2,decide_true,Bool.and_self,Bool.and_true,Bool.true_and,if_true,Bool.false_eq_true,if_false,List.filter_nil]
  ·have c1':=c1
   have c2':=c2
   unfold opn at c1' c2'
   simp only[Bool.and_eq_true,decide_eq_true_eq,bne_iff_ne] at c1' c2'
   rw[Zqb (n-1) (n+1) Om k Om,if_pos ⟨by omega,c1'.2⟩,if_neg Om,if_neg Om,if_pos ⟨by omega,c2'.2⟩]
   rfl
  ·have c1':=c1
   have c2':=c2
   unfold opn at c1' c2'
   simp only[Bool.and_eq_true,decide_eq_true_eq,bne_iff_ne] at c1' c2'
   rw[ZFa (n-1) k Om,if_pos ⟨by omega,c1'.2⟩,if_neg Om,if_neg Om,if_neg (fun h=>c2' ⟨⟨by omega,h.1⟩,h.2⟩)]
   rfl
  ·have c1':=c1
   have c2':=c2
   unfold opn at c1' c2'
   simp only[Bool.and_eq_true,decide_eq_true_eq,bne_iff_ne] at c1' c2'
   rw[ZFa (n+1) k Om,if_neg (fun h=>c1' ⟨⟨by omega,by omega⟩,h.2⟩),if_neg Om,if_neg Om,if_pos ⟨by omega,c2'.2⟩]
   rfl
  ·have c1':=c1
   have c2':=c2
   unfold opn at c1' c2'
   simp only[Bool.and_eq_true,decide_eq_true_eq,bne_iff_ne] at c1' c2'
   rw[Zia [] (by simp) (by simp) k (by simp;omega),if_neg (fun h=>c1' ⟨⟨by omega,by omega⟩,h.2⟩),if_neg Om,if_neg Om,if_neg (fun h=>c2' ⟨⟨by omega,h.1⟩,h.2⟩)]
   rfl
 ·have hW:2<=W/\W<=8:=by omega
  have hl:=L.len
  have hasc:((([n-W,n-1,n+1,n+W]:List Int)).filter (Zw W xs n)).Pairwise (· < ·):=by
   refine List.Pairwise.filter _ ?_
   simp only[List.pairwise_cons,List.mem_cons,List.not_mem_nil,or_false]
   refine⟨fun a h=>by omega,fun a h=>by omega,fun a h=>by omega,fun a h=>h.elim,List.Pairwise.nil⟩
  have hlen:((([n-W,n-1,n+1,n+W]:List Int)).filter (Zw W xs n)).length<=4:=by
   have:=List.length_filter_le (Zw W xs n) [n-W,n-1,n+1,n+W]
   simpa using this
  rw[Zia _ Om hasc k Om]
  congr 1
  have hbq:∀ a:Int,(a==2)=decide (a=2):=fun a=>rfl
  have m1:Zw W xs n (n-W)=decide (W<=n/\rd xs (n-W)≠2):=by
   have:0<=n-W->ap W n (n-W)=1:=fun h=>by
    unfold ap ab mx
    rcases Zx hw with e|e|e|e|e|e|e|e <;> subst e <;> split <;> split <;> omega
   unfold Zw opn
   by_cases c:W<=n
   ·have c0:0<=n-W:=by omega
    have c1:n-W<(xs.length:Int):=by omega
    rw[this c0]
    simp[c,c0,c1,bne,hbq]
   ·have c0:¬ 0<=n-W:=by omega
    simp[c,c0]
  have m2:Zw W xs n (n-1)=decide (0<n % W/\rd xs (n-1)≠2):=by
   have a1:0<n % W->ap W n (n-1)=1/\0<=n-1:=fun h=>by
    unfold ap ab mx
    rcases Zx hw with e|e|e|e|e|e|e|e <;> subst e <;> constructor <;> (try split) <;> (try split) <;> omega
   have a2:¬ 0<n % W->0<=n-1->¬ ap W n (n-1)=1:=fun h h2=>by
    unfold ap ab mx
    rcases Zx hw with e|e|e|e|e|e|e|e <;> subst e <;> split <;> split <;> omega
   unfold Zw opn
   by_cases c:0<n % W
   ·have c1:n-1<(xs.length:Int):=by omega
    have c0:=(a1 c).2
    rw[(a1 c).1]
    simp only[c0,c1,c,and_self,true_and,decide_true,Bool.true_and,bne,hbq,Bool.and_true,ne_eq,decide_not]
   ·by_cases c0:0<=n-1
    ·simp only[c,a2 c c0,decide_false,Bool.and_false,false_and]
    ·simp only[c,c0,false_and,decide_false,Bool.false_and]
  have m3:Zw W xs n (n+1)=decide (n % W<W-1/\rd xs (n+1)≠2):=by
   have a1:n % W<W-1->ap W n (n+1)=1:=fun h=>by
    unfold ap ab mx
    rcases Zx hw with e|e|e|e|e|e|e|e <;> subst e <;> split <;> split <;> omega
   have a2:¬ n % W<W-1->¬ ap W n (n+1)=1:=fun h=>by
    unfold ap ab mx
    rcases Zx hw with e|e|e|e|e|e|e|e <;> subst e <;> split <;> split <;> omega
   unfold Zw opn
   by_cases c:n % W<W-1
   ·have c1:=ZBa hw hl hn.2 hn.1 c
    have c0:0<=n+1:=by omega
    rw[a1 c]
    simp[c,c0,c1,bne,hbq]
   ·simp[c,a2 c]
  have m4:Zw W xs n (n+W)=decide (n+W<(xs.length:Int)/\rd xs (n+W)≠2):=by
   have:ap W n (n+W)=1:=by
    unfold ap ab mx
    rcases Zx hw with e|e|e|e|e|e|e|e <;> subst e <;> split <;> split <;> omega
   unfold Zw opn
   rw[this]
   by_cases c:n+W<(xs.length:Int)
   ·have c0:0<=n+W:=by omega
    simp[c,c0,bne,hbq]
   ·simp[c]
  unfold Ze
  simp only[List.filter_cons,m1,m2,m3,m4,decide_eq_true_eq,List.filter_nil]
  split <;> split <;> split <;> split <;> rfl
def ZM (k:Nat) (W H:Int) (xs:List Int) (n:Int):Option (List Int):=(spec_IsCell.f k W H xs n).bind fun t=>(if t=true then((spec_l4Near.f k W H xs n).bind fun s=>(some s)) else(some (([]:List Int))))
theorem Zcb {W H:Int} {xs:List Int} (n:Int) (k:Nat) (h:impl_IsCell.f k W H xs n=some false/\spec_IsCell.f k W H xs n=some false):impl_Near.f k W H xs n=some []/\ZM k W H xs n=some []:=by
 unfold impl_Near.f ZM
 simp only[h.1,h.2,Ob,Bool.false_eq_true,if_false,and_self]
theorem Z7b {c:Prop} [Decidable c] {a v:Int}:v∈(if c then [a] else [])↔c/\v=a:=by
 split <;> simp_all
theorem Zka {W n v:Int} {xs:List Int}:v∈Ze W xs n↔((((W<=n/\rd xs (n-W)≠2)/\v=n-W)\/((0<n % W/\rd xs (n-1)≠2)/\v=n-1))\/((n % W<W-1/\rd xs (n+1)≠2)/\v=n+1))\/((n+W<(xs.length:Int)/\rd xs (n+W)≠2)/\v=n+W):=by
 unfold Ze
 simp only[List.mem_append,Z7b]
theorem Z6 (W n:Int) (xs:List Int):(Ze W xs n).length<=4:=by
 unfold Ze
 have h:∀ (c:Prop) [Decidable c] (a:Int),(if c then [a] else([]:List Int)).length<=1:=fun c _ a=>by split <;> simp
 simp only[List.length_append]
 have:=h (W<=n/\rd xs (n-W)≠2) (n-W)
 have:=h (0<n % W/\rd xs (n-1)≠2) (n-1)
 have:=h (n % W<W-1/\rd xs (n+1)≠2) (n+1)
 have:=h (n+W<(xs.length:Int)/\rd xs (n+W)≠2) (n+W)
 omega
theorem Zxa {xs:List Int} {m:Int}:opn xs m=true↔(0<=m/\m<(xs.length:Int))/\rd xs m≠2:=by
 unfold opn
 rw[Bool.and_eq_true,decide_eq_true_eq,bne_iff_ne]
theorem Zz {W H n:Int} {xs:List Int} (L:LandOk W H xs) (hn:0<=n/\n<(xs.length:Int)):∀ v∈Ze W xs n,opn xs v=true:=by
 intro v hv
 have hw:=L.w
 rw[Zxa]
 rcases Zka.mp hv with ((⟨⟨h1,h2⟩,h3⟩|⟨⟨h1,h2⟩,h3⟩)|⟨⟨h1,h2⟩,h3⟩)|⟨⟨h1,h2⟩,h3⟩ <;> subst h3
 ·exact⟨by omega,h2⟩
 ·refine⟨⟨?_,by omega⟩,h2⟩
  by_cases h0:n=0
  ·subst h0;simp at h1
  ·omega
 ·have:=ZBa hw L.len hn.2 hn.1 h1
  exact⟨by omega,h2⟩
 ·exact⟨by omega,h2⟩
theorem Zna {W H n v:Int} {xs:List Int} (L:LandOk W H xs) (hn:opn xs n=true) (hv:v∈Ze W xs n):n∈Ze W xs v:=by
 have hw:=L.w
 obtain⟨hr,hx⟩:=Zxa.mp hn
 have hvo:=Zz L hr v hv
 obtain⟨hvr,hvx⟩:=Zxa.mp hvo
 rw[Zka]
 rcases Zka.mp hv with ((⟨⟨h1,h2⟩,h3⟩|⟨⟨h1,h2⟩,h3⟩)|⟨⟨h1,h2⟩,h3⟩)|⟨⟨h1,h2⟩,h3⟩ <;> subst h3
 ·exact Or.inr ⟨⟨by omega,by rw[Int.sub_add_cancel];exact hx⟩,by omega⟩
 ·refine Or.inl (Or.inr ⟨⟨?_,by rw[Int.sub_add_cancel];exact hx⟩,by omega⟩)
  rcases Zx hw with e|e|e|e|e|e|e|e <;> subst e <;> omega
 ·refine Or.inl (Or.inl (Or.inr ⟨⟨?_,by rw[Int.add_sub_cancel];exact hx⟩,by omega⟩))
  rcases Zx hw with e|e|e|e|e|e|e|e <;> subst e <;> omega
 ·exact Or.inl (Or.inl (Or.inl ⟨⟨by omega,by rw[Int.add_sub_cancel];exact hx⟩,by omega⟩))
structure Good (n:Nat) (d q:List Int):Prop where
 len:d.length=n
 bnd:∀ v,0<=v->rd d v+(Zn d:Int)+1<=(n:Int)
 mem:∀ x∈q,0<=x/\x<(n:Int)/\0<=rd d x
theorem Zya {n:Nat} {d:List Int} {own b:Int} (hl:d.length=n) (hb:∀ v,0<=v->rd d v+(Zn d:Int)+1<=(n:Int)) (ho:0<=own) (h0:0<=rd d own) (b0:0<=b) (b1:b<(n:Int)) (c:rd d b<0) :
  ∀ v,0<=v->rd (d.set b.toNat (rd d own+1)) v+(Zn (d.set b.toNat (rd d own+1)):Int)+1<=(n:Int):=by
 intro v hv
 have h1:=ZG d b.toNat (rd d own+1) Om c Om
 have h2:=hb v hv
 have h3:=hb own ho
 rw[ZF d b v (rd d own+1) b0 Om hv]
 split <;> omega
theorem Z8 (n:Nat) (own:Int) (ho:0<=own):∀ (bs d q:List Int),d.length=n->(∀ v,0<=v->rd d v+(Zn d:Int)+1<=(n:Int))->0<=rd d own->(∀ b∈bs,0<=b/\b<(n:Int)) ->
  ∀ v,0<=v->rd (Zf d q own bs).1 v+(Zn (Zf d q own bs).1:Int)+1<=(n:Int)
 |[],d,q,hl,hb,h0,hr=>hb
 |b :: bs,d,q,hl,hb,h0,hr=>by
  have hbb:=hr b List.mem_cons_self
  unfold Zf
  by_cases c:rd d b<0
  ·rw[if_pos c]
   have hne:own≠b:=fun e=>by rw[e] at h0;omega
   have h2:rd (d.set b.toNat (rd d own+1)) own=rd d own:=by rw[ZF d b own _ hbb.1 Om ho,if_neg hne]
   exact Z8 n own ho bs _ _ (by simpa using hl) (Zya hl hb ho h0 hbb.1 hbb.2 c) (by rw[h2];exact h0) (fun x hx=>hr x (List.mem_cons_of_mem _ hx))
  ·rw[if_neg c]
   exact Z8 n own ho bs d q hl hb h0 (fun x hx=>hr x (List.mem_cons_of_mem _ hx))
theorem Z4 {n:Nat} {d rest bs:List Int} {own:Int} (G:Good n d (own :: rest)) (hr:∀ b∈bs,0<=b/\b<(n:Int)):Good n (Zf d rest own bs).1 (Zf d rest own bs).2/\(Zf d rest own bs).2.length+Zn (Zf d rest own bs).1=rest.length+Zn d:=by
 obtain⟨o1,o2,o3⟩:=G.mem own List.mem_cons_self
 obtain⟨v1,v2,v3,v4,ns,v5,v6,v7,v8⟩:=ZO n own o1 bs d rest G.len o3 hr
 refine⟨⟨by rw[v1];exact G.len,Z8 n own o1 bs d rest G.len G.bnd o3 hr,fun x hx=>?_⟩,by rw[v5,List.length_append];omega⟩
 rw[v5] at hx
 rcases List.mem_append.mp hx with h|h
 ·obtain⟨x1,x2,x3⟩:=G.mem x (List.mem_cons_of_mem _ h)
  exact⟨x1,x2,by rw[v2 x x1 x3];exact x3⟩
 ·obtain⟨h1,h2⟩:=v7 x h
  exact⟨(hr x h1).1,(hr x h1).2,by omega⟩
theorem ZZ (own:Int) (j:Nat):∀ (bs d q:List Int),j<=q.length->(Zf d q own bs).1=(Zf d (q.drop j) own bs).1/\(Zf d q own bs).2.drop j=(Zf d (q.drop j) own bs).2/\q.length<=(Zf d q own bs).2.length
 |[],d,q,h=>⟨rfl,rfl,Nat.le_refl _⟩
 |b :: bs,d,q,h=>by
  unfold Zf
  by_cases c:rd d b<0
  ·rw[if_pos c,if_pos c]
   have h1:=ZZ own j bs (d.set b.toNat (rd d own+1)) (q++[b]) (by simp;omega)
   rw[List.drop_append_of_le_length h] at h1
   refine⟨h1.1,h1.2.1,?_⟩
   have:=h1.2.2
   simp only[List.length_append,List.length_cons,List.length_nil] at this
   omega
  ·rw[if_neg c,if_neg c]
   exact ZZ own j bs d q h
theorem Zcc (W H:Int) (xs:List Int) (n:Nat) (hn:n<=64) (own:Int) (ho:0<=own) (bs:List Int) (hb4:bs.length<=4) (hr:∀ b∈bs,0<=b/\b<(n:Int)) (hon:own<(n:Int)) (K:Nat) (r:List Int) :
  ∀ (e:Nat) (i:Int) (d q:List Int),0<=i->(bs.length:Int)-i=e->d.length=n->(∀ v,0<=v->rd d v+(Zn d:Int)+1<=(n:Int))->0<=rd d own->q.length+Zn d<=200 ->
  (∀ k,K<k->impl_distances.l2 k (Zf d q own (bs.drop i.toNat)).1 (Zf d q own (bs.drop i.toNat)).2 W H xs=some r) ->
  ∀ k,K+e+1<k->impl_distances.l3 k d q own bs (bs.length:Int) i W H xs=some r:=by
 intro e
 induction e with
 |zero =>
  intro i d q h0 hd hl hb hown hq hk2 k hk
  obtain⟨k,rfl⟩:∃ j,k=j+1:=⟨k-1,by omega⟩
  have hlt:¬ i<(bs.length:Int):=by omega
  rw[List.drop_eq_nil_of_le Om] at hk2
  rw[impl_distances.l3,if_neg hlt]
  exact hk2 k Om
 |succ e ih =>
  intro i d q h0 hd hl hb hown hq hk2 k hk
  obtain⟨k,rfl⟩:∃ j,k=j+1:=⟨k-1,by omega⟩
  have hlt:i<(bs.length:Int):=by omega
  have hw:wrap64 (i+1)=i+1:=Yw
  have hmem:rd bs i∈bs:=by
   have h1:i.toNat<bs.length:=by omega
   unfold rd
   rw[List.getD_eq_getElem?_getD,List.getElem?_eq_getElem h1]
   exact List.getElem_mem h1
  obtain⟨b0,b1⟩:=hr _ hmem
  rw[ZB 0 bs i h0 hlt,show bs.getD i.toNat 0=rd bs i from rfl] at hk2
  unfold Zf at hk2
  have hd1:rd bs i<(d.length:Int):=by omega
  have hd2:own<(d.length:Int):=by omega
  have hq1:q.length<17592186044416:=by omega
  have hbo:=hb own ho
  have hw2:wrap64 (rd d own+1)=rd d own+1:=Yw
  simp only[impl_distances.l3,if_pos hlt,if_pos h0,if_pos b0,if_pos hd1,if_pos ho,if_pos hd2,if_pos hq1,hw,hw2]
  by_cases c:rd d (rd bs i)<0
  ·rw[if_pos c]
   rw[if_pos c] at hk2
   have hne:own≠rd bs i:=fun e=>by rw[e] at hown;omega
   have h2:rd (d.set (rd bs i).toNat (rd d own+1)) own=rd d own:=by rw[ZF d _ own _ b0 Om ho,if_neg hne]
   have h3:=ZG d (rd bs i).toNat (rd d own+1) Om c Om
   exact ih (i+1) _ _ Om Om (by simpa using hl) (Zya hl hb ho hown b0 b1 c) (by rw[h2];exact hown) (by simp only[List.length_append,List.length_cons,List.length_nil];omega) hk2 k Om
  ·rw[if_neg c]
   rw[if_neg c] at hk2
   exact ih (i+1) d q Om Om hl hb hown hq hk2 k Om
theorem Z9b (W H:Int) (xs:List Int) (n:Nat) (hn:n<=64) (own:Int) (ho:0<=own) (bs:List Int) (hb4:bs.length<=4) (hr:∀ b∈bs,0<=b/\b<(n:Int)) (hon:own<(n:Int)) (K:Nat) (r:List Int) (p:Int) (hp0:0<=p) (hp1:p<=200) :
  ∀ (e:Nat) (i:Int) (d Q:List Int),0<=i->(bs.length:Int)-i=e->d.length=n->(∀ v,0<=v->rd d v+(Zn d:Int)+1<=(n:Int))->0<=rd d own->Q.length+Zn d<=200->p<(Q.length:Int)->rd Q p=own ->
  (∀ k,K<k->spec_l5From.l1 k (Zf d Q own (bs.drop i.toNat)).1 (Zf d Q own (bs.drop i.toNat)).2 (p+1) W H xs=some r) ->
  ∀ k,K+e+1<k->spec_l5From.l2 k d Q p bs i W H xs=some r:=by
 intro e
 induction e with
 |zero =>
  intro i d q h0 hd hl hb hown hq hpq hpo hk2 k hk
  obtain⟨k,rfl⟩:∃ j,k=j+1:=⟨k-1,by omega⟩
  have hlt:¬ i<(bs.length:Int):=by omega
  rw[List.drop_eq_nil_of_le Om] at hk2
  rw[spec_l5From.l2,if_neg hlt,show wrap64 (p+1)=p+1 by unfold wrap64;omega]
  exact hk2 k Om
 |succ e ih =>
  intro i d q h0 hd hl hb hown hq hpq hpo hk2 k hk
  obtain⟨k,rfl⟩:∃ j,k=j+1:=⟨k-1,by omega⟩
  have hlt:i<(bs.length:Int):=by omega
  have hw:wrap64 (i+1)=i+1:=Yw
  have hmem:rd bs i∈bs:=by
   have h1:i.toNat<bs.length:=by omega
   unfold rd
   rw[List.getD_eq_getElem?_getD,List.getElem?_eq_getElem h1]
   exact List.getElem_mem h1
  obtain⟨b0,b1⟩:=hr _ hmem
  rw[ZB 0 bs i h0 hlt,show bs.getD i.toNat 0=rd bs i from rfl] at hk2
  unfold Zf at hk2
  have hd1:rd bs i<(d.length:Int):=by omega
  have hd2:own<(d.length:Int):=by omega
  have hq1:q.length<17592186044416:=by omega
  have hbo:=hb own ho
  have hw2:wrap64 (rd d own+1)=rd d own+1:=Yw
  simp only[spec_l5From.l2,if_pos hlt,if_pos h0,if_pos b0,if_pos hd1,if_pos hp0,if_pos hpq,hpo,if_pos ho,if_pos hd2,if_pos hq1,hw,hw2]
  by_cases c:rd d (rd bs i)<0
  ·rw[if_pos c]
   rw[if_pos c] at hk2
   have hne:own≠rd bs i:=fun e=>by rw[e] at hown;omega
   have h2:rd (d.set (rd bs i).toNat (rd d own+1)) own=rd d own:=by rw[ZF d _ own _ b0 Om ho,if_neg hne]
   have h3:=ZG d (rd bs i).toNat (rd d own+1) Om c Om
   refine ih (i+1) _ _ Om Om (by simpa using hl) (Zya hl hb ho hown b0 b1 c) (by rw[h2];exact hown) (by simp only[List.length_append,List.length_cons,List.length_nil];omega) (by simp only[List.length_append,List.length_cons,List.length_nil];omega) ?_ hk2 k Om
   have h4:p.toNat<q.length:=by omega
   unfold rd at hpo ⊢
   rw[List.getD_eq_getElem?_getD,List.getElem?_append_left h4,<-List.getD_eq_getElem?_getD]
   exact hpo
  ·rw[if_neg c]
   rw[if_neg c] at hk2
   exact ih (i+1) d q Om Om hl hb hown hq hpq hpo hk2 k Om
theorem ZZb {W H:Int} {xs:List Int} (L:LandOk W H xs):∀ (f:Nat) (d q:List Int),Good xs.length d q->q.length+Zn d<=f->f<=64->∀ k,110+8 * f<k->impl_distances.l2 k d q W H xs=some (bfs (Ze W xs) f d q):=by
 intro f
 induction f with
 |zero =>
  intro d q G hf _ k hk
  obtain⟨k,rfl⟩:∃ j,k=j+1:=⟨k-1,by omega⟩
  have:q=[]:=List.eq_nil_of_length_eq_zero Om
  subst this
  simp[impl_distances.l2,bfs]
 |succ f ih =>
  intro d q G hf hf6 k hk
  obtain⟨k,rfl⟩:∃ j,k=j+1:=⟨k-1,by omega⟩
  cases q with
  |nil=>simp[impl_distances.l2,bfs]
  |cons own rest =>
   obtain⟨o1,o2,o3⟩:=G.mem own List.mem_cons_self
   have hle:=L.le
   have hr:∀ b∈Ze W xs own,0<=b/\b<(xs.length:Int):=fun b hb=>Za (Zz L ⟨o1,o2⟩ b hb)
   have g:=Z4 G hr
   have hlen:(own :: rest).length=rest.length+1:=rfl
   have c1:((own :: rest).length:Int)>0:=by omega
   have c2:(1:Int)<=((own :: rest).length:Int):=by omega
   have e1:rd (own :: rest) 0=own:=rfl
   have e2:(own :: rest).drop (1:Int).toNat=rest:=rfl
   rw[impl_distances.l2,if_pos c1,if_pos c1,if_pos c2,e1,e2,ZAa L own ⟨o1,o2⟩ k Om,Ob]
   have h4:=Z6 W own xs
   refine Zcc W H xs xs.length hle own o1 (Ze W xs own) h4 hr o2 (110+8 * f) _ (Ze W xs own).length 0 d rest Om Om G.len G.bnd o3 Om (fun k hk=>?_) k Om
   rw[Int.toNat_zero,List.drop_zero]
   rw[ih _ _ g.1 Om Om k hk]
   rfl
theorem Z5b {W H:Int} {xs:List Int} (L:LandOk W H xs):∀ (f:Nat) (d Q:List Int) (p:Int),0<=p->p<=(Q.length:Int)->Q.length+Zn d<=64->Good xs.length d (Q.drop p.toNat)->(Q.drop p.toNat).length+Zn d<=f->f<=64->∀ k,110+8 * f<k->spec_l5From.l1 k d Q p W H xs=some (bfs (Ze W xs) f d (Q.drop p.toNat)):=by
 intro f
 induction f with
 |zero =>
  intro d Q p hp0 hp1 hQ G hf _ k hk
  obtain⟨k,rfl⟩:∃ j,k=j+1:=⟨k-1,by omega⟩
  rw[List.length_drop] at hf
  have c:¬ p<(Q.length:Int):=by omega
  rw[spec_l5From.l1,if_neg c]
  rfl
 |succ f ih =>
  intro d Q p hp0 hp1 hQ G hf hf6 k hk
  obtain⟨k,rfl⟩:∃ j,k=j+1:=⟨k-1,by omega⟩
  by_cases c:p<(Q.length:Int)
  ·have hcons:=ZB 0 Q p hp0 c
   obtain⟨own,hown⟩:∃ own,own=rd Q p:=⟨_,rfl⟩
   rw[show Q.getD p.toNat 0=own from hown.symm] at hcons
   rw[hcons] at G hf ⊢
   obtain⟨rest,hrest⟩:∃ rest,rest=Q.drop (p+1).toNat:=⟨_,rfl⟩
   rw[<-hrest] at G hf ⊢
   obtain⟨o1,o2,o3⟩:=G.mem own List.mem_cons_self
   have hle:=L.le
   have hr:∀ b∈Ze W xs own,0<=b/\b<(xs.length:Int):=fun b hb=>Za (Zz L ⟨o1,o2⟩ b hb)
   have g:=Z4 G hr
   have hlen:(own :: rest).length=rest.length+1:=rfl
   have h4:=Z6 W own xs
   have vd:=ZZ own (p+1).toNat (Ze W xs own) d Q Om
   rw[<-hrest] at vd
   rw[spec_l5From.l1,if_pos c,if_pos hp0,<-hown,Zaa L own ⟨o1,o2⟩ k Om,Ob]
   refine Z9b W H xs xs.length hle own o1 (Ze W xs own) h4 hr o2 (110+8 * f) _ p hp0 Om (Ze W xs own).length 0 d Q Om Om G.len G.bnd o3 Om c hown.symm (fun k hk=>?_) k Om
   rw[Int.toNat_zero,List.drop_zero]
   have v6:(Zf d Q own (Ze W xs own)).2.length+Zn (Zf d Q own (Ze W xs own)).1=Q.length+Zn d:=by
    have e1:=g.2
    rw[<-vd.2.1,<-vd.1,List.length_drop] at e1
    rw[hrest,List.length_drop] at e1
    have:=vd.2.2
    omega
   rw[ih _ _ (p+1) Om (by have:=vd.2.2;omega) Om (by rw[vd.1,vd.2.1];exact g.1) (by rw[vd.1,vd.2.1];omega) Om k hk,vd.1,vd.2.1]
   rfl
  ·rw[spec_l5From.l1,if_neg c,List.drop_eq_nil_of_le Om]
   rfl
theorem ZYa:∀ n:Nat,Zn (List.replicate n (-1))=n
 |0=>rfl
 |n+1=>by
  rw[List.replicate_succ,Zn,ZYa n]
  simp
  omega
theorem Z2a (n:Nat) (v:Int) (hv:0<=v):rd (List.replicate n (-1)) v=if v<(n:Int) then -1 else 0:=by
 unfold rd
 rw[List.getD_eq_getElem?_getD,List.getElem?_replicate]
 by_cases h:v<(n:Int)
 ·rw[if_pos h,if_pos Om];rfl
 ·rw[if_neg h,if_neg Om];rfl
def Zb (W:Int) (xs:List Int) (a:Int):List Int:=bfs (Ze W xs) xs.length ((List.replicate xs.length (-1)).set a.toNat 0) [a]
theorem Zda {n:Nat} {a:Int} (ha:0<=a/\a<(n:Int)):Good n ((List.replicate n (-1)).set a.toNat 0) [a]/\Zn ((List.replicate n (-1)).set a.toNat 0)+1=n/\∀ v,0<=v->rd ((List.replicate n (-1)).set a.toNat 0) v=if v=a then 0 else if v<(n:Int) then -1 else 0:=by
 have h1:=ZG (List.replicate n (-1)) a.toNat 0 (by simp;omega) (by have:=Z2a n a ha.1;unfold rd at this;rw[this,if_pos ha.2];omega) Om
 rw[ZYa] at h1
 have hr:∀ v,0<=v->rd ((List.replicate n (-1)).set a.toNat 0) v=if v=a then 0 else if v<(n:Int) then -1 else 0:=fun v hv=>by
  rw[ZF _ a v 0 ha.1 (by simp;omega) hv,Z2a n v hv]
 refine⟨⟨by simp,fun v hv=>?_,fun x hx=>?_⟩,h1,hr⟩
 ·rw[hr v hv];split
  ·omega
  ·split <;> omega
 ·rw[List.mem_singleton] at hx
  subst hx
  rw[hr x ha.1,if_pos rfl]
  exact⟨ha.1,ha.2,by omega⟩
theorem Zm {W H a:Int} {xs:List Int} (L:LandOk W H xs) (ha:0<=a/\a<(xs.length:Int)):BEnd (Ze W xs) xs.length a (Zb W xs a):=by
 obtain⟨g,g2,hr⟩:=Zda ha
 refine ZUb (Ze W xs) xs.length a ha.1 ha.2 (fun u h0 h1 v hv=>Za (Zz L ⟨h0,h1⟩ v hv)) xs.length _ [a] 0 ⟨g.len,by omega,by rw[hr a ha.1,if_pos rfl],fun v hv h1 h2=>?_,⟨[a],[],rfl,fun x hx=>?_,fun x hx=>(by cases hx)⟩,fun v hv=>?_,fun v hv h1 h2 h3=>?_,fun u hu h1 h2 h3=>?_⟩ (by simp only[List.length_cons,List.length_nil];omega)
 ·rw[hr v hv] at h2
  by_cases e:v=a
  ·exact e
  ·rw[if_neg e,if_pos h1] at h2;omega
 ·rw[List.mem_singleton] at hx
  subst hx
  exact⟨ha.1,ha.2,by rw[hr x ha.1,if_pos rfl]⟩
 ·rw[hr v hv];split
  ·omega
  ·split <;> omega
 ·rw[hr v hv,if_neg h3,if_pos h1] at h2;omega
 ·have:u≠a:=fun e=>h3 (by rw[e];exact List.mem_singleton.mpr rfl)
  rw[hr u hu,if_neg this,if_pos h1] at h2;omega
theorem Zhb {W H:Int} {xs:List Int} (L:LandOk W H xs):∀ (f:Nat) (d q:List Int),Good xs.length d q->∀ v,0<=v->rd (bfs (Ze W xs) f d q) v+1<=(xs.length:Int)
 |0,d,q,G,v,hv=>by have:=G.bnd v hv;simp only[bfs];omega
 |f+1,d,[],G,v,hv=>by have:=G.bnd v hv;simp only[bfs];omega
 |f+1,d,own :: rest,G,v,hv=>by
  obtain⟨o1,o2,o3⟩:=G.mem own List.mem_cons_self
  exact Zhb L f _ _ (Z4 G (fun b hb=>Za (Zz L ⟨o1,o2⟩ b hb))).1 v hv
theorem ZWa {W H a:Int} {xs:List Int} (L:LandOk W H xs) (ha:0<=a/\a<(xs.length:Int)) (v:Int) (hv:0<=v):rd (Zb W xs a) v<=63:=by
 have:=Zhb L xs.length _ _ (Zda ha).1 v hv
 have:=L.le
 unfold Zb;omega
theorem ZX {W H:Int} {xs:List Int} (L:LandOk W H xs) (a:Int) (ha:opn xs a=true) (k:Nat) (hk:1000<k):impl_distances.f k W H xs [a]=some (Zb W xs a)/\spec_l5From.f k W H xs a=some (Zb W xs a):=by
 obtain⟨a0,a1⟩:=Za ha
 have hle:=L.le
 obtain⟨g,g2,hr⟩:=Zda (n:=xs.length) ⟨a0,a1⟩
 have build:∀ (e:Nat) (i:Int),0<=i->(xs.length:Int)-i=e->(∀ k,800+e<k->impl_distances.l0 k [a] (List.replicate i.toNat (-1)) (xs.length:Int) i W H xs=some (Zb W xs a))/\(∀ k,800+e<k->spec_l5From.l0 k a (List.replicate i.toNat (-1)) i W H xs=some (Zb W xs a)):=by
  intro e
  induction e with
  |zero =>
   intro i h0 hd
   have hlt:¬ i<(xs.length:Int):=by omega
   have hi:i.toNat=xs.length:=by omega
   have r1:rd (List.replicate xs.length (-1)) a<0:=by rw[Z2a _ a a0,if_pos a1];omega
   have hlen:((List.replicate xs.length (-1:Int)).length:Int)=xs.length:=by simp
   constructor
   ·intro k hk
    obtain⟨k,rfl⟩:∃ j,k=j+3:=⟨k-3,by omega⟩
    have w1:wrap64 (0+1)=1:=Yw
    have q1:([]:List Int).length<17592186044416:=by simp
    have q2:(0:Int)<(([a]:List Int).length:Int):=by simp
    have q3:¬ (1:Int)<(([a]:List Int).length:Int):=by simp
    have e1:rd [a] 0=a:=rfl
    have hlt2:a<((List.replicate xs.length (-1:Int)).length:Int):=by omega
    rw[impl_distances.l0,if_neg hlt,hi,impl_distances.l1,if_pos q2,if_pos (show (0:Int)<=0 by omega),if_pos q2,e1,(Zq L a (k+1) Om).1,Ob,if_pos ha,if_pos a0,if_pos hlt2,if_pos r1,if_pos q1,w1,impl_distances.l1,if_neg q3]
    exact ZZb L xs.length _ [a] g (by simp only[List.length_cons,List.length_nil];omega) hle k Om
   ·intro k hk
    obtain⟨k,rfl⟩:∃ j,k=j+1:=⟨k-1,by omega⟩
    have hlt2:a<((List.replicate xs.length (-1:Int)).length:Int):=by omega
    rw[spec_l5From.l0,if_neg hlt,hi,if_pos a0,if_pos hlt2]
    exact Z5b L xs.length _ [a] 0 Om (by simp) (by simp only[List.length_cons,List.length_nil];omega) g (by simp only[Int.toNat_zero,List.drop_zero,List.length_cons,List.length_nil];omega) hle k Om
  |succ e ih =>
   intro i h0 hd
   obtain⟨i1,i2⟩:=ih (i+1) Om Om
   have hlt:i<(xs.length:Int):=by omega
   have hw:wrap64 (i+1)=i+1:=Yw
   have hrep:List.replicate i.toNat (-1:Int)++[-1]=List.replicate (i+1).toNat (-1):=by
    rw[show (i+1).toNat=i.toNat+1 by omega,List.replicate_succ']
   have q1:(List.replicate i.toNat (-1:Int)).length<17592186044416:=by simp;omega
   constructor
   ·intro k hk
    obtain⟨k,rfl⟩:∃ j,k=j+1:=⟨k-1,by omega⟩
    rw[impl_distances.l0,if_pos hlt,if_pos q1,hw,hrep]
    exact i1 k Om
   ·intro k hk
    obtain⟨k,rfl⟩:∃ j,k=j+1:=⟨k-1,by omega⟩
    rw[spec_l5From.l0,if_pos hlt,if_pos q1,hw,hrep]
    exact i2 k Om
 obtain⟨b1,b2⟩:=build xs.length 0 Om Om
 unfold impl_distances.f spec_l5From.f
 exact⟨b1 k Om,b2 k Om⟩
theorem Zdb {W H:Int} {xs:List Int} (L:LandOk W H xs) (a b:Int) (k:Nat) (hk:1000<k):impl_Days.f k W H xs a b=some (if opn xs a=true/\opn xs b=true then rd (Zb W xs a) b else -1)/\spec_Days.f k W H xs a b=some (if opn xs a=true/\opn xs b=true then rd (Zb W xs a) b else -1):=by
 unfold impl_Days.f spec_Days.f
 simp only[(Zq L a k Om).1,(Zq L a k Om).2,(Zq L b k Om).1,(Zq L b k Om).2,Ob]
 by_cases ha:opn xs a=true
 ·by_cases hb:opn xs b=true
  ·have hbr:=Za hb
   have hl:b<((Zb W xs a).length:Int):=by rw[(Zm L (Za ha)).len];exact hbr.2
   simp only[ha,hb,if_true,(ZX L a ha k hk).1,(ZX L a ha k hk).2,Ob,if_pos hbr.1,if_pos hl,and_self]
  ·simp only[ha,hb,if_true,if_false,and_false]
   exact⟨rfl,rfl⟩
 ·simp only[ha,if_false,false_and]
  exact⟨rfl,rfl⟩
def Z1a (W:Int) (xs d:List Int) (m now:Int):Int:=((Ze W xs now).find? (fun c=>rd d c==m)).getD now
def ZP (W:Int) (xs d:List Int):Nat->Int->List Int
 |0,now=>[now]
 |m+1,now=>now :: ZP W xs d m (Z1a W xs d (m:Int) now)
theorem ZH (W:Int) (xs d:List Int):∀ (m:Nat) (now:Int),(ZP W xs d m now).length=m+1
 |0,now=>rfl
 |m+1,now=>by rw[ZP,List.length_cons,ZH W xs d m]
theorem Z0 {W H b now:Int} {xs:List Int} (L:LandOk W H xs) (hb:opn xs b=true) (hn:opn xs now=true) (h0:0<=rd (Zb W xs b) now):∀ c∈Ze W xs now,opn xs c=true/\rd (Zb W xs b) now-1<=rd (Zb W xs b) c/\0<=rd (Zb W xs b) c:=by
 intro c hc
 have B:=Zm L (Za hb)
 have hco:=Zz L (Za hn) c hc
 obtain⟨h1,h2⟩:=B.done now (Za hn).1 (Za hn).2 h0 c hc
 obtain⟨h3,h4⟩:=B.done c (Za hco).1 (Za hco).2 h1 now (Zna L hn hc)
 exact⟨hco,by omega,h1⟩
theorem Zha {W H b now:Int} {xs:List Int} (L:LandOk W H xs) (hb:opn xs b=true) (hn:opn xs now=true) (m:Nat) (hm:rd (Zb W xs b) now=(m:Int)+1) :
  ∃ c,(Ze W xs now).find? (fun c=>rd (Zb W xs b) c==(m:Int))=some c/\Z1a W xs (Zb W xs b) m now=c/\c∈Ze W xs now/\opn xs c=true/\rd (Zb W xs b) c=m:=by
 have B:=Zm L (Za hb)
 have hne:now≠b:=fun e=>by rw[e,B.src0] at hm;omega
 obtain⟨u,u0,u1,u2,u3,u4⟩:=B.from_ now (Za hn).1 (Za hn).2 Om hne
 have huo:opn xs u=true:=by
  by_cases e:u=b
  ·rw[e];exact hb
  ·obtain⟨t,t0,t1,t2,_⟩:=B.from_ u u0 u1 u3 e
   exact Zz L ⟨t0,t1⟩ u t2
 have hu:=Zna L huo u2
 cases hf:(Ze W xs now).find? (fun c=>rd (Zb W xs b) c==(m:Int)) with
 |none =>
  exfalso
  have:=List.find?_eq_none.mp hf u hu
  simp only[beq_iff_eq] at this
  omega
 |some c =>
  have h1:=List.find?_some hf
  simp only[beq_iff_eq] at h1
  have h2:=List.mem_of_find?_eq_some hf
  exact⟨c,rfl,by unfold Z1a;rw[hf];rfl,h2,Zz L (Za hn) c h2,h1⟩
theorem Zac {W H:Int} {xs d:List Int} (b now m:Int) (out bs:List Int) (hout:out.length<=1000) (hb4:bs.length<=4) (hn0:0<=now/\now<(d.length:Int)) (hm:rd d now=m+1) (hbs:∀ c∈bs,(0<=c/\c<(d.length:Int))/\m<=rd d c) (c:Int) (K:Nat) (r:List Int) (hr:∀ k,K<k->impl_WayTo.l0 k b d (out++[c]) c W H xs=some r) :
  ∀ (e:Nat) (i:Int),0<=i->(bs.length:Int)-i=e->(bs.drop i.toNat).find? (fun c=>rd d c==m)=some c->∀ k,K+e+1<k->impl_WayTo.l1 k b d out now bs (bs.length:Int) i W H xs=some r:=by
 intro e
 induction e with
 |zero =>
  intro i h0 hd hf k hk
  rw[List.drop_eq_nil_of_le Om] at hf
  cases hf
 |succ e ih =>
  intro i h0 hd hf k hk
  obtain⟨k,rfl⟩:∃ j,k=j+1:=⟨k-1,by omega⟩
  have hlt:i<(bs.length:Int):=by omega
  have hw:wrap64 (i+1)=i+1:=Yw
  have hmem:rd bs i∈bs:=by
   have h1:i.toNat<bs.length:=by omega
   unfold rd
   rw[List.getD_eq_getElem?_getD,List.getElem?_eq_getElem h1]
   exact List.getElem_mem h1
  obtain⟨⟨b0,b1⟩,b2⟩:=hbs _ hmem
  have q1:out.length<17592186044416:=by omega
  rw[ZB 0 bs i h0 hlt,show bs.getD i.toNat 0=rd bs i from rfl,List.find?_cons] at hf
  simp only[impl_WayTo.l1,if_pos hlt,if_pos h0,if_pos b0,if_pos b1,if_pos hn0.1,if_pos hn0.2,if_pos q1,hw]
  by_cases e2:rd d (rd bs i)=m
  ·have:(rd d (rd bs i)==m)=true:=by simp[e2]
   rw[this] at hf
   simp only[Option.some.injEq] at hf
   rw[if_pos Om,hf]
   exact hr k Om
  ·have:(rd d (rd bs i)==m)=false:=by simp[e2]
   rw[this] at hf
   rw[if_neg Om]
   exact ih (i+1) Om Om hf k Om
theorem ZEb {W H:Int} {xs d:List Int} (b now m:Int) (out bs:List Int) (hout:out.length<=1000) (hout0:1<=out.length) (hlast:rd out ((out.length:Int)-1)=now) (hb4:bs.length<=4) (hn0:0<=now/\now<(d.length:Int)) (hm:rd d now=m+1) (hmb:0<=m/\m<=1000) (hbs:∀ c∈bs,0<=c/\c<(d.length:Int)) (c:Int) (hc:bs.find? (fun c=>rd d c==m)=some c) (K:Nat) (r:List Int) (hr:∀ k,K<k->spec_WayTo.l0 k c b (out++[c]) d W H xs=some r) :
  ∀ (e:Nat) (cur:Int),e<=bs.length->cur=((bs.drop e).find? (fun c=>rd d c==m)).getD now->∀ k,K+e+1<k->spec_WayTo.l1 k cur b out d bs ((e:Int)-1) W H xs=some r:=by
 have q1:out.length<17592186044416:=by omega
 intro e
 induction e with
 |zero =>
  intro cur he hcur k hk
  obtain⟨k,rfl⟩:∃ j,k=j+1:=⟨k-1,by omega⟩
  rw[List.drop_zero,hc] at hcur
  have hcur2:cur=c:=hcur
  have hlt:¬ ((0:Nat):Int)-1>=0:=by omega
  rw[spec_WayTo.l1,if_neg hlt,if_pos q1,hcur2]
  exact hr k Om
 |succ e ih =>
  intro cur he hcur k hk
  obtain⟨k,rfl⟩:∃ j,k=j+1:=⟨k-1,by omega⟩
  have ee:((e+1:Nat):Int)-1=(e:Int):=by omega
  rw[ee]
  have h0:(e:Int)>=0:=by omega
  have h0':0<=(e:Int):=by omega
  have hlt:(e:Int)<(bs.length:Int):=by omega
  have hw:wrap64 ((e:Int)-1)=(e:Int)-1:=Yw
  have hw2:wrap64 ((out.length:Int)-1)=(out.length:Int)-1:=Yw
  have hw3:wrap64 (rd d now-1)=m:=Yw
  have hmem:rd bs (e:Int)∈bs:=by
   have h1:((e:Int)).toNat<bs.length:=by omega
   unfold rd
   rw[List.getD_eq_getElem?_getD,List.getElem?_eq_getElem h1]
   exact List.getElem_mem h1
  obtain⟨b0,b1⟩:=hbs _ hmem
  have l0:0<=(out.length:Int)-1:=by omega
  have l1:(out.length:Int)-1<(out.length:Int):=by omega
  have hdrop:((bs.drop e).find? (fun c=>rd d c==m))=if rd d (rd bs (e:Int))=m then some (rd bs (e:Int)) else(bs.drop (e+1)).find? (fun c=>rd d c==m):=by
   have:=ZB 0 bs (e:Int) Om hlt
   rw[show ((e:Int)).toNat=e by omega,show ((e:Int)+1).toNat=e+1 by omega] at this
   rw[this,List.find?_cons,show bs.getD e 0=rd bs (e:Int) from rfl]
   by_cases e2:rd d (rd bs (e:Int))=m
   ·simp[e2]
   ·have e3:(rd d (rd bs (e:Int))==m)=false:=by simp[e2]
    rw[e3,if_neg e2]
  simp only[spec_WayTo.l1,if_pos h0,if_pos h0',if_pos hlt,if_pos b0,if_pos b1,hw2,if_pos l0,if_pos l1,hlast,if_pos hn0.1,if_pos hn0.2,hw3,hw]
  by_cases e2:rd d (rd bs (e:Int))=m
  ·rw[if_pos e2]
   exact ih _ Om (by rw[hdrop,if_pos e2];rfl) k Om
  ·rw[if_neg e2]
   exact ih _ Om (by rw[hdrop,if_neg e2];exact hcur) k Om
theorem ZSb {W H b:Int} {xs:List Int} (L:LandOk W H xs) (hb:opn xs b=true):∀ (m:Nat) (now:Int) (init:List Int),opn xs now=true->rd (Zb W xs b) now=(m:Int)->init.length+m<=200 ->
  ∀ k,200+10 * m<k->impl_WayTo.l0 k b (Zb W xs b) (init++[now]) now W H xs=some (init++ZP W xs (Zb W xs b) m now)/\spec_WayTo.l0 k now b (init++[now]) (Zb W xs b) W H xs=some (init++ZP W xs (Zb W xs b) m now):=by
 have B:=Zm L (Za hb)
 intro m
 induction m with
 |zero =>
  intro now init hn hm hl k hk
  obtain⟨k,rfl⟩:∃ j,k=j+1:=⟨k-1,by omega⟩
  have e:now=b:=B.zero now (Za hn).1 (Za hn).2 Om
  rw[impl_WayTo.l0,spec_WayTo.l0,if_pos e,if_pos e]
  exact⟨rfl,rfl⟩
 |succ m ih =>
  intro now init hn hm hl k hk
  obtain⟨k,rfl⟩:∃ j,k=j+1:=⟨k-1,by omega⟩
  have hm':rd (Zb W xs b) now=(m:Int)+1:=by omega
  obtain⟨c,c1,c2,c3,c4,c5⟩:=Zha L hb hn m hm'
  have hne:¬ now=b:=fun e=>by rw[e,B.src0] at hm;omega
  have hsub:=Z0 L hb hn Om
  have hlen:=B.len
  have hnr:=Za hn
  have h4:=Z6 W now xs
  have ihc:=fun k hk=>ih c (init++[now]) c4 c5 (by simp only[List.length_append,List.length_cons,List.length_nil];omega) k hk
  rw[ZP,c2]
  rw[show init++now :: ZP W xs (Zb W xs b) m c=(init++[now])++ZP W xs (Zb W xs b) m c by simp]
  constructor
  ·rw[impl_WayTo.l0,if_neg hne,ZAa L now hnr k Om,Ob]
   exact Zac b now (m:Int) (init++[now]) (Ze W xs now) (by simp only[List.length_append,List.length_cons,List.length_nil];omega) h4 ⟨hnr.1,by rw[hlen];exact hnr.2⟩ hm' (fun x hx=>⟨⟨(Za (hsub x hx).1).1,by rw[hlen];exact(Za (hsub x hx).1).2⟩,by have:=(hsub x hx).2.1;omega⟩) c (200+10 * m) _ (fun k hk=>(ihc k hk).1) (Ze W xs now).length 0 Om Om (by rw[Int.toNat_zero,List.drop_zero];exact c1) k Om
  ·rw[spec_WayTo.l0,if_neg hne,Zaa L now hnr k Om,Ob,show wrap64 (((Ze W xs now).length:Int)-1)=((Ze W xs now).length:Int)-1 by unfold wrap64;omega]
   exact ZEb b now (m:Int) (init++[now]) (Ze W xs now) (by simp only[List.length_append,List.length_cons,List.length_nil];omega) (by simp) (by simp[rd]) h4 ⟨hnr.1,by rw[hlen];exact hnr.2⟩ hm' ⟨by omega,by omega⟩ (fun x hx=>⟨(Za (hsub x hx).1).1,by rw[hlen];exact(Za (hsub x hx).1).2⟩) c c1 (200+10 * m) _ (fun k hk=>(ihc k hk).2) (Ze W xs now).length now Om (by simp) k Om
def Zv (W:Int) (xs:List Int) (a b:Int):List Int:=if (opn xs a=true/\opn xs b=true)/\0<=rd (Zb W xs a) b then ZP W xs (Zb W xs b) (rd (Zb W xs b) a).toNat a else []
theorem Znb {W H a b:Int} {xs:List Int} (L:LandOk W H xs) (ha:opn xs a=true) (hb:opn xs b=true):∀ (m:Nat) (v:Int),opn xs v=true->rd (Zb W xs a) v=(m:Int)->0<=rd (Zb W xs b) v->0<=rd (Zb W xs b) a:=by
 intro m
 induction m with
 |zero =>
  intro v hv hm h
  rw[<-(Zm L (Za ha)).zero v (Za hv).1 (Za hv).2 Om]
  exact h
 |succ m ih =>
  intro v hv hm h
  obtain⟨c,c1,c2,c3,c4,c5⟩:=Zha L ha hv m Om
  exact ih c c4 c5 ((Z0 L hb hv h c c3).2.2)
theorem ZK {W H a b:Int} {xs:List Int} (L:LandOk W H xs) (ha:opn xs a=true) (hb:opn xs b=true) (h:0<=rd (Zb W xs a) b):0<=rd (Zb W xs b) a:=by
 refine Znb L ha hb (rd (Zb W xs a) b).toNat b hb Om ?_
 rw[(Zm L (Za hb)).src0];omega
theorem ZSa {W H:Int} {xs:List Int} (L:LandOk W H xs) (a b:Int) (k:Nat) (hk:1000<k):impl_WayTo.f k W H xs a b=some (Zv W xs a b)/\spec_WayTo.f k W H xs a b=some (Zv W xs a b):=by
 obtain⟨d1,d2⟩:=Zdb L a b k hk
 unfold impl_WayTo.f spec_WayTo.f Zv
 rw[d1,d2]
 by_cases h:opn xs a=true/\opn xs b=true
 ·simp only[Ob,if_pos h]
  by_cases h0:0<=rd (Zb W xs a) b
  ·have h1:¬ rd (Zb W xs a) b<0:=by omega
   have h2:=ZK L h.1 h.2 h0
   have h3:=ZWa L (Za h.2) a (Za h.1).1
   have q:([]:List Int).length<17592186044416:=by simp
   obtain⟨w1,w2⟩:=ZSb L h.2 (rd (Zb W xs b) a).toNat a [] h.1 Om (by simp only[List.length_nil];omega) k Om
   rw[if_neg h1,if_neg h1,(ZX L b h.2 k hk).1,(ZX L b h.2 k hk).2,Ob,Ob,if_pos q,if_pos ⟨h,h0⟩]
   exact⟨w1,w2⟩
  ·have h1:rd (Zb W xs a) b<0:=by omega
   rw[if_pos h1,if_pos h1,if_neg (fun h2=>h0 h2.2)]
   exact⟨rfl,rfl⟩
 ·simp only[Ob,if_neg h]
  have h1:(-1:Int)<0:=by omega
  rw[if_pos h1,if_pos h1,if_neg (fun h2=>h h2.1)]
  exact⟨rfl,rfl⟩
theorem Zla {W H:Int} {xs:List Int} (a b:Int) (k:Nat) (h:impl_IsLand.f k W H xs=some false/\spec_IsLand.f k W H xs=some false):impl_WayTo.f k W H xs a b=some []/\spec_WayTo.f k W H xs a b=some []:=by
 obtain⟨o1,o2⟩:=ZT a k h
 unfold impl_WayTo.f spec_WayTo.f impl_Days.f spec_Days.f
 rw[o1,o2]
 simp only[Ob,Bool.false_eq_true,if_false]
 have h1:(-1:Int)<0:=by omega
 rw[if_pos h1,if_pos h1]
 exact⟨rfl,rfl⟩
theorem ZGa {W H a b:Int} {xs:List Int} (L:LandOk W H xs):(Zv W xs a b).length<=64:=by
 unfold Zv
 split
 ·rename_i h
  have:=ZWa L (Za h.1.2) a (Za h.1.1).1
  rw[ZH];omega
 ·simp
def Zu (M W:Int):Bool:=decide (1<=W/\W<=10) && decide (0<=M/\M<=W-1)
theorem ZS (M W:Int):impl_IsRule.f M W=some (Zu M W)/\spec_IsRule.f M W=some (Zu M W):=by
 unfold impl_IsRule.f spec_IsRule.f Zu
 rw[Zd,Zj]
 by_cases h:1<=W/\W<=10
 ·have e:wrap64 (W-1)=W-1:=Yw
  simp only[h,and_self,decide_true,Ob,if_true,Zd,Zj,e,Bool.true_and]
 ·simp only[h,decide_false,Ob,Bool.false_eq_true,if_false,Bool.false_and,and_self]
def Zc (l:List Bool) (s:Bool):List Bool:=(l++[s]).drop (l.length+1-10)
theorem Zt (l:List Bool) (s:Bool):(Zc l s).length<=10:=by
 unfold Zc;simp;omega
theorem ZI (l:List Bool) (s:Bool) (hl:l.length<=1048576):impl_AddDay.f l s=some (Zc l s)/\spec_AddDay.f l s=some (Zc l s):=by
 have e1:([]:List Bool).length+l.length<140737488355328:=by simp;omega
 have e2:l.length<140737488355328:=by omega
 have e3:((l++[s]:List Bool).length:Int)=(l.length:Int)+1:=by simp
 have e4:wrap64 ((l.length:Int)+1-10)=(l.length:Int)+1-10:=Yw
 obtain⟨t,ht⟩:∃ t,t=mx ((l.length:Int)+1-10) 0:=⟨_,rfl⟩
 have ht0:0<=t/\t<=(l.length:Int)+1/\t.toNat=l.length+1-10:=by rw[ht];unfold mx;split <;> omega
 have e5:spec_Max.f 0 ((l.length:Int)+1-10)=some t:=by
  unfold spec_Max.f;rw[ht];unfold mx
  split <;> split <;> first|rfl|(congr 1;omega)|(exfalso;omega)
 have e6:([]:List Bool).length+((l++[s]:List Bool).drop t.toNat).length<140737488355328:=by
  rw[List.length_drop];simp;omega
 rw[ht0.2.2] at e6
 unfold impl_AddDay.f spec_AddDay.f impl_last.f Zc
 simp only[List.nil_append,Ob,if_pos e1,if_pos e2,e3,e4,<-ht,e5,if_pos ht0.1,if_pos ht0.2.1,if_pos e6,if_pos ht0.2.1,if_pos e6,ht0.2.2,and_self]
structure LandEv (W H:Int) (xs:List Int) (K:Nat) (lb:Bool) (oc:Int->Bool):Prop where
 land:∀ k,K<k->impl_IsLand.f k W H xs=some lb/\spec_IsLand.f k W H xs=some lb
 open_:∀ m k,K<k->impl_IsOpen.f k W H xs m=some (oc m)/\spec_IsOpen.f k W H xs m=some (oc m)
def okD (oc:Int->Bool) (ds:List S73) (i:Int):Prop:=(oc (rd_T73 ds i).f0=true/\1<=(rd_T73 ds i).f1/\(rd_T73 ds i).f1<=10000)/\(i>0->(rd_T73 ds (i-1)).f0<(rd_T73 ds i).f0)
theorem ZU {W H:Int} {xs:List Int} {K:Nat} {lb:Bool} {oc:Int->Bool} (E:LandEv W H xs K lb oc) (ds:List S73) (hds:ds.length<=1048576):∀ (e:Nat) (i:Int),0<=i->(ds.length:Int)-i=e ->
  ∃ b,(b=true->ds.length<=20/\∀ j,i<=j->j<(ds.length:Int)->okD oc ds j)/\∀ k,K+e+1<k->impl_AreDepots.l0 k ds ds (ds.length:Int) i W H xs=some b/\spec_AreDepots.l0 k ds i W H xs=some b:=by
 intro e
 induction e with
 |zero =>
  intro i h0 hd
  have hlt:¬ i<(ds.length:Int):=by omega
  cases lb with
  |false =>
   refine⟨false,fun h=>(by cases h),fun k hk=>?_⟩
   obtain⟨k,rfl⟩:∃ j,k=j+1:=⟨k-1,by omega⟩
   simp only[impl_AreDepots.l0,spec_AreDepots.l0,if_neg hlt]
   obtain⟨e1,e2⟩:=E.land (k+1) Om
   by_cases hk2:K<k
   ·simp only[(E.land k hk2).1,(E.land k hk2).2,Ob,Bool.false_eq_true,if_false,and_self]
   ·exfalso;omega
  |true =>
   refine⟨decide ((ds.length:Int)<=20),fun h=>⟨by have:=of_decide_eq_true h;omega,fun j h1 h2=>by omega⟩,fun k hk=>?_⟩
   obtain⟨k,rfl⟩:∃ j,k=j+1:=⟨k-1,by omega⟩
   by_cases hk2:K<k
   ·simp only[impl_AreDepots.l0,spec_AreDepots.l0,if_neg hlt,(E.land k hk2).1,(E.land k hk2).2,Ob,if_true,and_self]
   ·exfalso;omega
 |succ e ih =>
  intro i h0 hd
  have hlt:i<(ds.length:Int):=by omega
  obtain⟨b,hb,hp⟩:=ih (i+1) Om Om
  have hw:wrap64 (i-1)=i-1:=Yw
  have hw2:wrap64 (i+1)=i+1:=Yw
  by_cases ok:(oc (rd_T73 ds i).f0=true/\1<=(rd_T73 ds i).f1/\(rd_T73 ds i).f1<=10000)/\(i>0->(rd_T73 ds (i-1)).f0<(rd_T73 ds i).f0)
  ·refine⟨b,fun e_=>⟨(hb e_).1,fun j h1 h2=>by
    by_cases hj:j=i
    ·rw[hj];exact ok
    ·exact(hb e_).2 j Om h2⟩,fun k hk=>?_⟩
   obtain⟨k,rfl⟩:∃ j,k=j+1:=⟨k-1,by omega⟩
   obtain⟨b1,b2⟩:=hp k Om
   obtain⟨o1,o2⟩:=E.open_ (rd_T73 ds i).f0 k Om
   have e2:1<=(rd_T73 ds i).f1/\(rd_T73 ds i).f1<=10000:=ok.1.2
   simp only[impl_AreDepots.l0,spec_AreDepots.l0,if_pos hlt,if_pos h0,o1,o2,ok.1.1,Zj,Zd,Ob,decide_eq_true_eq,if_true,if_pos e2,hw,hw2]
   by_cases hi:i>0
   ·have h1:0<=i-1:=by omega
    have h2:i-1<(ds.length:Int):=by omega
    have h3:=ok.2 hi
    have h4:¬ (rd_T73 ds i).f0<=(rd_T73 ds (i-1)).f0:=by omega
    have h5:¬ (rd_T73 ds (i-1)).f0>=(rd_T73 ds i).f0:=by omega
    simp only[if_pos hi,if_pos h1,if_pos h2,if_neg h4,if_neg h5]
    exact⟨b1,b2⟩
   ·simp only[if_neg hi]
    exact⟨b1,b2⟩
  ·refine⟨false,fun h=>(by cases h),fun k hk=>?_⟩
   obtain⟨k,rfl⟩:∃ j,k=j+1:=⟨k-1,by omega⟩
   obtain⟨o1,o2⟩:=E.open_ (rd_T73 ds i).f0 k Om
   simp only[impl_AreDepots.l0,spec_AreDepots.l0,if_pos hlt,if_pos h0,o1,o2,Zj,Zd,Ob,decide_eq_true_eq,hw]
   by_cases c1:oc (rd_T73 ds i).f0=true
   ·have ok':¬ ((1<=(rd_T73 ds i).f1/\(rd_T73 ds i).f1<=10000)/\(i>0->(rd_T73 ds (i-1)).f0<(rd_T73 ds i).f0)):=fun h=>ok ⟨⟨c1,h.1⟩,h.2⟩
    simp only[c1,if_true]
    constructor
    ·repeat' split
     all_goals first|rfl|(exfalso;omega)
    ·repeat' split
     all_goals first|rfl|(exfalso;omega)
   ·simp only[c1,Bool.false_eq_true,if_false,and_self]
theorem ZBb {W H:Int} {xs:List Int} {K:Nat} {lb:Bool} {oc:Int->Bool} (E:LandEv W H xs K lb oc) (a b:Int) (l:List S76) (h:List Bool) (hl:l.length<=1048576):∃ p,(p=true->oc a=true/\l.length<=8/\(0<=b/\b<=10000)/\h.length<=10/\∀ k,l.length<k->impl_AreCrew.f k l=some true)/\∀ k,K+l.length<k->impl_IsParty.f k W H xs a b l h=some p/\spec_IsParty.f k W H xs a b l h=some p:=by
 obtain⟨c,hc,hf⟩:=Z1 l hl
 refine⟨oc a && (c && (decide (0<=b/\b<=10000) && decide ((h.length:Int)<=10))),fun e=>?_,fun k hk=>?_⟩
 ·simp only[Bool.and_eq_true,decide_eq_true_eq] at e
  obtain⟨e1,e2,e3,e4⟩:=e
  subst e2
  exact⟨e1,(hf rfl).1.2,e3,by omega,fun k hk=>(hc k hk).1⟩
 ·unfold impl_IsParty.f spec_IsParty.f
  obtain⟨o1,o2⟩:=E.open_ a k Om
  simp only[o1,o2,(hc k Om).1,(hc k Om).2,Ob,Zd,Zj]
  cases oc a <;> cases c <;> simp only[Bool.false_eq_true,if_false,if_true,Bool.false_and,Bool.true_and,and_self]
  by_cases q:0<=b/\b<=10000
  ·simp only[q,and_self,decide_true,if_true,Bool.true_and]
  ·simp only[q,decide_false,Bool.false_eq_true,if_false,Bool.false_and,and_self]
structure LandAll (W H:Int) (xs:List Int) (K:Nat) (lb:Bool) (oc:Int->Bool):Prop extends LandEv W H xs K lb oc where
 way:∀ a b,∃ ws:List Int,ws.length<=64/\∀ k,K<k->impl_WayTo.f k W H xs a b=some ws/\spec_WayTo.f k W H xs a b=some ws
 near:∀ a,∃ ns:List Int,ns.length<=4/\∀ k,K<k->impl_Near.f k W H xs a=some ns/\ZM k W H xs a=some ns
theorem ZZa (W H:Int) (xs:List Int) (hn:xs.length<=1048576):∃ lb oc,LandAll W H xs (xs.length+1000) lb oc:=by
 rcases ZN W H xs hn with L|h
 ·refine⟨true,opn xs,⟨⟨fun k hk=>L.ev k Om,fun m k hk=>Zq L m k Om⟩,fun a b=>⟨Zv W xs a b,ZGa L,fun k hk=>ZSa L a b k Om⟩,fun a=>?_⟩⟩
  by_cases ha:0<=a/\a<(xs.length:Int)
  ·refine⟨Ze W xs a,Z6 W a xs,fun k hk=>⟨ZAa L a ha k Om,?_⟩⟩
   unfold ZM
   simp only[(ZD L a k Om).2,ha,and_self,decide_true,Ob,if_true,Zaa L a ha k Om]
  ·refine⟨[],by simp,fun k hk=>Zcb a k ?_⟩
   have:=ZD L a k Om
   simp only[ha,decide_false] at this
   exact this
 ·refine⟨false,fun _=>false,⟨⟨fun k hk=>h k Om,fun m k hk=>ZT m k (h k Om)⟩,fun a b=>⟨[],by simp,fun k hk=>Zla a b k (h k Om)⟩,fun a=>⟨[],by simp,fun k hk=>Zcb a k (ZLa a k (h k Om))⟩⟩⟩
theorem Zvb {W H a b:Int} {xs:List Int} (L:LandOk W H xs) (ha:opn xs a=true) (hb:opn xs b=true):∀ (m:Nat) (v:Int),opn xs v=true->rd (Zb W xs b) v=(m:Int)->0<=rd (Zb W xs a) v->rd (Zb W xs a) b<=rd (Zb W xs a) v+m:=by
 intro m
 induction m with
 |zero =>
  intro v hv hm h
  rw[<-(Zm L (Za hb)).zero v (Za hv).1 (Za hv).2 Om]
  omega
 |succ m ih =>
  intro v hv hm h
  obtain⟨c,c1,c2,c3,c4,c5⟩:=Zha L hb hv m Om
  obtain⟨_,n1,n2⟩:=Z0 L ha hv h c c3
  obtain⟨_,n3,_⟩:=Z0 L ha c4 n2 v (Zna L hv c3)
  have:=ih c c4 c5 n2
  omega
theorem Zsa {W H a b:Int} {xs:List Int} (L:LandOk W H xs) (ha:opn xs a=true) (hb:opn xs b=true) (h:0<=rd (Zb W xs a) b):rd (Zb W xs a) b=rd (Zb W xs b) a:=by
 have h2:=ZK L ha hb h
 have sa:=(Zm L (Za ha)).src0
 have sb:=(Zm L (Za hb)).src0
 have l1:=Zvb L ha hb (rd (Zb W xs b) a).toNat a ha Om Om
 have l2:=Zvb L hb ha (rd (Zb W xs a) b).toNat b hb Om Om
 omega
theorem ZTb (ds:List S73) (i:Nat) (h:i<ds.length):ds.take (i+1)=ds.take i++[rd_T73 ds (i:Int)]:=by
 rw[List.take_succ_eq_append_getElem h]
 unfold rd_T73
 rw[Int.toNat_natCast,List.getD_eq_getElem?_getD,List.getElem?_eq_getElem h];rfl
theorem ZW (ds:List S73) (i:Nat) (h:i<ds.length):ds.drop i=rd_T73 ds (i:Int) :: ds.drop (i+1):=by
 rw[List.drop_eq_getElem_cons h]
 unfold rd_T73
 rw[Int.toNat_natCast,List.getD_eq_getElem?_getD,List.getElem?_eq_getElem h];rfl
theorem ZRb (ds:List S73) (cell:Int):∀ (e i:Nat),ds.length=i+e->(∀ j:Nat,j<i->(rd_T73 ds j).f0<cell) ->
  ∃ p:Nat,p<=ds.length/\(∀ j:Nat,j<p->(rd_T73 ds j).f0<cell)/\(p<ds.length->cell<=(rd_T73 ds (p:Int)).f0)
 |0,i,h,hi=>⟨i,by omega,hi,fun h2=>by omega⟩
 |e+1,i,h,hi=>by
  by_cases c:(rd_T73 ds (i:Int)).f0<cell
  ·exact ZRb ds cell e (i+1) Om (fun j hj=>by
    by_cases q:j=i
    ·rw[q];exact c
    ·exact hi j Om)
  ·exact⟨i,by omega,hi,fun _=>by omega⟩
theorem Z3 {oc:Int->Bool} {ds:List S73} (h:∀ j,0<=j->j<(ds.length:Int)->okD oc ds j) (i:Nat):∀ e:Nat,i+e+1<ds.length->(rd_T73 ds (i:Int)).f0<(rd_T73 ds ((i+e+1:Nat):Int)).f0
 |0,hl=>by
  have:=(h ((i+1:Nat):Int) Om Om).2 Om
  rwa [show (((i+1:Nat):Int)-1)=(i:Int) by omega] at this
 |e+1,hl=>by
  have h1:=Z3 h i e Om
  have h2:=(h ((i+(e+1)+1:Nat):Int) Om Om).2 Om
  rw[show (((i+(e+1)+1:Nat):Int)-1)=((i+e+1:Nat):Int) by omega] at h2
  omega
theorem Zob (ds:List S73) (hds:ds.length<=1048576) (cell n W H:Int) (xs:List Int) (p:Nat) (hp:p<=ds.length) (h1:∀ j:Nat,j<p->(rd_T73 ds j).f0<cell) (h2:p<ds.length->cell<=(rd_T73 ds (p:Int)).f0) (k:Nat) :
  ∀ (e i:Nat),p=i+e->impl_Lay.l0 (k+e+1) ds cell n ds (i:Int) W H xs=impl_Lay.j2 k ds cell n ds (p:Int) W H xs
 |0,i,h=>by
  obtain rfl:p=i:=h
  have h0:(0:Int)<=(p:Int):=by omega
  by_cases c:(p:Int)<(ds.length:Int)
  ·have h3:¬ (rd_T73 ds (p:Int)).f0<cell:=by have:=h2 Om;omega
   simp only[impl_Lay.l0,if_pos c,if_pos h0,if_neg h3]
  ·simp only[impl_Lay.l0,if_neg c]
 |e+1,i,h=>by
  have c:(i:Int)<(ds.length:Int):=by omega
  have h0:(0:Int)<=(i:Int):=by omega
  have hw:wrap64 ((i:Int)+1)=((i+1:Nat):Int):=Yw
  rw[show k+(e+1)+1=(k+e+1)+1 by omega,impl_Lay.l0,if_pos c,if_pos h0,if_pos (h1 i Om),hw]
  exact Zob ds hds cell n W H xs p hp h1 h2 k e (i+1) Om
theorem ZOa (ds:List S73) (hds:ds.length<=1048576) (cell n:Int) (p:Nat) (hp:p<=ds.length) (h1:∀ j:Nat,j<p->(rd_T73 ds j).f0<cell) (k:Nat) :
  ∀ (e i:Nat),p=i+e->spec_l8Set.l0 (k+2 * e) ds cell n (ds.take i) false (i:Int)=spec_l8Set.l0 k ds cell n (ds.take p) false (p:Int)
 |0,i,h=>by obtain rfl:p=i:=h;rfl
 |e+1,i,h=>by
  have c:(i:Int)<(ds.length:Int):=by omega
  have h0:(0:Int)<=(i:Int):=by omega
  have hw:wrap64 ((i:Int)+1)=((i+1:Nat):Int):=Yw
  have h3:=h1 i Om
  have h4:¬ (rd_T73 ds (i:Int)).f0>=cell:=by omega
  have h5:¬ (rd_T73 ds (i:Int)).f0=cell:=by omega
  have h6:(ds.take i).length<8796093022208:=by rw[List.length_take];omega
  rw[show k+2 * (e+1)=(k+2 * e)+1+1 by omega,spec_l8Set.l0,if_pos c,if_neg (by decide),if_pos h0,spec_l8Set.j1,decide_eq_false h4,if_neg (by decide),if_pos h0,if_pos c,if_neg h5,if_pos h6,hw]
  have e2:=ZOa ds hds cell n p hp h1 k e (i+1) Om
  rw[ZTb ds i Om] at e2
  exact e2
theorem Zpa (ds:List S73) (hds:ds.length<=1048576) (cell n:Int) (k:Nat) :
  ∀ (e i:Nat) (Y:List S73),ds.length=i+e->(∀ j:Nat,i<=j->j<ds.length->(rd_T73 ds j).f0≠cell)->Y.length+e<=4000000->spec_l8Set.l0 (k+2 * e+1) ds cell n Y true (i:Int)=some (Y++ds.drop i)
 |0,i,Y,h,_,_=>by
  have c:¬ (i:Int)<(ds.length:Int):=by omega
  rw[show k+2 * 0+1=k+1 by omega,spec_l8Set.l0,if_neg c,if_pos rfl,List.drop_eq_nil_of_le Om,List.append_nil]
 |e+1,i,Y,h,h1,hY=>by
  have c:(i:Int)<(ds.length:Int):=by omega
  have h0:(0:Int)<=(i:Int):=by omega
  have hw:wrap64 ((i:Int)+1)=((i+1:Nat):Int):=Yw
  have h5:=h1 i Om Om
  have h6:Y.length<8796093022208:=by omega
  rw[show k+2 * (e+1)+1=(k+2 * e+1)+1+1 by omega,spec_l8Set.l0,if_pos c,if_pos rfl,spec_l8Set.j1,if_neg (by decide),if_pos h0,if_pos c,if_neg h5,if_pos h6,hw]
  rw[Zpa ds hds cell n k e (i+1) _ Om (fun j a b=>h1 j Om b) (by simp;omega),ZW ds i Om,List.append_assoc]
  rfl
theorem ZEa (ds:List S73) (hds:ds.length<=1048576) (cell:Int) (p:Nat) (hp:p<=ds.length) (h1:∀ j:Nat,j<p->(rd_T73 ds j).f0≠cell) (k:Nat) :
  ∀ (e i:Nat),p=i+e->spec_FoodAt.l0 (k+e) ds cell (i:Int)=spec_FoodAt.l0 k ds cell (p:Int)
 |0,i,h=>by obtain rfl:p=i:=h;rfl
 |e+1,i,h=>by
  have c:(i:Int)<(ds.length:Int):=by omega
  have h0:(0:Int)<=(i:Int):=by omega
  have hw:wrap64 ((i:Int)+1)=((i+1:Nat):Int):=Yw
  rw[show k+(e+1)=(k+e)+1 by omega,spec_FoodAt.l0,if_pos c,if_pos h0,if_neg (h1 i Om),hw]
  exact ZEa ds hds cell p hp h1 k e (i+1) Om
theorem Z2b (ds:List S73) (p:Nat) (hp:p<=ds.length) (v z:S73):(shf (ds++[z]) p).set p v=ds.take p++v :: ds.drop p:=by
 have e1:(ds++[z]).drop p=ds.drop p++[z]:=by rw[List.drop_append_of_le_length hp]
 have e2:(ds++[z]).length-(p+1)=(ds.drop p).length:=by simp
 unfold shf
 rw[e1,e2,List.take_left,List.set_append_left _ _ (by rw[List.length_take];simp;omega),List.set_eq_take_append_cons_drop]
 rw[if_pos (by rw[List.length_take];simp;omega),List.take_take,show min p (p+1)=p by omega,List.take_append_of_le_length hp,List.drop_take]
 simp
theorem Z7 (ds:List S73) (hds:ds.length<=4000000):impl_copyDepots.f ds=some ds:=by
 unfold impl_copyDepots.f
 rw[Ob,if_pos (by simp;omega)];rfl
theorem Zdc {W H:Int} {xs:List Int} {K:Nat} {lb:Bool} {oc:Int->Bool} (E:LandEv W H xs K lb oc) (ds:List S73) (hds:ds.length<=1048576) (cell n:Int) :
  ∃ d o,(o=true->d.length<=20/\∀ k,K+d.length+1<k->impl_AreDepots.f k W H xs d=some true/\spec_AreDepots.f k W H xs d=some true)/\d.length<=ds.length+1/\∀ k,K+4 * ds.length+110<k->impl_Lay.f k W H xs ds cell n=some (d,o)/\spec_Lay.f k W H xs ds cell n=some (d,o):=by
 obtain⟨v,hv,hvk⟩:=ZU E ds hds ds.length 0 Om Om
 have hl0:([]:List S73).length+ds.length<8796093022208:=by simp;omega
 by_cases g:(1<=n/\n<=10000)/\v=true
 ·obtain⟨gn,rfl⟩:=g
  obtain⟨hl,hok⟩:=hv rfl
  obtain⟨p,hp,h1,h2⟩:=ZRb ds cell ds.length 0 Om (fun j hj=>by omega)
  have asc:=fun i e=>Z3 (fun j a b=>hok j a b) i e
  obtain⟨D,f,hD,hDl,hf,hS,hI⟩:∃ (D:List S73) (f:Int),D.length<=ds.length+1/\D.length<=30/\(∀ k,30<k->spec_FoodAt.f k ds cell=some f) /\
    (∀ k,100<k->spec_l8Set.f k ds cell (wrap64 (f+n))=some D)/\(∀ k,40<k->impl_Lay.j2 (k+3) ds cell n ds (p:Int) W H xs=impl_Lay.j4 (k+1) ds D W H xs):=by
   have h0:(0:Int)<=(p:Int):=by omega
   have hne:∀ j:Nat,j<p->(rd_T73 ds j).f0≠cell:=fun j hj=>by have:=h1 j hj;omega
   by_cases hit:p<ds.length/\(rd_T73 ds (p:Int)).f0=cell
   ·obtain⟨hpl,hc⟩:=hit
    have hpi:(p:Int)<(ds.length:Int):=by omega
    have hfb:=(hok (p:Int) Om Om).1.2
    have hw:wrap64 ((rd_T73 ds (p:Int)).f1+n)=(rd_T73 ds (p:Int)).f1+n:=Yw
    refine⟨ds.take p++(⟨cell,(rd_T73 ds (p:Int)).f1+n⟩:S73) :: ds.drop (p+1),(rd_T73 ds (p:Int)).f1,by simp;omega,by simp;omega,fun k hk=>?_,fun k hk=>?_,fun k hk=>?_⟩
    ·obtain⟨k,rfl⟩:∃ j,k=j+1+p:=⟨k-1-p,by omega⟩
     unfold spec_FoodAt.f
     rw[show ((0:Int))=((0:Nat):Int) from rfl,ZEa ds hds cell p hp hne (k+1) p 0 Om,spec_FoodAt.l0,if_pos hpi,if_pos h0,if_pos hc]
    ·obtain⟨k,rfl⟩:∃ j,k=j+2 * (ds.length-(p+1))+1+1+1+2 * p:=⟨k-(2 * (ds.length-(p+1))+3+2 * p),by omega⟩
     unfold spec_l8Set.f
     have hq:(wrap64 ((rd_T73 ds (p:Int)).f1+n)==0)=false:=beq_eq_false_iff_ne.mpr (by rw[hw];omega)
     have hge:(rd_T73 ds (p:Int)).f0>=cell:=by omega
     have ht:(ds.take p).length<8796093022208:=by rw[List.length_take];omega
     have e0:=ZOa ds hds cell (wrap64 ((rd_T73 ds (p:Int)).f1+n)) p hp h1 (k+2 * (ds.length-(p+1))+1+1+1) p 0 Om
     rw[List.take_zero] at e0
     rw[hq,show ((0:Int))=((0:Nat):Int) from rfl,e0,spec_l8Set.l0,if_pos hpi,if_neg (by decide),if_pos h0,spec_l8Set.j1,decide_eq_true hge,if_pos rfl,if_pos ht,Ob,if_pos h0,if_pos hpi,if_pos hc]
     rw[show wrap64 ((p:Int)+1)=((p+1:Nat):Int) from by clear hw hq;unfold wrap64;omega,Zpa ds hds cell _ k (ds.length-(p+1)) (p+1) _ Om (fun j a b=>?_) (by simp;omega),hw]
     ·simp only[List.append_assoc,List.cons_append,List.nil_append]
     ·have:=asc p (j-p-1) Om
      rw[show p+(j-p-1)+1=j by omega] at this
      omega
    ·have hce:((rd_T73 ds (p:Int)).f0==cell)=true:=beq_iff_eq.mpr hc
     rw[show k+3=k+2+1 by omega,impl_Lay.j2,if_pos hpi,if_pos h0,hce,impl_Lay.j3,if_pos rfl,if_pos h0,if_pos hpi,hw,Int.toNat_natCast,hc,List.set_eq_take_append_cons_drop,if_pos hpl]
   ·have hgt:∀ j:Nat,p<=j->j<ds.length->(rd_T73 ds j).f0≠cell:=fun j a b=>by
     have q1:=h2 Om
     have q2:(rd_T73 ds (p:Int)).f0≠cell:=fun e=>hit ⟨by omega,e⟩
     by_cases q:j=p
     ·rw[q];exact q2
     ·have:=asc p (j-p-1) Om
      rw[show p+(j-p-1)+1=j by omega] at this
      omega
    have hw:wrap64 (0+n)=n:=Yw
    refine⟨ds.take p++(⟨cell,n⟩:S73) :: ds.drop p,0,by simp;omega,by simp;omega,fun k hk=>?_,fun k hk=>?_,fun k hk=>?_⟩
    ·obtain⟨k,rfl⟩:∃ j,k=j+1+ds.length:=⟨k-1-ds.length,by omega⟩
     unfold spec_FoodAt.f
     have c:¬ ((ds.length:Nat):Int)<(ds.length:Int):=by omega
     rw[show ((0:Int))=((0:Nat):Int) from rfl,ZEa ds hds cell ds.length Om (fun j hj=>by
      by_cases q:j<p
      ·exact hne j q
      ·exact hgt j Om hj) (k+1) ds.length 0 Om,spec_FoodAt.l0,if_neg c];rfl
    ·obtain⟨k,rfl⟩:∃ j,k=j+2 * (ds.length-(p+1))+1+1+1+2 * p:=⟨k-(2 * (ds.length-(p+1))+3+2 * p),by omega⟩
     unfold spec_l8Set.f
     have hq:(wrap64 (0+n)==0)=false:=beq_eq_false_iff_ne.mpr (by rw[hw];omega)
     have ht:(ds.take p).length<8796093022208:=by rw[List.length_take];omega
     obtain⟨w0,hw0⟩:∃ w,w=wrap64 (0+n):=⟨_,rfl⟩
     rw[<-hw0] at hq ⊢
     have e0:=ZOa ds hds cell w0 p hp h1 (k+2 * (ds.length-(p+1))+1+1+1) p 0 Om
     rw[List.take_zero] at e0
     rw[hq,show ((0:Int))=((0:Nat):Int) from rfl,e0]
     by_cases hpl:p<ds.length
     ·have hpi:(p:Int)<(ds.length:Int):=by omega
      have hge:(rd_T73 ds (p:Int)).f0>=cell:=by have:=h2 hpl;omega
      have ht2:(ds.take p++[(⟨cell,w0⟩:S73)]).length<8796093022208:=by simp;omega
      have hw':w0=n:=hw0.trans hw
      rw[spec_l8Set.l0,if_pos hpi,if_neg (by decide),if_pos h0,spec_l8Set.j1,decide_eq_true hge,if_pos rfl,if_pos ht,Ob,if_pos h0,if_pos hpi,if_neg (hgt p Om hpl),if_pos ht2,show wrap64 ((p:Int)+1)=((p+1:Nat):Int) from by clear hw hw' hw0 hq;unfold wrap64;omega]
      rw[Zpa ds hds cell _ k (ds.length-(p+1)) (p+1) _ Om (fun j a b=>hgt j Om b) (by simp;omega),ZW ds p hpl]
      simp only[hw',List.append_assoc,List.cons_append,List.nil_append]
     ·obtain rfl:p=ds.length:=by omega
      have c:¬ ((ds.length:Nat):Int)<(ds.length:Int):=by omega
      have hw':w0=n:=hw0.trans hw
      rw[spec_l8Set.l0,if_neg c,if_neg (by decide),if_pos ht,hw',List.drop_eq_nil_of_le Om]
    ·have hj3:impl_Lay.j2 (k+3) ds cell n ds (p:Int) W H xs=impl_Lay.j3 (k+2) ds cell n ds (p:Int) false W H xs:=by
      rw[show k+3=k+2+1 by omega,impl_Lay.j2]
      by_cases hpl:p<ds.length
      ·have hce:((rd_T73 ds (p:Int)).f0==cell)=false:=beq_eq_false_iff_ne.mpr (hgt p Om hpl)
       rw[if_pos (show (p:Int)<(ds.length:Int) by omega),if_pos h0,hce]
      ·rw[if_neg (show ¬ (p:Int)<(ds.length:Int) by omega)]
     rw[hj3,impl_Lay.j3,if_neg (by decide),if_pos (show ds.length<8796093022208 by omega),Ob,if_pos h0,if_pos (show (p:Int)<((ds++[(⟨0,0⟩:S73)]).length:Int) by simp;omega),Int.toNat_natCast,Z2b ds p hp]
  obtain⟨d1,hd1t,hd1⟩:=ZU E D Om D.length 0 Om Om
  refine⟨if d1=true then D else ds,d1,fun e=>by subst e;exact⟨(hd1t rfl).1,hd1⟩,by split <;> omega,fun k hk=>⟨?_,?_⟩⟩
  ·obtain⟨k,rfl⟩:∃ j,k=j+3+p+1+1:=⟨k-5-p,by omega⟩
   have q1:impl_AreDepots.f (k+3+p+1+1) W H xs ds=some true:=(hvk _ Om).1
   have q2:impl_AreDepots.f k W H xs D=some d1:=(hd1 _ Om).1
   unfold impl_Lay.f
   rw[Zd,Ob,decide_eq_true gn,if_pos rfl,q1,Ob,impl_Lay.j0,if_neg (by decide),Z7 ds Om,Ob]
   rw[show ((0:Int))=((0:Nat):Int) from rfl,Zob ds hds cell n W H xs p hp h1 h2 (k+3) p 0 Om,hI k Om,impl_Lay.j4,q2,Ob]
   cases d1
   ·rw[if_neg (by decide),Z7 ds Om];rfl
   ·rfl
  ·obtain⟨k,rfl⟩:∃ j,k=j+1:=⟨k-1,by omega⟩
   have q1:spec_AreDepots.f (k+1) W H xs ds=some true:=(hvk _ Om).2
   have q2:spec_AreDepots.f k W H xs D=some d1:=(hd1 _ Om).2
   unfold spec_Lay.f
   rw[Ob,if_pos hl0,Ob,q1,Ob,if_pos rfl,Zj,Ob,decide_eq_true gn,spec_Lay.j0,if_neg (by decide),hf k Om,Ob,hS k Om,Ob,q2,Ob]
   cases d1 <;> rfl
 ·refine⟨ds,false,fun e=>(by cases e),by omega,fun k hk=>⟨?_,?_⟩⟩
  ·obtain⟨k,rfl⟩:∃ j,k=j+1:=⟨k-1,by omega⟩
   have q1:impl_AreDepots.f (k+1) W H xs ds=some v:=(hvk _ Om).1
   unfold impl_Lay.f
   rw[Zd,Ob,q1,Ob]
   by_cases gn:1<=n/\n<=10000
   ·have gv:v=false:=by cases v;rfl;exact absurd ⟨gn,rfl⟩ g
    rw[decide_eq_true gn,if_pos rfl,gv,impl_Lay.j0,Bool.not_false,if_pos rfl,Z7 ds Om];rfl
   ·rw[decide_eq_false gn,if_neg (by decide),impl_Lay.j0,if_pos rfl,Z7 ds Om];rfl
  ·obtain⟨k,rfl⟩:∃ j,k=j+1:=⟨k-1,by omega⟩
   have q1:spec_AreDepots.f (k+1) W H xs ds=some v:=(hvk _ Om).2
   unfold spec_Lay.f
   rw[Ob,if_pos hl0,Ob,q1,Ob,Zj,Ob]
   by_cases gn:1<=n/\n<=10000
   ·have gv:v=false:=by cases v;rfl;exact absurd ⟨gn,rfl⟩ g
    rw[gv,if_neg (by decide),spec_Lay.j0,if_pos rfl,List.nil_append]
   ·cases v
    ·rw[if_neg (by decide),spec_Lay.j0,if_pos rfl,List.nil_append]
    ·rw[if_pos rfl,decide_eq_false gn,spec_Lay.j0,Bool.not_false,if_pos rfl,List.nil_append]
theorem Z6b (n:Nat) (h:n<=1073741823):Go.IntKind.wrap .i64 (n:Int)=(n:Int):=by
 have e1:(Go.IntKind.i64).bits=64:=rfl
 have e2:(Go.IntKind.i64).signed=true:=rfl
 unfold Go.IntKind.wrap
 simp only[e1,e2,Bool.true_and,decide_eq_true_eq]
 have e3:(2:Int) ^ 64=18446744073709551616:=by decide
 have e4:(2:Int) ^ (64-1)=9223372036854775808:=by decide
 rw[e3,e4,if_neg Om];omega
theorem Zyb (x:Int):0<=Go.bits .and .i64 x 255/\Go.bits .and .i64 x 255<=255:=by
 have h:(BitVec.ofInt 64 x &&& BitVec.ofInt 64 255).toNat<=255:=by
  rw[BitVec.toNat_and];exact Nat.le_trans Nat.and_le_right (by decide)
 show 0<=Go.IntKind.wrap .i64 ((BitVec.ofInt 64 x &&& BitVec.ofInt 64 255).toNat:Int)/\Go.IntKind.wrap .i64 ((BitVec.ofInt 64 x &&& BitVec.ofInt 64 255).toNat:Int)<=255
 generalize (BitVec.ofInt 64 x &&& BitVec.ofInt 64 255).toNat=n at h ⊢
 rw[Z6b n Om];omega
theorem Zga (d:List Int) (p s:Int) (hd:d.length<=1048576) (hp:0<=p) (hp2:p<=d.length):∃ v p' s',spec_l1Byte.f d p s=some (v,p',s')/\(0<=v/\v<=255)/\0<=p'/\p'<=d.length:=by
 unfold spec_l1Byte.f
 by_cases h:p<(d.length:Int)
 ·rw[if_pos h,if_pos hp]
  exact⟨_,_,_,rfl,Zyb _,by unfold wrap64;omega,by unfold wrap64;omega⟩
 ·rw[if_neg h]
  exact⟨_,_,_,rfl,Zyb _,hp,hp2⟩
theorem Zta (x n:Int) (hx:0<=x) (hn:0<n):0<=Int.tmod x n/\Int.tmod x n<n:=by
 rw[Int.tmod_eq_emod_of_nonneg hx]
 exact⟨Int.emod_nonneg _ Om,Int.emod_lt_of_pos _ hn⟩
theorem Zg (d:List Int) (p s n:Int) (hd:d.length<=1048576) (hp:0<=p) (hp2:p<=d.length):∃ v p' s',spec_l1Below.f d p s n=some (v,p',s')/\(0<=v/\(0<n->v<n)/\(n<=0->v=0))/\0<=p'/\p'<=d.length:=by
 unfold spec_l1Below.f
 by_cases h:n<=0
 ·rw[if_pos h];exact⟨0,p,s,rfl,⟨by omega,by omega,by omega⟩,hp,hp2⟩
 ·have hz:¬ n=0:=by omega
  rw[if_neg h]
  by_cases h2:n<=256
  ·rw[if_pos h2]
   obtain⟨v,p',s',hb,hv,hp',hp2'⟩:=Zga d p s hd hp hp2
   rw[hb];simp only[Ob,if_neg hz]
   have:=Zta v n hv.1 Om
   exact⟨_,_,_,rfl,⟨this.1,fun _=>this.2,by omega⟩,hp',hp2'⟩
  ·rw[if_neg h2]
   obtain⟨v,p',s',hb,hv,hp',hp2'⟩:=Zga d p s hd hp hp2
   rw[hb];simp only[Ob]
   obtain⟨v2,p2,s2,hb2,hv2,hq,hq2⟩:=Zga d p' s' hd hp' hp2'
   rw[hb2];simp only[Ob]
   obtain⟨v3,p3,s3,hb3,hv3,hr,hr2⟩:=Zga d p2 s2 hd hq hq2
   rw[hb3];simp only[Ob,if_neg hz]
   have:=Zta (wrap64 (wrap64 (wrap64 (v * 65536)+wrap64 (v2 * 256))+v3)) n (by unfold wrap64;omega) Om
   exact⟨_,_,_,rfl,⟨this.1,fun _=>this.2,by omega⟩,hr,hr2⟩
theorem ZPa (d:List Int) (p s:Int) (l:List Int) (hl:0<l.length) (hd:d.length<=1048576) (hp:0<=p) (hp2:p<=d.length):∃ v p' s',spec_l1Int.f d p s l=some (v,p',s')/\v∈l/\0<=p'/\p'<=d.length:=by
 unfold spec_l1Int.f
 obtain⟨v,p',s',hb,hv,hp',hp2'⟩:=Zg d p s (l.length:Int) hd hp hp2
 have h2:=hv.2.1 Om
 rw[hb];simp only[Ob,if_pos hv.1,if_pos h2]
 refine⟨_,_,_,rfl,?_,hp',hp2'⟩
 have h3:v.toNat<l.length:=by omega
 unfold rd
 simp[List.getD_eq_getElem?_getD,List.getElem?_eq_getElem h3]
theorem ZHb (d:List Int) (hd:d.length<=1048576):∀ (e:Nat) (s i:Int),0<=i->(d.length:Int)-i<=e->∃ s',∀ k,e<k->spec_l1New.l0 k d s i=some (d,0,s'):=by
 intro e
 induction e with
 |zero =>
  intro s i h0 he
  refine⟨s,fun k hk=>?_⟩
  obtain⟨k,rfl⟩:=Yk k
  simp only[spec_l1New.l0]
  rw[if_neg Om]
 |succ e ih =>
  intro s i h0 he
  by_cases h:i<(d.length:Int)/\i<4000
  ·obtain⟨s',hs⟩:=ih (Go.bits .and .i64 (wrap64 ((wrap64 ((wrap64 (s * 137))+(wrap64 (rd d i))))+11)) 1073741823) (i+1) Om Om
   refine⟨s',fun k hk=>?_⟩
   obtain⟨k,rfl⟩:=Yk k
   simp only[spec_l1New.l0,if_pos h.1,if_pos h.2,if_pos h0,Zp (n:=d.length) h0 h.1 hd]
   exact hs k Om
  ·refine⟨s,fun k hk=>?_⟩
   obtain⟨k,rfl⟩:=Yk k
   simp only[spec_l1New.l0]
   by_cases h1:i<(d.length:Int)
   ·rw[if_pos h1,if_neg (fun h2=>h ⟨h1,h2⟩)]
   ·rw[if_neg h1]
theorem Zsb (d:List Int) (hd:d.length<=1048576):∃ s,∀ k,d.length<k->spec_l1New.f k d=some (d,0,s) :=
 ZHb d hd d.length _ 0 Om Om
theorem Zea (d:List Int) (p s n:Int) (hd:d.length<=1048576) (hp:0<=p) (hp2:p<=d.length):∃ v p' s',spec_l1Once.f d p s n=some (v,p',s')/\0<=p'/\p'<=d.length:=by
 obtain⟨a,p',s',h,_,h1,h2⟩:=Zg d p s n hd hp hp2
 exact⟨a==0,p',s',by unfold spec_l1Once.f;rw[h];rfl,h1,h2⟩
theorem ZMa (d:List Int) (hd:d.length<=1048576):∀ (e:Nat) (l:List S76) (i p s:Int),1<=i->5-i<=e->(l.length:Int)+1=i->i<=6->0<=p->p<=d.length ->
  ∃ q p' s',1<=q.length/\q.length<=6/\0<=p'/\p'<=(d.length:Int)/\∀ k,e<k->spec_l7Draw.l0 k l i d p s=some (q,p',s'):=by
 intro e
 induction e with
 |zero =>
  intro l i p s h1 he hl h7 hp hp2
  obtain⟨a,p1,s1,e1,⟨ha0,ha1,_⟩,hp1,hp1'⟩:=Zg d p s 4 hd hp hp2
  have:=ha1 Om
  have hw:wrap64 (1+a)=1+a:=Yw
  have hc:¬ i<=1+a:=by omega
  refine⟨l,p1,s1,by omega,by omega,hp1,hp1',fun k hk=>?_⟩
  obtain⟨k,rfl⟩:=Yk k
  simp only[spec_l7Draw.l0,e1,Ob,hw,if_neg hc]
 |succ e ih =>
  intro l i p s h1 he hl h7 hp hp2
  obtain⟨a,p1,s1,e1,⟨ha0,ha1,_⟩,hp1,hp1'⟩:=Zg d p s 4 hd hp hp2
  have:=ha1 Om
  have hw:wrap64 (1+a)=1+a:=Yw
  by_cases hc:i<=1+a
  ·obtain⟨b,p2,s2,e2,_,hp2a,hp2b⟩:=Zg d p1 s1 20 hd hp1 hp1'
   obtain⟨c,p3,s3,e3,_,hp3,hp3'⟩:=Zg d p2 s2 3 hd hp2a hp2b
   obtain⟨f,p4,s4,e4,hp4,hp4'⟩:=Zea d p3 s3 8 hd hp3 hp3'
   obtain⟨q,p',s',hq1,hq,hp',hp'',hk2⟩:=ih (l++[⟨wrap64 (2 * i),wrap64 (5+b),wrap64 (1+c),f⟩]) (i+1) p4 s4 Om Om (by simp;omega) Om hp4 hp4'
   refine⟨q,p',s',hq1,hq,hp',hp'',fun k hk=>?_⟩
   obtain⟨k,rfl⟩:=Yk k
   have hlen:l.length<4398046511104:=by omega
   have hw2:wrap64 (i+1)=i+1:=Yw
   simp only[spec_l7Draw.l0,e1,Ob,hw,if_pos hc,e2,e3,e4,if_pos hlen,hw2]
   exact hk2 k Om
  ·refine⟨l,p1,s1,by omega,by omega,hp1,hp1',fun k hk=>?_⟩
   obtain⟨k,rfl⟩:=Yk k
   simp only[spec_l7Draw.l0,e1,Ob,hw,if_neg hc]
theorem Zkb (n:Int) (ds:List Int) (hn:ds.length<=64):∀ (e:Nat) (i:Int) (acc:List Int),0<=i->(ds.length:Int)-i=e->(acc.length:Int)<=i ->
  ∃ r,r.length<=64/\∀ k,e<k->spec_Reach.l0 k n acc ds i=some r:=by
 intro e
 induction e with
 |zero =>
  intro i acc h0 he ha
  refine⟨acc,by omega,fun k hk=>?_⟩
  obtain⟨k,rfl⟩:=Yk k
  rw[spec_Reach.l0,if_neg Om]
 |succ e ih =>
  intro i acc h0 he ha
  have hlt:i<(ds.length:Int):=by omega
  have hw:wrap64 (i+1)=i+1:=Yw
  have q1:acc.length<17592186044416:=by omega
  by_cases c:rd ds i>=0/\rd ds i<=n
  ·obtain⟨r,hr,hk2⟩:=ih (i+1) (acc++[i]) Om Om (by simp;omega)
   refine⟨r,hr,fun k hk=>?_⟩
   obtain⟨k,rfl⟩:=Yk k
   rw[spec_Reach.l0,if_pos hlt,if_pos h0,if_pos c.1,if_pos c.2,if_pos q1,hw]
   exact hk2 k Om
  ·obtain⟨r,hr,hk2⟩:=ih (i+1) acc Om Om Om
   refine⟨r,hr,fun k hk=>?_⟩
   obtain⟨k,rfl⟩:=Yk k
   rw[spec_Reach.l0,if_pos hlt,if_pos h0,hw]
   by_cases c1:rd ds i>=0
   ·rw[if_pos c1,if_neg (fun c2=>c ⟨c1,c2⟩)]
    exact hk2 k Om
   ·rw[if_neg c1]
    exact hk2 k Om
theorem ZJb (W H:Int) (xs:List Int) (hn:xs.length<=64) (a n:Int):∃ r,r.length<=64/\∀ k,1100<k->spec_Reach.f k W H xs a n=some r:=by
 rcases ZN W H xs Om with L|no
 ·by_cases ha:opn xs a=true
  ·have hl:=(Zm L (Za ha)).len
   obtain⟨r,hr,hk2⟩:=Zkb n (Zb W xs a) Om xs.length 0 [] Om Om (by simp)
   refine⟨r,hr,fun k hk=>?_⟩
   unfold spec_Reach.f
   simp only[Ob,(Zq L a k Om).2,if_pos ha,(ZX L a ha k Om).2]
   exact hk2 k Om
  ·refine⟨[],by simp,fun k hk=>?_⟩
   unfold spec_Reach.f
   simp only[Ob,(Zq L a k Om).2,if_neg ha]
 ·refine⟨[],by simp,fun k hk=>?_⟩
  unfold spec_Reach.f
  simp only[Ob,(ZT a k (no k Om)).2,Bool.false_eq_true,if_false]
theorem Z4a (d:List Int) (hd:d.length<=1048576) (W H n:Int) (hn:wrap64 (W * H)=n) (h1:1<=n) (h2:n<=64):∀ (e:Nat) (i:Int) (acc:List Int) (p s:Int),0<=i->n-i=e->(acc.length:Int)=i->0<=p->p<=d.length ->
  ∃ xs p' s',(xs.length:Int)=n/\0<=p'/\p'<=(d.length:Int)/\∀ k,e<k->spec_l4Draw.l0 k i d p s W H acc=some (W,H,xs,p',s'):=by
 intro e
 induction e with
 |zero =>
  intro i acc p s h0 he ha hp hp2
  refine⟨acc.set (0:Int).toNat 0,p,s,by rw[List.length_set];omega,hp,hp2,fun k hk=>?_⟩
  obtain⟨k,rfl⟩:=Yk k
  rw[spec_l4Draw.l0,hn,if_neg Om,if_pos Om]
 |succ e ih =>
  intro i acc p s h0 he ha hp hp2
  obtain⟨v,p1,s1,e1,_,hp1,hp1'⟩:=ZPa d p s [0,0,0,0,1,2] (by simp) hd hp hp2
  obtain⟨xs,p',s',hx,hp',hp'',hk2⟩:=ih (i+1) (acc++[v]) p1 s1 Om Om (by simp;omega) hp1 hp1'
  refine⟨xs,p',s',hx,hp',hp'',fun k hk=>?_⟩
  obtain⟨k,rfl⟩:=Yk k
  have hw:wrap64 (i+1)=i+1:=Yw
  have q1:acc.length<17592186044416:=by omega
  rw[spec_l4Draw.l0,hn,if_pos Om,e1,Ob,if_pos q1,hw]
  exact hk2 k Om
theorem ZKa (d:List Int) (p s:Int) (hd:d.length<=1048576) (hp:0<=p) (hp2:p<=d.length):∃ W H xs p' s',(1<=xs.length/\xs.length<=64)/\0<=p'/\p'<=(d.length:Int)/\∀ k,70<k->spec_l4Draw.f k d p s=some (W,H,xs,p',s'):=by
 obtain⟨a,p1,s1,e1,⟨a0,a1,_⟩,hp1,hp1'⟩:=Zg d p s 5 hd hp hp2
 obtain⟨b,p2,s2,e2,⟨b0,b1,_⟩,hp2a,hp2b⟩:=Zg d p1 s1 4 hd hp1 hp1'
 have:=a1 Om
 have:=b1 Om
 have w1:wrap64 (2+a)=2+a:=Yw
 have w2:wrap64 (2+b)=2+b:=Yw
 obtain⟨n,hn⟩:∃ n,n=(2+a) * (2+b):=⟨_,rfl⟩
 have m1:(2+a) * (2+b)<=6 * 5:=Int.mul_le_mul Om Om Om Om
 have m2:1 * 1<=(2+a) * (2+b):=Int.mul_le_mul Om Om Om Om
 have w3:wrap64 ((2+a) * (2+b))=n:=by rw[<-hn] at m1 m2 ⊢;unfold wrap64;omega
 obtain⟨xs,p',s',hx,hp',hp'',hk2⟩:=Z4a d hd (2+a) (2+b) n w3 Om Om n.toNat 0 [] p2 s2 Om Om (by simp) hp2a hp2b
 refine⟨2+a,2+b,xs,p',s',⟨by omega,by omega⟩,hp',hp'',fun k hk=>?_⟩
 unfold spec_l4Draw.f
 rw[e1,Ob,e2,Ob]
 simp only[w1,w2]
 exact hk2 k Om
theorem ZCb (d:List Int) (p s:Int) (hd:d.length<=1048576) (hp:0<=p) (hp2:p<=d.length):∃ v p' s',spec_l4Raw.f d p s=some (v,p',s')/\0<=p'/\p'<=(d.length:Int):=by
 obtain⟨v,p1,s1,e1,_,hp1,hp1'⟩:=ZPa d p s [(-1),0,8,9,64,9223372036854775807,(-9223372036854775808)] (by simp) hd hp hp2
 exact⟨v,p1,s1,by unfold spec_l4Raw.f;rw[e1];rfl,hp1,hp1'⟩
theorem ZMb (d:List Int) (p s:Int) (hd:d.length<=1048576) (hp:0<=p) (hp2:p<=d.length):∃ W H xs p' s',xs.length<=64/\0<=p'/\p'<=(d.length:Int)/\∀ k,70<k->spec_l4Any.f k d p s=some (W,H,xs,p',s'):=by
 obtain⟨W,H,xs,p1,s1,⟨x1,x2⟩,hp1,hp1',h1⟩:=ZKa d p s hd hp hp2
 obtain⟨c,p2,s2,e2,_,hp2a,hp2b⟩:=Zg d p1 s1 14 hd hp1 hp1'
 obtain⟨v,p3,s3,e3,hp3,hp3'⟩:=ZCb d p2 s2 hd hp2a hp2b
 obtain⟨u,p4,s4,e4,_,hp4,hp4'⟩:=ZPa d p2 s2 [(-1),2,3] (by simp) hd hp2a hp2b
 have q0:0<(xs.length:Int):=by omega
 have q1:1<=(xs.length:Int):=by omega
 unfold spec_l4Any.f
 by_cases c0:c=0
 ·exact⟨v,H,xs,p3,s3,x2,hp3,hp3',fun k hk=>by simp only[h1 k hk,Ob,e2,if_pos c0,e3]⟩
 ·by_cases c1:c=1
  ·exact⟨W,v,xs,p3,s3,x2,hp3,hp3',fun k hk=>by simp only[h1 k hk,Ob,e2,if_neg c0,if_pos c1,e3]⟩
  ·by_cases c2:c=2
   ·exact⟨W,H,xs.set (0:Int).toNat u,p4,s4,by rw[List.length_set];exact x2,hp4,hp4',fun k hk=>by simp only[h1 k hk,Ob,e2,if_neg c0,if_neg c1,if_pos c2,e4,if_pos q0]⟩
   ·by_cases c3:c=3
    ·exact⟨W,H,xs.drop (1:Int).toNat,p2,s2,by rw[List.length_drop];omega,hp2a,hp2b,fun k hk=>by simp only[h1 k hk,Ob,e2,if_neg c0,if_neg c1,if_neg c2,if_pos c3,if_pos q1]⟩
    ·exact⟨W,H,xs,p2,s2,x2,hp2a,hp2b,fun k hk=>by simp only[h1 k hk,Ob,e2,if_neg c0,if_neg c1,if_neg c2,if_neg c3]⟩
theorem Z1b (d:List Int) (p s:Int) (hd:d.length<=1048576) (hp:0<=p) (hp2:p<=d.length):∃ v w p' s',spec_l6Rule.f d p s=some (v,w,p',s')/\(1<=w/\w<=10)/\0<=p'/\p'<=(d.length:Int):=by
 obtain⟨a,p1,s1,e1,⟨a0,a1,_⟩,hp1,hp1'⟩:=Zg d p s 6 hd hp hp2
 have:=a1 Om
 have w1:wrap64 (1+a)=1+a:=Yw
 obtain⟨b,p2,s2,e2,_,hp2a,hp2b⟩:=Zg d p1 s1 (1+a) hd hp1 hp1'
 exact⟨b,1+a,p2,s2,by unfold spec_l6Rule.f;rw[e1,Ob,w1,e2,Ob],by omega,hp2a,hp2b⟩
theorem Z3a (l:List Bool) (hl:l.length<=1048576):∀ (e:Nat) (i c:Int),0<=i->(l.length:Int)-i=e->∃ r,∀ k,e<k->spec_CountStorms.l0 k l c i=some r:=by
 intro e
 induction e with
 |zero =>
  intro i c h0 he
  refine⟨c,fun k hk=>?_⟩
  obtain⟨k,rfl⟩:=Yk k
  rw[spec_CountStorms.l0,if_neg Om]
 |succ e ih =>
  intro i c h0 he
  have hlt:i<(l.length:Int):=by omega
  by_cases b:rdOf false l i=true
  ·obtain⟨r,hr⟩:=ih (i+1) (wrap64 (c+1)) Om Om
   refine⟨r,fun k hk=>?_⟩
   obtain⟨k,rfl⟩:=Yk k
   rw[spec_CountStorms.l0,if_pos hlt,if_pos h0,if_pos b,Zp (n:=l.length) h0 hlt hl]
   exact hr k Om
  ·obtain⟨r,hr⟩:=ih (i+1) c Om Om
   refine⟨r,fun k hk=>?_⟩
   obtain⟨k,rfl⟩:=Yk k
   rw[spec_CountStorms.l0,if_pos hlt,if_pos h0,if_neg b,Zp (n:=l.length) h0 hlt hl]
   exact hr k Om
theorem ZUa (v w:Int) (l:List Bool) (hw:1<=w/\w<=10) (hl:l.length<=1048576):∃ t,∀ k,l.length<k->spec_MayStorm.f k v w l=some t:=by
 have e1:wrap64 ((l.length:Int)+1)=(l.length:Int)+1:=Yw
 have e2:wrap64 ((l.length:Int)+1-w)=(l.length:Int)+1-w:=Yw
 have e3:wrap64 (w-1)=w-1:=Yw
 obtain⟨t,ht⟩:∃ t,t=mx 0 ((l.length:Int)+1-w):=⟨_,rfl⟩
 have hm:spec_Max.f 0 ((l.length:Int)+1-w)=some t:=by subst ht;unfold spec_Max.f mx;split <;> rfl
 have h0:0<=t/\t<=(l.length:Int):=by subst ht;unfold mx;split <;> omega
 obtain⟨c,hc⟩:=Z3a (l.drop t.toNat) (by rw[List.length_drop];omega) (l.drop t.toNat).length 0 0 Om Om
 by_cases r:0<=v/\v<=w-1
 ·refine⟨decide (c<v),fun k hk=>?_⟩
  have hc2:=hc k (by rw[List.length_drop];omega)
  unfold spec_MayStorm.f spec_IsRule.f spec_CountStorms.f
  simp only[Zj,hw,and_self,decide_true,Ob,if_true,e3,r,e1,e2,hm,if_pos h0.1,if_pos h0.2,hc2]
 ·refine⟨false,fun k hk=>?_⟩
  unfold spec_MayStorm.f spec_IsRule.f
  simp only[Zj,hw,and_self,decide_true,Ob,if_true,e3,r,decide_false,Bool.false_eq_true,if_false]
theorem Zwb (d:List Int) (hd:d.length<=1048576) (n v w:Int) (hn:n<=10) (hw:1<=w/\w<=10):∀ (e:Nat) (i:Int) (acc:List Bool) (p s:Int),0<=i->n-i<=e->(acc.length:Int)=i->i<=10->0<=p->p<=d.length ->
  ∃ q p' s',q.length<=10/\0<=p'/\p'<=(d.length:Int)/\∀ k,11+e<k->spec_l6Past.l0 k n acc i d p s v w=some (q,p',s'):=by
 intro e
 induction e with
 |zero =>
  intro i acc p s h0 he ha hi hp hp2
  refine⟨acc,p,s,by omega,hp,hp2,fun k hk=>?_⟩
  obtain⟨k,rfl⟩:=Yk k
  rw[spec_l6Past.l0,if_neg Om]
 |succ e ih =>
  intro i acc p s h0 he ha hi hp hp2
  by_cases c:i<n
  ·obtain⟨t,ht⟩:=ZUa v w acc hw Om
   have wi:wrap64 (i+1)=i+1:=Yw
   have q1:acc.length<140737488355328:=by omega
   by_cases b:t=true
   ·obtain⟨f,p1,s1,e1,hp1,hp1'⟩:=Zea d p s 2 hd hp hp2
    obtain⟨q,p',s',hq,hp',hp'',hk2⟩:=ih (i+1) (acc++[f]) p1 s1 Om Om (by simp;omega) Om hp1 hp1'
    refine⟨q,p',s',hq,hp',hp'',fun k hk=>?_⟩
    obtain⟨k,rfl⟩:=Yk k
    rw[spec_l6Past.l0,if_pos c,ht k Om,Ob,if_pos b,e1,Ob,if_pos q1,wi]
    exact hk2 k Om
   ·obtain⟨q,p',s',hq,hp',hp'',hk2⟩:=ih (i+1) (acc++[false]) p s Om Om (by simp;omega) Om hp hp2
    refine⟨q,p',s',hq,hp',hp'',fun k hk=>?_⟩
    obtain⟨k,rfl⟩:=Yk k
    rw[spec_l6Past.l0,if_pos c,ht k Om,Ob,if_neg b,if_pos q1,wi]
    exact hk2 k Om
  ·refine⟨acc,p,s,by omega,hp,hp2,fun k hk=>?_⟩
   obtain⟨k,rfl⟩:=Yk k
   rw[spec_l6Past.l0,if_neg c]
theorem Zpb (d:List Int) (p s:Int) (hd:d.length<=1048576) (hp:0<=p) (hp2:p<=d.length) (W H:Int) (xs:List Int) (hx:xs.length<=64) (v w:Int) (hw:1<=w/\w<=10) :
  ∃ a b l h p' s',(0<=b/\b<60)/\l.length<=6/\h.length<=10/\0<=p'/\p'<=(d.length:Int)/\∀ k,1100<k->spec_l9Draw.f k d p s W H xs v w=some (a,b,l,h,p',s'):=by
 obtain⟨b,p1,s1,e1,⟨b0,b1,_⟩,hp1,hp1'⟩:=Zg d p s 60 hd hp hp2
 obtain⟨l,p2,s2,hl1,hl,hp2a,hp2b,hk2⟩:=ZMa d hd 5 [] 1 p1 s1 Om Om (by simp) Om hp1 hp1'
 obtain⟨n,p3,s3,e3,⟨n0,n1,_⟩,hp3,hp3'⟩:=Zg d p2 s2 8 hd hp2a hp2b
 have:=n1 Om
 obtain⟨h,p4,s4,hh,hp4,hp4',hk4⟩:=Zwb d hd n v w Om hw 8 0 [] p3 s3 Om Om (by simp) Om hp3 hp3'
 obtain⟨r,hr,hk5⟩:=ZJb W H xs hx 0 99
 have f2:∀ k,1100<k->spec_l7Draw.f k d p1 s1=some (l,p2,s2):=fun k hk=>hk2 k Om
 have f4:∀ k,1100<k->spec_l6Past.f k d p3 s3 v w n=some (h,p4,s4):=fun k hk=>hk4 k Om
 unfold spec_l9Draw.f
 by_cases c:(r.length:Int)>0
 ·obtain⟨m,p5,s5,e5,⟨m0,m1,_⟩,hp5,hp5'⟩:=Zg d p4 s4 (r.length:Int) hd hp4 hp4'
  have m2:=m1 Om
  exact⟨rd r m,b,l,h,p5,s5,⟨b0,b1 Om⟩,hl,hh,hp5,hp5',fun k hk=>by simp only[e1,Ob,f2 k hk,e3,f4 k hk,hk5 k hk,if_pos c,e5,if_pos m0,if_pos m2]⟩
 ·exact⟨0,b,l,h,p4,s4,⟨b0,b1 Om⟩,hl,hh,hp4,hp4',fun k hk=>by simp only[e1,Ob,f2 k hk,e3,f4 k hk,hk5 k hk,if_neg c]⟩
theorem Z0a (d:List Int) (hd:d.length<=1048576) (W H:Int) (xs:List Int) (hx:xs.length<=64):∀ (e:Nat) (i:Int) (ds:List S73) (p s:Int),i<=e->(ds.length:Int)+i<=3->ds.length<=3->0<=p->p<=d.length ->
  ∃ q p' s',q.length<=3/\0<=p'/\p'<=(d.length:Int)/\∀ k,1300+e<k->spec_l8Draw.l0 k ds i d p s W H xs=some (q,p',s'):=by
 obtain⟨lb,oc,A⟩:=ZZa W H xs Om
 intro e
 induction e with
 |zero =>
  intro i ds p s he hl hl3 hp hp2
  refine⟨ds,p,s,hl3,hp,hp2,fun k hk=>?_⟩
  obtain⟨k,rfl⟩:=Yk k
  rw[spec_l8Draw.l0,if_neg Om]
 |succ e ih =>
  intro i ds p s he hl hl3 hp hp2
  by_cases c:i>0
  ·obtain⟨u,p1,s1,e1,_,hp1,hp1'⟩:=Zg d p s 20 hd hp hp2
   obtain⟨v,p2,s2,e2,_,hp2a,hp2b⟩:=Zg d p1 s1 30 hd hp1 hp1'
   obtain⟨D,o,_,hD,hL⟩:=Zdc A.toLandEv ds Om u (wrap64 (1+v))
   have hw:wrap64 (i-1)=i-1:=by clear hL;unfold wrap64;omega
   obtain⟨q,p',s',hq,hp',hp'',hk2⟩:=ih (i-1) D p2 s2 Om Om Om hp2a hp2b
   refine⟨q,p',s',hq,hp',hp'',fun k hk=>?_⟩
   obtain⟨k,rfl⟩:=Yk k
   rw[spec_l8Draw.l0,if_pos c,e1,Ob,e2,Ob,(hL k Om).2,Ob,hw]
   exact hk2 k Om
  ·refine⟨ds,p,s,hl3,hp,hp2,fun k hk=>?_⟩
   obtain⟨k,rfl⟩:=Yk k
   rw[spec_l8Draw.l0,if_neg c]
theorem Zeb (d:List Int) (p s:Int) (hd:d.length<=1048576) (hp:0<=p) (hp2:p<=d.length) :
  ∃ W H xs base M Wi ds a b l h p' s',xs.length<=64/\ds.length<=3/\l.length<=6/\h.length<=10/\(0<=b/\b<60)/\0<=p'/\p'<=(d.length:Int)/\∀ k,1400<k->spec_l10Case.f k d p s=some (W,H,xs,base,M,Wi,ds,a,b,l,h,p',s'):=by
 obtain⟨W,H,xs,p1,s1,⟨_,hx⟩,hp1,hp1',h1⟩:=ZKa d p s hd hp hp2
 obtain⟨v,w,p2,s2,e2,hw,hp2a,hp2b⟩:=Z1b d p1 s1 hd hp1 hp1'
 obtain⟨n,p3,s3,e3,⟨n0,n1,_⟩,hp3,hp3'⟩:=Zg d p2 s2 4 hd hp2a hp2b
 have n2:=n1 Om
 obtain⟨ds,p4,s4,hds,hp4,hp4',h4⟩:=Z0a d hd W H xs hx 3 n [] p3 s3 Om (by simp;omega) (by simp) hp3 hp3'
 obtain⟨a,b,l,h,p5,s5,hb,hl,hh,hp5,hp5',h5⟩:=Zpb d p4 s4 hd hp4 hp4' W H xs hx v w hw
 obtain⟨c,p6,s6,e6,_,hp6,hp6'⟩:=Zg d p5 s5 12 hd hp5 hp5'
 have g4:∀ k,1400<k->spec_l8Draw.f k d p2 s2 W H xs=some (ds,p4,s4):=fun k hk=>by
  unfold spec_l8Draw.f
  rw[e3,Ob]
  exact h4 k Om
 unfold spec_l10Case.f
 by_cases c0:c=0
 ·obtain⟨u,p7,s7,e7,_,hp7,hp7'⟩:=Zg d p6 s6 20 hd hp6 hp6'
  exact⟨W,H,xs,u,v,w,ds,a,b,l,h,p7,s7,hx,hds,hl,hh,hb,hp7,hp7',fun k hk=>by simp only[h1 k Om,Ob,e2,g4 k hk,h5 k Om,e6,if_pos c0,e7]⟩
 ·by_cases c1:c=1
  ·obtain⟨W2,H2,ys,p7,s7,hy,hp7,hp7',h7⟩:=ZMb d p6 s6 hd hp6 hp6'
   exact⟨W2,H2,ys,0,v,w,ds,a,b,l,h,p7,s7,hy,hds,hl,hh,hb,hp7,hp7',fun k hk=>by simp only[h1 k Om,Ob,e2,g4 k hk,h5 k Om,e6,if_neg c0,if_pos c1,h7 k Om]⟩
  ·by_cases c2:c=2
   ·exact⟨W,H,xs,0,w,w,ds,a,b,l,h,p6,s6,hx,hds,hl,hh,hb,hp6,hp6',fun k hk=>by simp only[h1 k Om,Ob,e2,g4 k hk,h5 k Om,e6,if_neg c0,if_neg c1,if_pos c2]⟩
   ·by_cases c3:c=3
    ·exact⟨W,H,xs,0,v,w,ds,a,0,l,h,p6,s6,hx,hds,hl,hh,⟨by omega,by omega⟩,hp6,hp6',fun k hk=>by simp only[h1 k Om,Ob,e2,g4 k hk,h5 k Om,e6,if_neg c0,if_neg c1,if_neg c2,if_pos c3]⟩
    ·exact⟨W,H,xs,0,v,w,ds,a,b,l,h,p6,s6,hx,hds,hl,hh,hb,hp6,hp6',fun k hk=>by simp only[h1 k Om,Ob,e2,g4 k hk,h5 k Om,e6,if_neg c0,if_neg c1,if_neg c2,if_neg c3]⟩
theorem Z7a (d:List Int) (hd:d.length<=1048576):∃ W H xs base M Wi ds a b l h f,xs.length<=64/\ds.length<=3/\l.length<=6/\h.length<=10/\(0<=b/\b<60)/\∀ k,d.length+1400<k->spec_DrawReturnStep.f k d=some (W,H,xs,base,M,Wi,ds,a,b,l,h,f):=by
 obtain⟨s,hs⟩:=Zsb d hd
 obtain⟨W,H,xs,base,M,Wi,ds,a,b,l,h,p1,s1,hx,hds,hl,hh,hb,hp1,hp1',h1⟩:=Zeb d 0 s hd Om Om
 obtain⟨f,p3,s3,e3,_,_⟩:=Zea d p1 s1 2 hd hp1 hp1'
 refine⟨W,H,xs,base,M,Wi,ds,a,b,l,h,f,hx,hds,hl,hh,hb,fun k hk=>?_⟩
 unfold spec_DrawReturnStep.f
 simp only[hs k Om,Ob,h1 k Om,e3]
def Zk (l:List Bool):Nat:=l.count true
def Zs (l:List Bool) (n:Nat):List Bool:=l.drop (l.length-n)
def Zh (M W:Int) (l:List Bool):Bool:=Zu M W && decide ((Zk (Zs l (W-1).toNat):Int)<M)
theorem Zqa {M W:Int} (h:Zu M W=true):(1<=W/\W<=10)/\0<=M/\M<=W-1:=by
 unfold Zu at h
 rw[Bool.and_eq_true,decide_eq_true_eq,decide_eq_true_eq] at h
 exact h
theorem Z9 (l:List Bool) (hl:l.length<=1048576):∀ (e i a:Nat),l.length=i+e->a<=i->∀ k,e<k->impl_CountStorms.l0 k (a:Int) l (l.length:Int) (i:Int)=some ((a+Zk (l.drop i):Nat):Int)
 |0,i,a,h,_,k,hk=>by
  obtain⟨k,rfl⟩:∃ j,k=j+1:=⟨k-1,by omega⟩
  have c:¬ (i:Int)<(l.length:Int):=by omega
  rw[impl_CountStorms.l0,if_neg c,List.drop_eq_nil_of_le Om];rfl
 |e+1,i,a,h,ha,k,hk=>by
  obtain⟨k,rfl⟩:∃ j,k=j+1:=⟨k-1,by omega⟩
  have c:(i:Int)<(l.length:Int):=by omega
  have c0:(0:Int)<=(i:Int):=by omega
  have w1:wrap64 ((a:Int)+1)=((a+1:Nat):Int):=Yw
  have w2:wrap64 ((i:Int)+1)=((i+1:Nat):Int):=Yw
  have hd:l.drop i=l[i]' Om :: l.drop (i+1):=List.drop_eq_getElem_cons Om
  have hr:rdOf false l (i:Int)=l[i]' Om:=by unfold rdOf;rw[Int.toNat_natCast,List.getD_eq_getElem?_getD,List.getElem?_eq_getElem Om];rfl
  rw[impl_CountStorms.l0,if_pos c,if_pos c0,if_pos c,hr,hd]
  by_cases q:l[i]' Om=true
  ·rw[if_pos q,w1,w2,Z9 l hl e (i+1) (a+1) Om Om k Om,q]
   unfold Zk;rw[List.count_cons_self];congr 2;omega
  ·rw[if_neg q,w2,Z9 l hl e (i+1) a Om Om k Om]
   have q':l[i]' Om=false:=by simpa using q
   unfold Zk;rw[q',List.count_cons_of_ne (by decide)]
theorem Zy (M W:Int) (l:List Bool) (hl:l.length<=1048576):∀ k,l.length<k->impl_MayStorm.f k M W l=some (Zh M W l):=by
 intro k hk
 obtain⟨r1,_⟩:=ZS M W
 by_cases h:Zu M W=true
 ·have hW:=(Zqa h).1
  have e1:wrap64 (W-1)=W-1:=Yw
  have e2:wrap64 ((l.length:Int)-(W-1))=(l.length:Int)-(W-1):=Yw
  obtain⟨t,ht⟩:∃ t:Nat,t=l.length-(W-1).toNat:=⟨_,rfl⟩
  have e3:mx ((l.length:Int)-(W-1)) 0=(t:Int):=by unfold mx;split <;> omega
  have e4:(0:Int)<=(t:Int):=by omega
  have e5:(t:Int)<=(l.length:Int):=by omega
  have hc:=Z9 (l.drop t) (by rw[List.length_drop];omega) (l.drop t).length 0 0 Om Om k (by rw[List.length_drop];omega)
  rw[List.drop_zero,Nat.zero_add] at hc
  have hc':impl_CountStorms.f k (l.drop t)=some ((Zk (l.drop t):Nat):Int):=hc
  unfold impl_MayStorm.f impl_last.f Zh Zs
  rw[r1]
  simp only[h,Ob,if_true,e1,e2,e3,if_pos e4,if_pos e5,Int.toNat_natCast,hc',<-ht,Bool.true_and]
 ·unfold impl_MayStorm.f Zh
  rw[r1]
  simp[h]
theorem ZQ (h:List Bool) (s:Bool) (j:Nat) (hj:j<=9):Zk (Zs (Zc h s) (j+1))=Zk (Zs h j)+if s=true then 1 else 0:=by
 unfold Zs Zc Zk
 rw[List.length_drop,List.drop_drop,List.length_append,List.length_singleton]
 have e:h.length+1-10+(h.length+1-(h.length+1-10)-(j+1))=h.length-j:=by omega
 rw[e,List.drop_append_of_le_length Om,List.count_append]
 cases s <;> simp
def Dom (h1 h2:List Bool) (d:Nat):Prop:=∀ j,j<=9->Zk (Zs h2 j)<=Zk (Zs h1 j)+d
theorem Z2 {h1 h2:List Bool} {d:Nat} (D:Dom h1 h2 d) (a b:Bool) (d':Nat) (hd2:d'+(if a=true then 1 else 0)=d+(if b=true then 1 else 0)):Dom (Zc h1 a) (Zc h2 b) d':=by
 intro j hj
 cases j with
 |zero=>unfold Zs Zk;rw[Nat.sub_zero,List.drop_length];simp
 |succ j =>
  rw[ZQ h1 a j Om,ZQ h2 b j Om]
  have:=D j Om
  omega
def okB (M W:Int) (N:Nat):Nat->List Bool->Nat->Nat->Bool
 |0,_,m,_=>m==0
 |_+1,_,0,_=>true
 |f+1,h,m+1,b=>if b<N then false else if Zh M W h=true then okB M W N f (Zc h true) (m+1) (b-N) else okB M W N f (Zc h false) m (b-N)
theorem ZV {M W:Int} (hr:Zu M W=true) (N:Nat):∀ (f:Nat) (h1 h2:List Bool) (m1 m2 b:Nat),m1<=m2->Dom h1 h2 (m2-m1)->okB M W N f h2 m2 b=true->okB M W N f h1 m1 b=true
 |0,h1,h2,m1,m2,b,hm,D,ok=>by
  have:m2=0:=by simpa [okB] using ok
  have:m1=0:=by omega
  simp[okB,this]
 |f+1,h1,h2,0,m2,b,hm,D,ok=>rfl
 |f+1,h1,h2,m1+1,0,b,hm,D,ok=>absurd hm Om
 |f+1,h1,h2,m1+1,m2+1,b,hm,D,ok=>by
  rw[okB] at ok ⊢
  by_cases hb:b<N
  ·rw[if_pos hb] at ok;cases ok
  ·rw[if_neg hb] at ok ⊢
   have hW:=Zqa hr
   have key:Zh M W h1=true->Zh M W h2=false->m1+1<=m2:=by
    intro a1 a2
    unfold Zh at a1 a2
    rw[hr,Bool.true_and,decide_eq_true_eq] at a1
    rw[hr,Bool.true_and,decide_eq_false_iff_not] at a2
    have:=D (W-1).toNat Om
    omega
   by_cases a1:Zh M W h1=true
   ·rw[if_pos a1]
    by_cases a2:Zh M W h2=true
    ·rw[if_pos a2] at ok
     exact ZV hr N f _ _ _ _ _ hm (Z2 D true true _ (by simp)) ok
    ·rw[if_neg a2] at ok
     have a2':Zh M W h2=false:=by simpa using a2
     have k:=key a1 a2'
     exact ZV hr N f _ _ _ _ _ k (Z2 D true false _ (by simp;omega)) ok
   ·rw[if_neg a1]
    by_cases a2:Zh M W h2=true
    ·rw[if_pos a2] at ok
     exact ZV hr N f _ _ _ _ _ Om (Z2 D false true _ (by simp;omega)) ok
    ·rw[if_neg a2] at ok
     exact ZV hr N f _ _ _ _ _ Om (Z2 D false false _ (by simp)) ok
theorem ZY (M W:Int) {N:Nat} (hN:1<=N):∀ (f f':Nat) (h:List Bool) (m b:Nat),b<f->b<f'->okB M W N f h m b=okB M W N f' h m b
 |0,_,_,_,_,h1,_=>absurd h1 Om
 |_,0,_,_,_,_,h2=>absurd h2 Om
 |f+1,f'+1,h,0,b,_,_=>rfl
 |f+1,f'+1,h,m+1,b,h1,h2=>by
  rw[okB,okB]
  by_cases hb:b<N
  ·rw[if_pos hb,if_pos hb]
  ·rw[if_neg hb,if_neg hb,ZY M W hN f f' (Zc h true) (m+1) (b-N) Om Om,ZY M W hN f f' (Zc h false) m (b-N) Om Om]
theorem ZDb {M W:Int} (hr:Zu M W=true) {N:Nat} (hN:1<=N) (h:List Bool) (m b:Nat) (ok:okB M W N (b+1) h (m+1) b=true) :
  N<=b/\(Zh M W h=true->okB M W N (b-N+1) (Zc h true) (m+1) (b-N)=true)/\okB M W N (b-N+1) (Zc h false) m (b-N)=true:=by
 rw[okB] at ok
 by_cases hb:b<N
 ·rw[if_pos hb] at ok;cases ok
 ·rw[if_neg hb] at ok
  by_cases a:Zh M W h=true
  ·rw[if_pos a,ZY M W hN b (b-N+1) _ _ _ Om Om] at ok
   refine⟨by omega,fun _=>ok,ZV hr N _ _ _ _ _ _ (Nat.le_succ m) ?_ ok⟩
   intro j hj
   cases j with
   |zero=>unfold Zs Zk;rw[Nat.sub_zero,List.drop_length];simp
   |succ j=>rw[ZQ h false j Om,ZQ h true j Om];simp
  ·rw[if_neg a,ZY M W hN b (b-N+1) _ _ _ Om Om] at ok
   exact⟨by omega,fun e=>absurd e a,ok⟩
def ZC (M W:Int) (N C:Nat) (D:Int->Nat):Nat->List Bool->List Int->Nat->Option Nat
 |0,_,_,_=>none
 |_+1,_,[],b=>some b
 |f+1,h,c :: cs,b=>if b<N then none else if Zh M W h=true then ZC M W N C D f (Zc h true) (c :: cs) (b-N) else ZC M W N C D f (Zc h false) cs (b-N+min (C-(b-N)) (D c))
theorem Zja (a b n:Int) (l:List S76) (h:List Bool) (hl:l.length<=1048576) (hh:h.length<=1048576) (hb:0<=b/\b<=1000000) (hn:0<=n/\n<=1000000) {C:Nat} (hC:C<=800) (hcap:∀ k,3 * l.length+3<k->impl_CapOf.f k l=some (C:Int)) :
  ∀ k,3 * l.length+3<k->impl_PickUp.f k a b l h n=some (a,((b.toNat+min (C-b.toNat) n.toNat:Nat):Int),l,h,((min (C-b.toNat) n.toNat:Nat):Int)):=by
 intro k hk
 have c1:=(ZJ a b l h hl hh).1
 have h1:¬ n<0:=by omega
 have h2:¬ b<0:=by omega
 have hr:impl_RoomFor.f k a b l h=some (((C-b.toNat:Nat)):Int):=by
  unfold impl_RoomFor.f
  rw[if_neg h2,hcap k hk,Ob]
  by_cases c:b>=(C:Int)
  ·rw[if_pos c];congr 1;omega
  ·rw[if_neg c,Ob]
   have hw:wrap64 ((C:Int)-b)=(C:Int)-b:=Yw
   rw[hw];congr 1;omega
 have hm:mn n (((C-b.toNat:Nat)):Int)=((min (C-b.toNat) n.toNat:Nat):Int):=by unfold mn;split <;> omega
 have hw:wrap64 (b+((min (C-b.toNat) n.toNat:Nat):Int))=((b.toNat+min (C-b.toNat) n.toNat:Nat):Int):=by
  have:min (C-b.toNat) n.toNat<=800:=by omega
  unfold wrap64;omega
 unfold impl_PickUp.f
 simp only[c1,Ob,if_neg h1,hr,hm,hw]
theorem ZNa (i:Nat) (h:i<1000000):wrap64 ((i:Int)+1)=((i+1:Nat):Int):=Yw
theorem ZPb (b N:Nat) (h:N<=b) (h2:b<1000000):wrap64 ((b:Int)-(N:Int))=((b-N:Nat):Int):=Yw
theorem Zjb (ws:List Int) (hws:ws.length<=64) (ds:List S73) (hds:ds.length<=1048576) (M W:Int) (l:List S76) (hl:l.length<=8) {N C G:Nat} (hN:1<=N/\N<=80) (hC:C<=800) (hG:801<=G)
  (hc:∀ k,l.length<k->impl_AreCrew.f k l=some true) (hneed:∀ k,2 * l.length+3<k->impl_NeedOf.f k l=some (N:Int)) (hcap:∀ k,3 * l.length+3<k->impl_CapOf.f k l=some (C:Int))
  {D:Int->Nat} (hD:∀ c,D c<=10000) (hfood:∀ c k,ds.length<k->impl_FoodAt.f k ds c=some (D c:Int)) :
  ∀ (F:Nat) (i:Nat) (at_:Int) (b:Nat) (h days:List Bool),i+1<=ws.length->h.length<=10->(ws.drop (i+1)).length * G+b<F->F<=1000000000->b<=20000->days.length+F<=2000000000 ->
  ∃ ys,∀ k,ds.length+100+F<k->impl_worst.l0 k ws ds days (i:Int) M W at_ (b:Int) l h=some (match ZC M W N C D F h (ws.drop (i+1)) b with|some v=>((v:Int),ys,true)|none=>(0,ys,false)):=by
 intro F
 induction F with
 |zero=>intro i at_ b h days h1 h2 h3;omega
 |succ F ih =>
  intro i at_ b h days hi hh hF hF2 hb hdl
  by_cases e:i+1<ws.length
  ·have hlt:((i+1:Nat):Int)<(ws.length:Int):=by omega
   have h0:(0:Int)<=((i+1:Nat):Int):=by omega
   have hdr:ws.drop (i+1)=ws[i+1]'e :: ws.drop (i+1+1):=List.drop_eq_getElem_cons e
   have hrd:rd ws ((i+1:Nat):Int)=ws[i+1]'e:=by unfold rd;rw[Int.toNat_natCast,List.getD_eq_getElem?_getD,List.getElem?_eq_getElem e];rfl
   have hdays:days.length<140737488355328:=by omega
   have hlen:(ws.drop (i+1)).length * G=(ws.drop (i+1+1)).length * G+G:=by rw[hdr,List.length_cons,Nat.succ_mul]
   have heat:∀ k,2 * l.length+3<k->impl_Eat.f k at_ (b:Int) l h=some (if b<N then(at_,(b:Int),l,h,false) else(at_,((b-N:Nat):Int),l,h,true)):=by
    intro k hk
    have c1:=(ZJ at_ (b:Int) l h Om Om).1
    unfold impl_Eat.f
    simp only[c1,Ob,hc k Om,if_true,hneed k hk]
    by_cases q:b<N
    ·rw[if_pos q,if_pos Om]
    ·rw[if_neg q,if_neg Om,ZPb b N Om Om]
   rw[hdr,ZC]
   by_cases q:b<N
   ·refine⟨days,fun k hk=>?_⟩
    obtain⟨k,rfl⟩:=Yk k
    rw[impl_worst.l0,ZNa i Om,if_pos hlt,heat k Om,if_pos q,if_pos q]
    simp only[Ob,Bool.false_eq_true,if_false]
   ·by_cases s:Zh M W h=true
    ·have a1:=(ZI h true Om).1
     have hl2:=Zt h true
     obtain⟨ys,hys⟩:=ih i at_ (b-N) (Zc h true) (days++[true]) hi hl2 Om Om Om (by rw[List.length_append,List.length_singleton];omega)
     rw[hdr] at hys
     refine⟨ys,fun k hk=>?_⟩
     obtain⟨k,rfl⟩:=Yk k
     rw[impl_worst.l0,ZNa i Om,if_pos hlt,heat k Om,if_neg q,if_neg q,if_pos s]
     simp only[Ob,if_true,Zy M W h Om k Om,s,a1,if_pos hdays]
     exact hys k Om
    ·have s2:Zh M W h=false:=by simpa using s
     have a1:=(ZI h false Om).1
     have hl2:=Zt h false
     have hp:=Zja (rd ws ((i+1:Nat):Int)) ((b-N:Nat):Int) ((D (ws[i+1]'e):Nat):Int) l h Om Om Om (by have:=hD (ws[i+1]'e);omega) hC hcap
     rw[Int.toNat_natCast,Int.toNat_natCast] at hp
     obtain⟨ys,hys⟩:=ih (i+1) (rd ws ((i+1:Nat):Int)) (b-N+min (C-(b-N)) (D (ws[i+1]'e))) (Zc h false) (days++[false]) Om hl2 Om Om Om (by rw[List.length_append,List.length_singleton];omega)
     refine⟨ys,fun k hk=>?_⟩
     obtain⟨k,rfl⟩:=Yk k
     rw[impl_worst.l0,ZNa i Om,if_pos hlt,heat k Om,if_neg q,if_neg q,if_neg s]
     simp only[Ob,if_true,Zy M W h Om k Om,s2,Bool.false_eq_true,if_false,if_pos h0]
     rw[hfood _ k Om,hrd,Ob]
     rw[hrd] at hp hys
     rw[hp k Om,Ob]
     simp only[a1,Ob,if_pos hdays]
     exact hys k Om
  ·have hd0:ws.drop (i+1)=[]:=List.drop_eq_nil_of_le Om
   have hlt:¬ ((i+1:Nat):Int)<(ws.length:Int):=by omega
   refine⟨days,fun k hk=>?_⟩
   obtain⟨k,rfl⟩:=Yk k
   rw[impl_worst.l0,ZNa i Om,if_neg hlt,hd0,ZC]
theorem Zua {M W:Int} {N C G:Nat} (hN:1<=N) (hC:C<=800) (hG:801<=G) (D:Int->Nat):∀ (g f:Nat) (h:List Bool) (cs:List Int) (b b2:Nat),b<=b2->b<f->cs.length * G+b2<g->okB M W N f h cs.length b=true->∃ v,ZC M W N C D g h cs b2=some v:=by
 intro g
 induction g with
 |zero=>intro f h cs b b2 _ _ h3;omega
 |succ g ih =>
  intro f h cs b b2 hb hf hg ok
  obtain⟨f,rfl⟩:∃ m,f=m+1:=⟨f-1,by omega⟩
  cases cs with
  |nil=>exact⟨b2,rfl⟩
  |cons c cs =>
   have e:(c :: cs).length * G=cs.length * G+G:=by rw[List.length_cons,Nat.succ_mul]
   rw[e] at hg
   rw[List.length_cons,okB] at ok
   by_cases q:b<N
   ·rw[if_pos q] at ok;cases ok
   ·rw[if_neg q] at ok
    have q2:¬ b2<N:=by omega
    have hm:min (C-(b2-N)) (D c)<=800:=by omega
    rw[ZC,if_neg q2]
    by_cases s:Zh M W h=true
    ·rw[if_pos s] at ok ⊢
     exact ih f (Zc h true) (c :: cs) (b-N) (b2-N) Om Om (by rw[e];omega) (by rw[List.length_cons];exact ok)
    ·rw[if_neg s] at ok ⊢
     exact ih f (Zc h false) cs (b-N) _ Om Om Om ok
theorem Zib {M W:Int} {N C G:Nat} (hN:1<=N) (hG:801<=G):∀ (g f:Nat) (h:List Bool) (cs:List Int) (b v:Nat),b<f->cs.length * G+b<g->ZC M W N C (fun _=>0) g h cs b=some v->okB M W N f h cs.length b=true:=by
 intro g
 induction g with
 |zero=>intro f h cs b v _ h3;omega
 |succ g ih =>
  intro f h cs b v hf hg hl
  obtain⟨f,rfl⟩:∃ m,f=m+1:=⟨f-1,by omega⟩
  cases cs with
  |nil=>rfl
  |cons c cs =>
   have e:(c :: cs).length * G=cs.length * G+G:=by rw[List.length_cons,Nat.succ_mul]
   rw[e] at hg
   rw[ZC] at hl
   rw[List.length_cons,okB]
   by_cases q:b<N
   ·rw[if_pos q] at hl;cases hl
   ·rw[if_neg q] at hl ⊢
    by_cases s:Zh M W h=true
    ·rw[if_pos s] at hl ⊢
     have:=ih f (Zc h true) (c :: cs) (b-N) v Om (by rw[e];omega) hl
     rwa [List.length_cons] at this
    ·rw[if_neg s] at hl ⊢
     rw[Nat.min_zero,Nat.add_zero] at hl
     exact ih f (Zc h false) cs (b-N) v Om Om hl
def Zi (M W:Int):Nat->List Bool->Nat->Nat
 |0,_,_=>0
 |_+1,_,0=>0
 |f+1,h,n+1=>if Zh M W h=true then Zi M W f (Zc h true) (n+1)+1 else Zi M W f (Zc h false) n+1
theorem Z5 {M W:Int} {N:Nat} (hN:1<=N):∀ (f:Nat) (h:List Bool) (n b:Nat),N * Zi M W f h n<=b->b<f->(∀ g,f<=g->Zi M W g h n=Zi M W f h n)->okB M W N f h n b=true
 |0,_,_,_,_,h2,_=>absurd h2 Om
 |f+1,h,0,b,_,_,_=>rfl
 |f+1,h,n+1,b,h1,h2,h3=>by
  rw[Zi] at h1
  rw[okB]
  have e:=h3 (f+2) Om
  by_cases s:Zh M W h=true
  ·rw[if_pos s,Nat.mul_add,Nat.mul_one] at h1
   have q:¬ b<N:=by omega
   rw[if_neg q,if_pos s]
   refine Z5 hN f (Zc h true) (n+1) (b-N) Om Om (fun g hg=>?_)
   have e2:=h3 (g+1) Om
   rw[Zi,Zi,if_pos s,if_pos s] at e2
   omega
  ·rw[if_neg s,Nat.mul_add,Nat.mul_one] at h1
   have q:¬ b<N:=by omega
   rw[if_neg q,if_neg s]
   refine Z5 hN f (Zc h false) n (b-N) Om Om (fun g hg=>?_)
   have e2:=h3 (g+1) Om
   rw[Zi,Zi,if_neg s,if_neg s] at e2
   omega
structure Home (W H:Int) (xs:List Int) (base a:Int) (ws:List Int) (n:Int):Prop where
 way:∀ k,xs.length+1000<k->impl_WayTo.f k W H xs a base=some ws
 days:∀ k,xs.length+1000<k->impl_Days.f k W H xs a base=some n
 len:ws.length<=64
 no:ws=[]->n<0
 yes:ws≠[]->n=(ws.length:Int)-1/\(a=base↔ws.length=1)
 op:ws≠[]->∀ k,xs.length+1000<k->impl_IsOpen.f k W H xs a=some true
theorem ZCa {W H:Int} {xs:List Int} (L:LandOk W H xs) (a b:Int):Home W H xs b a (Zv W xs a b) (if opn xs a=true/\opn xs b=true then rd (Zb W xs a) b else -1):=by
 refine⟨fun k hk=>(ZSa L a b k Om).1,fun k hk=>(Zdb L a b k Om).1,ZGa L,?_,?_,?_⟩
 ·intro h
  unfold Zv at h
  by_cases c:(opn xs a=true/\opn xs b=true)/\0<=rd (Zb W xs a) b
  ·rw[if_pos c] at h
   have:=ZH W xs (Zb W xs b) (rd (Zb W xs b) a).toNat a
   rw[h] at this
   cases this
  ·by_cases c2:opn xs a=true/\opn xs b=true
   ·rw[if_pos c2]
    have:¬ 0<=rd (Zb W xs a) b:=fun h2=>c ⟨c2,h2⟩
    omega
   ·rw[if_neg c2];omega
 ·intro h
  unfold Zv at h ⊢
  by_cases c:(opn xs a=true/\opn xs b=true)/\0<=rd (Zb W xs a) b
  ·have hr:=ZK L c.1.1 c.1.2 c.2
   rw[if_pos c,ZH,if_pos c.1,Zsa L c.1.1 c.1.2 c.2]
   refine⟨by omega,fun e=>?_,fun e=>?_⟩
   ·rw[e,(Zm L (Za c.1.2)).src0];rfl
   ·exact(Zm L (Za c.1.2)).zero a (Za c.1.1).1 (Za c.1.1).2 Om
  ·rw[if_neg c] at h
   exact absurd rfl h
 ·intro h k hk
  unfold Zv at h
  by_cases c:(opn xs a=true/\opn xs b=true)/\0<=rd (Zb W xs a) b
  ·rw[(Zq L a k Om).1,c.1.1]
  ·rw[if_neg c] at h
   exact absurd rfl h
theorem ZYb (W H:Int) (xs:List Int) (hx:xs.length<=1048576) (base a:Int):∃ ws n,Home W H xs base a ws n:=by
 rcases ZN W H xs hx with L|no
 ·exact⟨_,_,ZCa L a base⟩
 ·refine⟨[],-1,fun k hk=>(Zla a base k (no k Om)).1,fun k hk=>?_,by simp,fun _=>by omega,fun h=>absurd rfl h,fun h=>absurd rfl h⟩
  have o:=(ZT a k (no k Om)).1
  unfold impl_Days.f
  rw[o]
  simp only[Ob,Bool.false_eq_true,if_false]
theorem Zab {W H:Int} {xs:List Int} {base a:Int} {ws ws2:List Int} {n n2:Int} (h1:Home W H xs base a ws n) (h2:Home W H xs base a ws2 n2):ws=ws2/\n=n2:=by
 have e1:=h1.way (xs.length+1001) Om
 have e2:=h1.days (xs.length+1001) Om
 rw[h2.way (xs.length+1001) Om] at e1
 rw[h2.days (xs.length+1001) Om] at e2
 exact⟨(Option.some.inj e1).symm,(Option.some.inj e2).symm⟩
theorem Zba {W H:Int} {xs:List Int} (hx:xs.length<=1048576) {base a:Int} {ws:List Int} {n:Int} (h:Home W H xs base a ws n) (hne:ws≠[]) (ha:a≠base) :
  1<ws.length/\∃ ws',Home W H xs base (rd ws 1) ws' (n-1)/\ws'.length+1=ws.length/\ws'≠[]:=by
 rcases ZN W H xs hx with L|no
 ·obtain⟨e1,e2⟩:=Zab h (ZCa L a base)
  have hw:Zv W xs a base≠[]:=by rw[<-e1];exact hne
  by_cases c:(opn xs a=true/\opn xs base=true)/\0<=rd (Zb W xs a) base
  ·have hr:=ZK L c.1.1 c.1.2 c.2
   have hs:=Zsa L c.1.1 c.1.2 c.2
   have hne0:rd (Zb W xs base) a≠0:=fun e=>ha ((Zm L (Za c.1.2)).zero a (Za c.1.1).1 (Za c.1.1).2 e)
   obtain⟨m,hm⟩:∃ m:Nat,rd (Zb W xs base) a=(m:Int)+1:=⟨(rd (Zb W xs base) a-1).toNat,by omega⟩
   obtain⟨x,c1,c2,c3,c4,c5⟩:=Zha L c.1.2 c.1.1 m hm
   have hx2:=ZK L c.1.2 c4 Om
   have hs2:=Zsa L c4 c.1.2 hx2
   have ew:ws=a :: ZP W xs (Zb W xs base) m x:=by
    rw[e1];unfold Zv
    rw[if_pos c,show (rd (Zb W xs base) a).toNat=m+1 by omega,ZP,c2]
   have er:rd ws 1=x:=by
    rw[ew]
    cases m with
    |zero=>rfl
    |succ m=>rfl
   have el:ws.length=m+2:=by rw[ew,List.length_cons,ZH]
   have h2:=ZCa L x base
   have el2:(Zv W xs x base).length=m+1:=by
    unfold Zv
    rw[if_pos ⟨⟨c4,c.1.2⟩,hx2⟩,ZH,c5]
    omega
   refine⟨by omega,Zv W xs x base,?_,by omega,fun e=>by rw[e] at el2;cases el2⟩
   rw[er]
   rw[if_pos ⟨c4,c.1.2⟩,hs2,c5] at h2
   rw[if_pos c.1,hs,hm] at e2
   rw[show n-1=(m:Int) by omega]
   exact h2
  ·unfold Zv at hw
   rw[if_neg c] at hw
   exact absurd rfl hw
 ·have e1:=h.way (xs.length+1001) Om
  rw[(Zla a base _ (no _ Om)).1] at e1
  exact absurd (Option.some.inj e1).symm hne
def ZA (c:Int):List S73->Int
 |[]=>0
 |d :: r=>if d.f0=c then d.f1 else ZA c r
def Zr (c n:Int):List S73->List S73
 |[]=>[]
 |d :: r=>if d.f0=c then(if d.f1-n>0 then⟨d.f0,d.f1-n⟩ :: Zr c n r else Zr c n r) else(if d.f1>0 then d :: Zr c n r else Zr c n r)
def Zo:List S73->Int
 |[]=>0
 |d :: r=>d.f1+Zo r
def Fd (ds:List S73):Prop:=∀ d∈ds,1<=d.f1/\d.f1<=10000
theorem Z8b (ds:List S73) (d:S73) (h:d∈ds):∃ j:Nat,j<ds.length/\rd_T73 ds (j:Int)=d:=by
 obtain⟨j,hj,e⟩:=List.mem_iff_getElem.mp h
 refine⟨j,hj,?_⟩
 unfold rd_T73
 rw[Int.toNat_natCast,List.getD_eq_getElem?_getD,List.getElem?_eq_getElem hj]
 exact e
theorem Zwa (ds:List S73) (j:Nat) (hj:j<ds.length):rd_T73 ds (j:Int)=ds[j]:=by
 unfold rd_T73
 rw[Int.toNat_natCast,List.getD_eq_getElem?_getD,List.getElem?_eq_getElem hj];rfl
theorem Zic {oc:Int->Bool} {ds:List S73} (h:∀ j,0<=j->j<(ds.length:Int)->okD oc ds j):Fd ds:=by
 intro d hd
 obtain⟨j,hj,e⟩:=Z8b ds d hd
 have:=(h (j:Int) Om Om).1.2
 rw[e] at this
 exact this
theorem Zbc {oc:Int->Bool} {ds:List S73} (h:∀ j,0<=j->j<(ds.length:Int)->okD oc ds j):ds.Pairwise (fun x y=>x.f0<y.f0):=by
 rw[List.pairwise_iff_getElem]
 intro i j hi hj hij
 have:=Z3 h i (j-i-1) Om
 rw[show i+(j-i-1)+1=j by omega,Zwa ds i hi,Zwa ds j hj] at this
 exact this
theorem ZIa (ds:List S73) (hds:ds.length<=1048576) (c:Int):∀ (e i:Nat),ds.length=i+e->∀ k,e<k->impl_FoodAt.l0 k c ds (ds.length:Int) (i:Int)=some (ZA c (ds.drop i))
 |0,i,h,k,hk=>by
  obtain⟨k,rfl⟩:=Yk k
  rw[impl_FoodAt.l0,if_neg Om,List.drop_eq_nil_of_le Om]
  rfl
 |e+1,i,h,k,hk=>by
  obtain⟨k,rfl⟩:=Yk k
  have hlt:(i:Int)<(ds.length:Int):=by omega
  have h0:(0:Int)<=(i:Int):=by omega
  have hw:wrap64 ((i:Int)+1)=((i+1:Nat):Int):=Yw
  rw[impl_FoodAt.l0,if_pos hlt,if_pos h0,if_pos hlt,ZW ds i Om,ZA]
  by_cases q:(rd_T73 ds (i:Int)).f0=c
  ·rw[if_pos q,if_pos q]
  ·rw[if_neg q,if_neg q,hw]
   exact ZIa ds hds c e (i+1) Om k Om
theorem Zoa (ds:List S73) (hds:ds.length<=1048576) (c:Int) (k:Nat) (hk:ds.length<k):impl_FoodAt.f k ds c=some (ZA c ds):=by
 have:=ZIa ds hds c ds.length 0 Om k hk
 exact this
theorem Zrb {ds:List S73} (h:Fd ds) (c:Int):0<=ZA c ds/\ZA c ds<=10000:=by
 induction ds with
 |nil=>exact⟨by simp[ZA],by simp[ZA]⟩
 |cons d r ih =>
  rw[ZA]
  have h1:=h d (by simp)
  by_cases q:d.f0=c
  ·rw[if_pos q];omega
  ·rw[if_neg q]
   exact ih (fun x hx=>h x (by simp[hx]))
theorem ZVb {ds:List S73} (h:Fd ds) (c:Int) {n:Int} (hn:0<=n):Fd (Zr c n ds)/\(Zr c n ds).length<=ds.length:=by
 induction ds with
 |nil=>exact⟨h,by simp[Zr]⟩
 |cons d r ih =>
  have h1:=h d (by simp)
  obtain⟨i1,i2⟩:=ih (fun x hx=>h x (by simp[hx]))
  rw[Zr]
  by_cases q:d.f0=c
  ·rw[if_pos q]
   by_cases z:d.f1-n>0
   ·rw[if_pos z]
    refine⟨fun x hx=>?_,by simp[i2]⟩
    rcases List.mem_cons.mp hx with e|e
    ·subst e;exact⟨by show (1:Int)<=d.f1-n;omega,by show d.f1-n<=(10000:Int);omega⟩
    ·exact i1 x e
   ·rw[if_neg z];exact⟨i1,by rw[List.length_cons];omega⟩
  ·rw[if_neg q,if_pos Om]
   refine⟨fun x hx=>?_,by simp[i2]⟩
   rcases List.mem_cons.mp hx with e|e
   ·subst e;exact h1
   ·exact i1 x e
theorem ZOb {ds:List S73} (h:Fd ds) (c n:Int) (hc:∀ d∈ds,d.f0≠c):Zo (Zr c n ds)=Zo ds:=by
 induction ds with
 |nil=>rfl
 |cons d r ih =>
  have h1:=h d (by simp)
  rw[Zr,if_neg (hc d (by simp)),if_pos Om,Zo,Zo,ih (fun x hx=>h x (by simp[hx])) (fun x hx=>hc x (by simp[hx]))]
theorem ZKb {ds:List S73} (h:Fd ds) (ha:ds.Pairwise (fun x y=>x.f0<y.f0)) (c:Int) {n:Int} (hn:1<=n) (hn2:n<=ZA c ds):Zo (Zr c n ds)=Zo ds-n:=by
 induction ds with
 |nil=>simp[ZA] at hn2;omega
 |cons d r ih =>
  have h1:=h d (by simp)
  obtain⟨a1,a2⟩:=List.pairwise_cons.mp ha
  rw[ZA] at hn2
  rw[Zr,Zo]
  by_cases q:d.f0=c
  ·rw[if_pos q] at hn2
   have hs:=ZOb (fun x hx=>h x (by simp[hx])) c n (fun x hx e=>by have:=a1 x hx;omega) (ds:=r)
   rw[if_pos q]
   by_cases z:d.f1-n>0
   ·rw[if_pos z,Zo,hs];show d.f1-n+Zo r=_;omega
   ·rw[if_neg z,hs];omega
  ·rw[if_neg q] at hn2
   rw[if_neg q,if_pos Om,Zo,ih (fun x hx=>h x (by simp[hx])) a2 hn2];omega
theorem Zgb {ds:List S73} (h:Fd ds):0<=Zo ds/\Zo ds<=10000 * (ds.length:Int):=by
 induction ds with
 |nil=>simp[Zo]
 |cons d r ih =>
  have h1:=h d (by simp)
  have h2:=ih (fun x hx=>h x (by simp[hx]))
  rw[Zo,List.length_cons]
  omega
theorem Zva (ds:List S73) (hds:ds.length<=1000) (h:Fd ds):∀ (e i:Nat) (acc:Int),ds.length=i+e->0<=acc->acc<=10000 * (i:Int)->∀ k,e<k->impl_TotalFood.l0 k acc ds (ds.length:Int) (i:Int)=some (acc+Zo (ds.drop i))
 |0,i,acc,hi,h1,h2,k,hk=>by
  obtain⟨k,rfl⟩:=Yk k
  rw[impl_TotalFood.l0,if_neg Om,List.drop_eq_nil_of_le Om,Zo];simp
 |e+1,i,acc,hi,h1,h2,k,hk=>by
  obtain⟨k,rfl⟩:=Yk k
  have hlt:(i:Int)<(ds.length:Int):=by omega
  have h0:(0:Int)<=(i:Int):=by omega
  have hw:wrap64 ((i:Int)+1)=((i+1:Nat):Int):=Yw
  have hf:=h (ds[i]' Om) (List.getElem_mem Om)
  rw[<-Zwa ds i Om] at hf
  obtain⟨v,hv⟩:∃ v,v=(rd_T73 ds (i:Int)).f1:=⟨_,rfl⟩
  have hm:mn (mx (rd_T73 ds (i:Int)).f1 0) 10000=v:=by rw[<-hv] at hf ⊢;unfold mn mx;split <;> split <;> omega
  have hw2:wrap64 (acc+v)=acc+v:=by rw[<-hv] at hf;unfold wrap64;omega
  rw[impl_TotalFood.l0,if_pos hlt,if_pos h0,if_pos hlt,hm,hw,hw2,ZW ds i Om,Zo,<-hv,Zva ds hds h e (i+1) (acc+v) Om (by rw[<-hv] at hf;omega) (by rw[<-hv] at hf;omega) k Om]
  congr 1;omega
theorem ZQa (ds:List S73) (hds:ds.length<=1000) (h:Fd ds) (k:Nat) (hk:ds.length<k):impl_TotalFood.f k ds=some (Zo ds):=by
 have:=Zva ds hds h ds.length 0 0 Om Om Om k hk
 rw[List.drop_zero,Int.zero_add] at this
 exact this
theorem ZR (ds:List S73) (hds:ds.length<=1000) (h:Fd ds) (c n:Int) (hn:0<=n/\n<=10000):∀ (e i:Nat) (out:List S73),ds.length=i+e->out.length<=i->∀ k,e<k->impl_Take.l0 k c n out ds (ds.length:Int) (i:Int)=some (out++Zr c n (ds.drop i),true)
 |0,i,out,hi,h1,k,hk=>by
  obtain⟨k,rfl⟩:=Yk k
  rw[impl_Take.l0,if_neg Om,List.drop_eq_nil_of_le Om,Zr,List.append_nil]
 |e+1,i,out,hi,h1,k,hk=>by
  obtain⟨k,rfl⟩:=Yk k
  have hlt:(i:Int)<(ds.length:Int):=by omega
  have h0:(0:Int)<=(i:Int):=by omega
  have hq:out.length<8796093022208:=by omega
  have hw:wrap64 ((i:Int)+1)=((i+1:Nat):Int):=Yw
  have hf:=h (ds[i]' Om) (List.getElem_mem Om)
  rw[<-Zwa ds i Om] at hf
  obtain⟨d,hd⟩:∃ d,d=rd_T73 ds (i:Int):=⟨_,rfl⟩
  rw[<-hd] at hf
  have hw2:wrap64 (d.f1-n)=d.f1-n:=Yw
  rw[impl_Take.l0,if_pos hlt,if_pos h0,if_pos hlt,ZW ds i Om,<-hd,Zr,hw,hw2]
  by_cases q:d.f0=c
  ·rw[if_pos q,if_pos q]
   by_cases z:d.f1-n>0
   ·rw[if_pos z,if_pos z,if_pos hq,ZR ds hds h c n hn e (i+1) _ Om (by rw[List.length_append,List.length_singleton];omega) k Om,List.append_assoc];rfl
   ·rw[if_neg z,if_neg z,ZR ds hds h c n hn e (i+1) _ Om Om k Om]
  ·rw[if_neg q,if_neg q,if_pos Om,if_pos hq,if_pos Om,ZR ds hds h c n hn e (i+1) _ Om (by rw[List.length_append,List.length_singleton];omega) k Om,List.append_assoc];rfl
structure Lv (M Wi:Int) (ds:List S73) (b:Int) (l:List S76) (h:List Bool) (N C:Nat):Prop where
 rule:Zu M Wi=true
 food:0<=b/\b<=10000
 past:h.length<=10
 crew:l.length<=8
 day:1<=N/\N<=80
 cap:C<=800
 need:∀ k,2 * l.length+3<k->impl_NeedOf.f k l=some (N:Int)
 room:∀ k,3 * l.length+3<k->impl_CapOf.f k l=some (C:Int)
 good:∀ k,l.length<k->impl_AreCrew.f k l=some true
 fd:Fd ds
 asc:ds.Pairwise (fun x y=>x.f0<y.f0)
 dl:ds.length<=20
def Zl (ds:List S73) (c:Int):Nat:=(ZA c ds).toNat
theorem ZE {ds:List S73} (h:Fd ds) (c:Int):(Zl ds c:Int)=ZA c ds/\Zl ds c<=10000:=by
 have:=Zrb h c
 unfold Zl
 omega
theorem Zlb (W H:Int) (xs:List Int) (hx:xs.length<=64) (base M Wi:Int) (ds:List S73) (hds:ds.length<=100) (a b:Int) (l:List S76) (hl:l.length<=100) (h:List Bool) :
  ∃ ws n d p,Home W H xs base a ws n/\(∀ k,2000<k->impl_AreDepots.f k W H xs ds=some d)/\(∀ k,2000<k->impl_IsParty.f k W H xs a b l h=some p) /\
  ((¬ (Zu M Wi=true/\d=true/\p=true/\ws≠[])/\∀ k,5100000<k->impl_LeftAtHome.f k W H xs base M Wi ds a b l h=some (-1)) \/
     (d=true/\ws≠[]/\∃ N C,Lv M Wi ds b l h N C/\∀ k,5100000<k->impl_LeftAtHome.f k W H xs base M Wi ds a b l h=some (match ZC M Wi N C (Zl ds) 4000000 h (ws.drop 1) (b.toNat+min (C-b.toNat) (Zl ds a)) with|some v=>(v:Int)|none=>-1))):=by
 obtain⟨lb,oc,A⟩:=ZZa W H xs Om
 obtain⟨ws,n,Hm⟩:=ZYb W H xs Om base a
 obtain⟨r1,_⟩:=ZS M Wi
 obtain⟨d,hd,hdk⟩:=ZU A.toLandEv ds Om ds.length 0 Om Om
 obtain⟨p,hp,hpk⟩:=ZBb A.toLandEv a b l h Om
 have hk0:∀ k,2000<k->impl_AreDepots.f k W H xs ds=some d:=fun k hk=>(hdk k Om).1
 have hk1:∀ k,2000<k->impl_IsParty.f k W H xs a b l h=some p:=fun k hk=>(hpk k Om).1
 have hway:∀ k,2000<k->impl_WayTo.f k W H xs a base=some ws:=fun k hk=>Hm.way k Om
 have hws:=Hm.len
 refine⟨ws,n,d,p,Hm,hk0,hk1,?_⟩
 by_cases bad:Zu M Wi=true/\d=true/\p=true
 ·obtain⟨rt,rfl,rfl⟩:=bad
  obtain⟨_,hl8,hb,hh,hc⟩:=hp rfl
  obtain⟨hd20,hdok⟩:=hd rfl
  by_cases hw0:ws=[]
  ·subst hw0
   refine Or.inl ⟨fun q=>q.2.2.2 rfl,fun k hk=>?_⟩
   unfold impl_LeftAtHome.f impl_home.f
   simp only[hk0 k Om,hk1 k Om,hway k Om,r1,rt,Ob,if_true,List.length_nil]
   rfl
  ·have hwl:¬ (ws.length:Int)=0:=by
    intro e
    exact hw0 (List.eq_nil_of_length_eq_zero Om)
   obtain⟨c0,Ni,hcc,ht,_,hneed⟩:=ZJa l Om
   have hc0:c0=true:=by
    have h1:=(hcc (l.length+1) Om).1
    rw[hc (l.length+1) Om] at h1
    exact(Option.some.inj h1).symm
   obtain⟨_,_,_,_,hN1,hN2⟩:=ht hc0
   obtain⟨Ci,hCi,hcap⟩:=Ztb l Om
   obtain⟨N,hN⟩:∃ N:Nat,Ni=(N:Int):=⟨Ni.toNat,by omega⟩
   obtain⟨C,hC⟩:∃ C:Nat,Ci=(C:Int):=⟨Ci.toNat,by omega⟩
   subst hN hC
   have F:=Zic hdok
   have V:Lv M Wi ds b l h N C:=⟨rt,hb,hh,hl8,⟨by omega,by omega⟩,by omega,fun k hk=>(hneed k hk).1,fun k hk=>(hcap k hk).1,hc,F,Zbc hdok,hd20⟩
   have hfood:∀ c k,ds.length<k->impl_FoodAt.f k ds c=some (Zl ds c:Int):=fun c k hk=>by rw[Zoa ds Om c k hk,(ZE F c).1]
   refine Or.inr ⟨rfl,hw0,N,C,V,fun k hk=>?_⟩
   have la:=(ZE F a).2
   have hpk2:=Zja a b (Zl ds a:Int) l h Om Om ⟨hb.1,by omega⟩ ⟨by omega,by omega⟩ (C:=C) Om V.room
   rw[Int.toNat_natCast] at hpk2
   have hwpos:0<ws.length:=by omega
   obtain⟨ys,hys⟩:=Zjb ws hws ds Om M Wi l hl8 (N:=N) (C:=C) (G:=30000) V.day V.cap Om hc V.need V.room (fun c=>(ZE F c).2) hfood 4000000 0 a (b.toNat+min (C-b.toNat) (Zl ds a)) h [] Om hh (by
    have e1:(ws.drop (0+1)).length<=63:=by rw[List.length_drop];omega
    have e2:(ws.drop (0+1)).length * 30000<=63 * 30000:=Nat.mul_le_mul_right _ e1
    omega) Om Om (by simp)
   unfold impl_LeftAtHome.f impl_home.f impl_worst.f
   simp only[hk0 k Om,hk1 k Om,hway k Om,r1,rt,Ob,if_true,if_neg hwl,hfood a k Om,hpk2 k Om]
   rw[show ((0:Int))=((0:Nat):Int) from rfl,hys k Om]
   simp only[Nat.zero_add,Ob]
   cases ZC M Wi N C (Zl ds) 4000000 h (ws.drop 1) (b.toNat+min (C-b.toNat) (Zl ds a)) <;> rfl
 ·refine Or.inl ⟨fun q=>bad ⟨q.1,q.2.1,q.2.2.1⟩,fun k hk=>?_⟩
  unfold impl_LeftAtHome.f impl_home.f
  rw[r1]
  by_cases q1:Zu M Wi=true
  ·by_cases q2:d=true
   ·have q3:¬ p=true:=fun q3=>bad ⟨q1,q2,q3⟩
    simp only[hk0 k Om,hk1 k Om,q1,q2,q3,Ob,if_true,Bool.false_eq_true,if_false,List.length_nil]
    rfl
   ·simp only[hk0 k Om,q1,q2,Ob,if_true,Bool.false_eq_true,if_false,List.length_nil]
    rfl
  ·simp only[q1,Ob,Bool.false_eq_true,if_false,List.length_nil]
   rfl
theorem Zec {W H:Int} {xs:List Int} (hx:xs.length<=64) {base M Wi:Int} {ds:List S73} (hds:ds.length<=100) {a b:Int} {l:List S76} (hl:l.length<=100) {h:List Bool} (hr:Zu M Wi=true)
  (hd:impl_AreDepots.f 3000 W H xs ds=some true) (hp:impl_IsParty.f 3000 W H xs a b l h=some true) {ws:List Int} {n:Int} (Hm:Home W H xs base a ws n) (hne:ws≠[])
  (hleft:∀ N C,Lv M Wi ds b l h N C->∃ v,ZC M Wi N C (Zl ds) 4000000 h (ws.drop 1) (b.toNat+min (C-b.toNat) (Zl ds a))=some v):∀ k,5100000<k->impl_CanReturn.f k W H xs base M Wi ds a b l h=some true:=by
 obtain⟨ws2,n2,d,p,H2,hk0,hk1,hor⟩:=Zlb W H xs hx base M Wi ds hds a b l hl h
 obtain⟨rfl,rfl⟩:=Zab Hm H2
 rw[hk0 3000 Om] at hd
 rw[hk1 3000 Om] at hp
 intro k hk
 rcases hor with ⟨no,_⟩|⟨_,_,N,C,V,hv⟩
 ·exact absurd ⟨hr,Option.some.inj hd,Option.some.inj hp,hne⟩ no
 ·obtain⟨v,e⟩:=hleft N C V
  unfold impl_CanReturn.f
  rw[hv k hk,e]
  simp
theorem Zra (W H:Int) (xs:List Int) (base M Wi:Int) (ds:List S73) (a b:Int) (l:List S76) (h:List Bool) (s can ms:Bool) (k:Nat) (hc:impl_CanReturn.f (k+1) W H xs base M Wi ds a b l h=some can) (hm:impl_MayStorm.f (k+1) M Wi h=some ms) :
  impl_ReturnStep.f (k+1) W H xs base M Wi ds a b l h s=impl_ReturnStep.j0 (k+1) base ds s (!(can && (decide (a≠base) && (!s || ms)))) W H xs a b l h:=by
 unfold impl_ReturnStep.f
 rw[hc,Ob]
 cases can with
 |false=>simp
 |true =>
  by_cases e:a=base
  ·simp[e]
  ·cases s with
   |false=>simp[e]
   |true=>simp[e,hm]
theorem ZVa (W H:Int) (xs:List Int) (base:Int) (ds:List S73) (hds:ds.length<=100) (a b:Int) (l:List S76) (hl:l.length<=100) (h:List Bool) (hh:h.length<=20) (s:Bool) (k:Nat) :
  impl_ReturnStep.j0 (k+1) base ds s true W H xs a b l h=some (a,b,l,h,ds,false):=by
 have c1:=(ZJ a b l h Om Om).1
 simp only[impl_ReturnStep.j0,if_true,c1,Ob,Z7 ds Om]
def tk (C:Nat) (b:Int) (ds:List S73) (a:Int):Nat:=min (C-b.toNat) (Zl ds a)
theorem Z0b {W H:Int} {xs:List Int} {ds:List S73} (hds:ds.length<=100) (F:Fd ds) (hd:∀ k,2000<k->impl_AreDepots.f k W H xs ds=some true) (a:Int) {n:Nat} (hn:1<=n) (hn2:n<=Zl ds a) (k:Nat) (hk:3000<k) :
  impl_Take.f k W H xs ds a (n:Int)=some (Zr a n ds,true):=by
 obtain⟨k,rfl⟩:=Yk k
 have hf:=ZE F a
 have hin:impl_InRange.f (n:Int) 1 (Zl ds a:Int)=some true:=by
  rw[Zd]
  have:(1:Int)<=(n:Int)/\(n:Int)<=(Zl ds a:Int):=by omega
  simp[this]
 have ht:=ZR ds Om F a (n:Int) Om ds.length 0 [] Om (by simp) k Om
 unfold impl_Take.f
 rw[hd (k+1) Om]
 simp only[Ob,if_true]
 rw[Zoa ds Om a (k+1) Om,<-hf.1,Ob,hin,Ob]
 simp only[Bool.not_true,impl_Take.j0,Bool.false_eq_true,if_false]
 exact ht
theorem ZWb {W H:Int} {xs:List Int} (hx:xs.length<=64) {base M Wi:Int} {ds:List S73} (hds:ds.length<=100) {a b:Int} {l:List S76} {h:List Bool} {N C:Nat} (V:Lv M Wi ds b l h N C)
  (hd:∀ k,2000<k->impl_AreDepots.f k W H xs ds=some true) {ws:List Int} {n:Int} (Hm:Home W H xs base a ws n) (hw:1<ws.length) (hb:N<=b.toNat+tk C b ds a) (s:Bool) (k:Nat) (hk:4000<k) :
  impl_ReturnStep.j0 k base ds s false W H xs a b l h=some (if s=true then a else rd ws 1,((b.toNat+tk C b ds a-N:Nat):Int),l,Zc h s,if 0<tk C b ds a then Zr a (tk C b ds a) ds else ds,true):=by
 obtain⟨k,rfl⟩:=Yk k
 obtain⟨k,rfl⟩:=Yk k
 obtain⟨k,rfl⟩:=Yk k
 have hl:=V.crew
 have hh:=V.past
 have hbf:=V.food
 have hN:=V.day
 have hC:=V.cap
 have hf:=ZE V.fd a
 obtain⟨t,ht⟩:∃ t,t=tk C b ds a:=⟨_,rfl⟩
 have ht1:t<=800/\t<=Zl ds a:=by rw[ht];unfold tk;omega
 rw[<-ht] at hb ⊢
 have hp:∀ k,3 * l.length+3<k->impl_PickUp.f k a b l h (Zl ds a:Int)=some (a,((b.toNat+t:Nat):Int),l,h,(t:Int)):=by
  intro k hk
  have:=Zja a b (Zl ds a:Int) l h Om Om ⟨hbf.1,by omega⟩ ⟨by omega,by omega⟩ hC V.room k hk
  rw[Int.toNat_natCast] at this
  rw[this,ht]
  rfl
 have heat:∀ k,2 * l.length+3<k->impl_Eat.f k a ((b.toNat+t:Nat):Int) l h=some (a,((b.toNat+t-N:Nat):Int),l,h,true):=by
  intro k hk
  have c1:=(ZJ a ((b.toNat+t:Nat):Int) l h Om Om).1
  unfold impl_Eat.f
  simp only[c1,Ob,V.good k Om,if_true,V.need k hk]
  rw[if_neg Om,ZPb (b.toNat+t) N Om Om]
 have hpass:∀ k,2 * l.length+3<k->∀ at_:Int,impl_passed.f k a ((b.toNat+t:Nat):Int) l h at_ s=some (at_,((b.toNat+t-N:Nat):Int),l,Zc h s,true):=by
  intro k hk at_
  unfold impl_passed.f
  rw[heat k hk,(ZI h s Om).1]
  simp
 have hj2:∀ at_ ds1,impl_ReturnStep.j2 (k+1) ds s ds1 at_ a b l h a ((b.toNat+t:Nat):Int) l h=some (at_,((b.toNat+t-N:Nat):Int),l,Zc h s,ds1,true):=by
  intro at_ ds1
  rw[impl_ReturnStep.j2,hpass k Om at_]
  simp
 have hj1:∀ ds1,impl_ReturnStep.j1 (k+1+1) base ds s ds1 W H xs a b l h a ((b.toNat+t:Nat):Int) l h=some (if s=true then a else rd ws 1,((b.toNat+t-N:Nat):Int),l,Zc h s,ds1,true):=by
  intro ds1
  rw[impl_ReturnStep.j1]
  have hw2:(1:Int)<(ws.length:Int):=by omega
  cases s with
  |true=>simp only[if_true];exact hj2 a ds1
  |false =>
   simp only[Bool.false_eq_true,if_false]
   rw[Hm.way (k+1) Om,Ob,if_pos hw2]
   exact hj2 (rd ws 1) ds1
 rw[impl_ReturnStep.j0]
 simp only[Bool.false_eq_true,if_false]
 rw[Zoa ds Om a _ Om,<-hf.1,Ob,hp _ Om,Ob,Z7 ds Om,Ob]
 by_cases z:0<t
 ·have z2:(t:Int)>0:=by omega
  simp only[if_pos z2,if_pos z]
  rw[Z0b hds V.fd hd a z ht1.2 _ Om,Ob]
  exact hj1 _
 ·have z2:¬ (t:Int)>0:=by omega
  simp only[if_neg z2,if_neg z]
  exact hj1 _
structure Ret (W H:Int) (xs:List Int) (base M Wi:Int) (ds:List S73) (a b:Int) (l:List S76) (h:List Bool) (can:Bool) (v a1 b1:Int) (ds1:List S73):Prop where
 lh:∀ k,5100000<k->impl_LeftAtHome.f k W H xs base M Wi ds a b l h=some v
 cr:∀ k,5100000<k->impl_CanReturn.f k W H xs base M Wi ds a b l h=some can
 cv:can=decide (v>=0)
 st:∀ s k,5100000<k->impl_ReturnStep.f k W H xs base M Wi ds a b l h s=some (if (can && (decide (a≠base) && (!s || Zh M Wi h)))=true then(if s=true then a else a1,b1,l,Zc h s,ds1,true) else(a,b,l,h,ds,false))
 yes:can=true->a≠base->∃ ws n N C,Lv M Wi ds b l h N C/\Home W H xs base a ws n/\1<ws.length/\(∀ k,2000<k->impl_AreDepots.f k W H xs ds=some true)/\(∃ r,ZC M Wi N C (Zl ds) 4000000 h (ws.drop 1) (b.toNat+tk C b ds a)=some r)/\N<=b.toNat+tk C b ds a/\a1=rd ws 1/\b1=((b.toNat+tk C b ds a-N:Nat):Int)/\ds1=(if 0<tk C b ds a then Zr a (tk C b ds a) ds else ds)
theorem Zfa (W H:Int) (xs:List Int) (hx:xs.length<=64) (base M Wi:Int) (ds:List S73) (hds:ds.length<=100) (a b:Int) (l:List S76) (hl:l.length<=100) (h:List Bool) (hh:h.length<=20) :
  ∃ can v a1 b1 ds1,Ret W H xs base M Wi ds a b l h can v a1 b1 ds1:=by
 have hm:∀ k,2000<k->impl_MayStorm.f k M Wi h=some (Zh M Wi h):=fun k hk=>Zy M Wi h Om k Om
 have hno:∀ v:Int,v<0->(∀ k,5100000<k->impl_LeftAtHome.f k W H xs base M Wi ds a b l h=some v)->∃ can v a1 b1 ds1,Ret W H xs base M Wi ds a b l h can v a1 b1 ds1:=by
  intro v hv hlh
  have hcr:∀ k,5100000<k->impl_CanReturn.f k W H xs base M Wi ds a b l h=some false:=by
   intro k hk
   have:¬ v>=0:=by omega
   unfold impl_CanReturn.f
   rw[hlh k hk]
   simp[this]
  refine⟨false,v,0,0,[],hlh,hcr,by simp;omega,fun s k hk=>?_,fun e=>by cases e⟩
  obtain⟨k,rfl⟩:=Yk k
  rw[Zra W H xs base M Wi ds a b l h s false _ k (hcr _ hk) (hm _ Om)]
  simp only[Bool.false_and,Bool.not_false,Bool.false_eq_true,if_false]
  exact ZVa W H xs base ds hds a b l hl h hh s k
 obtain⟨ws,n,d,p,Hm,hk0,hk1,hor⟩:=Zlb W H xs hx base M Wi ds hds a b l hl h
 rcases hor with ⟨_,hv⟩|⟨rfl,hne,N,C,V,hv⟩
 ·exact hno (-1) Om hv
 ·have tke:min (C-b.toNat) (Zl ds a)=tk C b ds a:=rfl
  rw[tke] at hv
  cases hl2:ZC M Wi N C (Zl ds) 4000000 h (ws.drop 1) (b.toNat+tk C b ds a) with
  |none =>
   rw[hl2] at hv
   exact hno (-1) Om hv
  |some v =>
   rw[hl2] at hv
   have hcr:∀ k,5100000<k->impl_CanReturn.f k W H xs base M Wi ds a b l h=some true:=by
    intro k hk
    unfold impl_CanReturn.f
    rw[hv k hk]
    simp
   by_cases ea:a=base
   ·refine⟨true,v,0,0,[],hv,hcr,by simp,fun s k hk=>?_,fun _ e=>absurd ea e⟩
    obtain⟨k,rfl⟩:=Yk k
    have e2:decide (a≠base)=false:=by simp[ea]
    rw[Zra W H xs base M Wi ds a b l h s true _ k (hcr _ hk) (hm _ Om),e2]
    simp only[Bool.false_and,Bool.and_false,Bool.not_false,Bool.false_eq_true,if_false]
    exact ZVa W H xs base ds hds a b l hl h hh s k
   ·obtain⟨hw,_⟩:=Zba Om Hm hne ea
    have hN:N<=b.toNat+tk C b ds a:=by
     have e1:ws.drop 1=ws[1] :: ws.drop 2:=List.drop_eq_getElem_cons hw
     rw[e1,show (4000000:Nat)=3999999+1 from rfl,ZC] at hl2
     by_cases q:b.toNat+tk C b ds a<N
     ·rw[if_pos q] at hl2;cases hl2
     ·omega
    refine⟨true,v,_,_,_,hv,hcr,by simp,fun s k hk=>?_,fun _ _=>⟨ws,n,N,C,V,Hm,hw,hk0,⟨v,hl2⟩,hN,rfl,rfl,rfl⟩⟩
    obtain⟨k,rfl⟩:=Yk k
    rw[Zra W H xs base M Wi ds a b l h s true _ k (hcr _ hk) (hm _ Om)]
    by_cases g:(true && (decide (a≠base) && (!s || Zh M Wi h)))=true
    ·rw[if_pos g,g]
     exact ZWb hx hds V hk0 Hm hw hN s (k+1) Om
    ·rw[if_neg g,Bool.eq_false_iff.mpr g]
     exact ZVa W H xs base ds hds a b l hl h hh s k
theorem Z3b {M Wi:Int} {ds ds2:List S73} {b b2:Int} {l:List S76} {h h2:List Bool} {N C N2 C2:Nat} (V:Lv M Wi ds b l h N C) (V2:Lv M Wi ds2 b2 l h2 N2 C2):N2=N:=by
 have e1:=V.need (2 * l.length+4) Om
 rw[V2.need (2 * l.length+4) Om] at e1
 have:=Option.some.inj e1
 omega
theorem ZGb {W H:Int} {xs:List Int} {l:List S76} {a b:Int} {h:List Bool} (hl:l.length<=100) (hg:∀ k,l.length<k->impl_AreCrew.f k l=some true) (hb:0<=b/\b<=10000) (hh:h.length<=10) (ho:impl_IsOpen.f 3000 W H xs a=some true):impl_IsParty.f 3000 W H xs a b l h=some true:=by
 unfold impl_IsParty.f
 rw[ho,hg 3000 Om]
 simp only[Ob,if_true,Zd,hb,and_self,decide_true]
 have:(h.length:Int)<=10:=by omega
 simp[this]
theorem Zma {ws:List Int} (hw:ws.length<=64) {b:Nat} (hb:b<=20000):(ws.drop 1).length * 30000+b<4000000:=by
 have e1:(ws.drop 1).length<=64:=by rw[List.length_drop];omega
 have e2:(ws.drop 1).length * 30000<=64 * 30000:=Nat.mul_le_mul_right _ e1
 omega
theorem Zca {W H:Int} {xs:List Int} (hx:xs.length<=64) {base M Wi:Int} {a b:Int} {l:List S76} {h:List Bool} {v a1 b1:Int} {ds1:List S73}
  (R:Ret W H xs base M Wi [] a b l h true v a1 b1 ds1) (ha:a≠base) (s:Bool) (hs:s=true->Zh M Wi h=true) :
  ds1=[]/\(0<=b1/\b1+1<=b)/\∀ k,5100000<k->impl_CanReturn.f k W H xs base M Wi [] (if s=true then a else a1) b1 l (Zc h s)=some true:=by
 obtain⟨ws,n,N,C,V,Hm,hw,hd,⟨r,hl2⟩,hN,e1,e2,e3⟩:=R.yes rfl ha
 have t0:tk C b [] a=0:=by unfold tk Zl ZA;simp
 have D0:Zl []=fun _=>0:=funext (fun c=>rfl)
 rw[t0] at hl2 hN e2 e3
 rw[Nat.add_zero] at hl2 hN e2
 rw[D0] at hl2
 have hbf:=V.food
 have hN1:=V.day
 have hl8:=V.crew
 have hwl:=Hm.len
 obtain⟨m,hm⟩:∃ m,ws.length=m+2:=⟨ws.length-2,by omega⟩
 have hdl:(ws.drop 1).length=m+1:=by rw[List.length_drop];omega
 have ok:=Zib V.day.1 (G:=30000) Om 4000000 (b.toNat+1) h (ws.drop 1) b.toNat r Om (Zma hwl Om) hl2
 rw[hdl] at ok
 obtain⟨q1,q2,q3⟩:=ZDb V.rule V.day.1 h m b.toNat ok
 have hne:ws≠[]:=fun e=>by rw[e] at hm;simp at hm
 have eb:b1.toNat=b.toNat-N:=by omega
 refine⟨by rw[e3];rfl,by omega,?_⟩
 have fin:∀ (a2:Int) (ws2:List Int) (n2:Int) (h2:List Bool),h2.length<=10->Home W H xs base a2 ws2 n2->ws2≠[]->okB M Wi N (b.toNat-N+1) h2 (ws2.drop 1).length (b.toNat-N)=true->∀ k,5100000<k->impl_CanReturn.f k W H xs base M Wi [] a2 b1 l h2=some true:=by
  intro a2 ws2 n2 h2 hh2 H2 hne2 ok2
  refine Zec hx (by simp) Om V.rule (hd 3000 Om) (ZGb Om V.good Om hh2 (H2.op hne2 3000 Om)) H2 hne2 ?_
  intro N2 C2 V2
  obtain rfl:=Z3b V V2
  have hc2:=V2.cap
  have hm2:min (C2-b1.toNat) (Zl [] a2)=0:=by rw[D0];simp
  rw[hm2,Nat.add_zero,eb]
  exact Zua V2.day.1 V2.cap (G:=30000) Om (Zl []) 4000000 (b.toNat-N2+1) h2 (ws2.drop 1) (b.toNat-N2) (b.toNat-N2) Om Om (Zma H2.len Om) ok2
 cases s with
 |true =>
  have:=fin a ws n (Zc h true) (Zt h true) Hm hne (by rw[hdl];exact q2 (hs rfl))
  simpa using this
 |false =>
  obtain⟨_,ws2,H2,hlen,hne2⟩:=Zba Om Hm hne ha
  have:=fin (rd ws 1) ws2 (n-1) (Zc h false) (Zt h false) H2 hne2 (by rw[List.length_drop,show ws2.length-1=m by omega];exact q3)
  rw[<-e1] at this
  simpa using this
theorem Zfb {W H:Int} {xs:List Int} (hx:xs.length<=64) {base M Wi:Int} {ds:List S73} {a b:Int} {l:List S76} {h:List Bool} {v a1 b1:Int} {ds1:List S73}
  (R:Ret W H xs base M Wi ds a b l h true v a1 b1 ds1) (ha:a≠base):∃ N T0 T1 n:Int,(∀ k,2000<k->impl_NeedOf.f k l=some N)/\(∀ k,2000<k->impl_TotalFood.f k ds=some T0)/\(∀ k,2000<k->impl_TotalFood.f k ds1=some T1)/\wrap64 (wrap64 (b1+T1)+N)=wrap64 (b+T0) /\
  (∀ k,2000<k->impl_Days.f k W H xs a base=some n)/\(∀ k,2000<k->impl_Days.f k W H xs a1 base=some (wrap64 (n-1)))/\ds1.length<=ds.length:=by
 obtain⟨ws,n,N,C,V,Hm,hw,hd,_,hN,e1,e2,e3⟩:=R.yes rfl ha
 have hbf:=V.food
 have hN1:=V.day
 have hdl:=V.dl
 have hcr:=V.crew
 have hC:=V.cap
 have hwl:=Hm.len
 have hne:ws≠[]:=fun e=>by rw[e] at hw;simp at hw
 obtain⟨hn1,_⟩:=Hm.yes hne
 obtain⟨_,ws2,H2,_,_⟩:=Zba Om Hm hne ha
 have hf:=ZE V.fd a
 obtain⟨t,ht⟩:∃ t,t=tk C b ds a:=⟨_,rfl⟩
 have ht1:t<=800/\t<=Zl ds a:=by rw[ht];unfold tk;omega
 rw[<-ht] at hN e2 e3
 have hs:=Zgb V.fd
 have F1:Fd ds1/\ds1.length<=ds.length/\Zo ds1=Zo ds-(t:Int):=by
  rw[e3]
  by_cases z:0<t
  ·rw[if_pos z]
   obtain⟨f1,f2⟩:=ZVb V.fd a (n:=(t:Int)) Om
   exact⟨f1,f2,ZKb V.fd V.asc a Om Om⟩
  ·rw[if_neg z]
   exact⟨V.fd,Nat.le_refl _,by omega⟩
 obtain⟨f1,f2,f3⟩:=F1
 have hs1:=Zgb f1
 refine⟨(N:Int),Zo ds,Zo ds1,n,fun k hk=>V.need k Om,fun k hk=>ZQa ds Om V.fd k Om,fun k hk=>ZQa ds1 Om f1 k Om,?_,fun k hk=>Hm.days k Om,fun k hk=>?_,f2⟩
 ·have w1:wrap64 (b1+Zo ds1)=b1+Zo ds1:=Yw
  rw[w1]
  congr 1
  omega
 ·have w1:wrap64 (n-1)=n-1:=Yw
  rw[w1,e1]
  exact H2.days k Om
theorem ZNb (h:List Bool) (i:Nat):Zk (Zs h (i+1))<=Zk (Zs h i)+1:=by
 unfold Zk Zs
 by_cases c:i+1<=h.length
 ·have e:h.drop (h.length-(i+1))=h[h.length-(i+1)]' Om :: h.drop (h.length-i):=by
   rw[List.drop_eq_getElem_cons Om]
   congr 2
   omega
  rw[e,List.count_cons]
  split <;> omega
 ·rw[show h.length-(i+1)=0 by omega,show h.length-i=0 by omega]
  omega
theorem Zbb (h:List Bool) (i:Nat):∀ e:Nat,Zk (Zs h (i+e))<=Zk (Zs h i)+e
 |0=>Nat.le_refl _
 |e+1=>by
  have h1:=ZNb h (i+e)
  have h2:=Zbb h i e
  rw[show i+(e+1)=i+e+1 by omega]
  omega
theorem Zjc {M Wi:Int} (hr:Zu M Wi=true) {h:List Bool} {j:Nat} (hj:Zk (Zs h j)=j) (hm:Zh M Wi h=true):j+1<=9:=by
 obtain⟨hW,hM⟩:=Zqa hr
 unfold Zh at hm
 rw[hr,Bool.true_and,decide_eq_true_eq] at hm
 by_cases c:(Wi-1).toNat<=j
 ·have:=Zbb h (Wi-1).toNat (j-(Wi-1).toNat)
  rw[show (Wi-1).toNat+(j-(Wi-1).toNat)=j by omega,hj] at this
  omega
 ·omega
theorem ZQb (h:List Bool):Zk (Zs h 0)=0:=by
 unfold Zk Zs
 rw[Nat.sub_zero,List.drop_length]
 rfl
theorem ZDa {M Wi:Int} (hr:Zu M Wi=true):∀ (F n j x:Nat) (h:List Bool),h.length<=20->Zk (Zs h j)=j->j<=9->n * 11+(10-j)<=F->x+F<=1000000 ->
  (∀ g,F<=g->Zi M Wi g h n=Zi M Wi F h n)/\Zi M Wi F h n<=F/\∀ k,F+1000<k->impl_WorstDays.l0 k h (n:Int) (x:Int) M Wi=some ((x+Zi M Wi F h n:Nat):Int):=by
 intro F
 induction F with
 |zero=>intro n j x h _ _ h3 h4;omega
 |succ F ih =>
  intro n j x h hh hj hj9 hF hx
  cases n with
  |zero =>
   refine⟨fun g hg=>?_,by rw[Zi];omega,fun k hk=>?_⟩
   ·obtain⟨g,rfl⟩:∃ m,g=m+1:=⟨g-1,by omega⟩
    rw[Zi,Zi]
   ·obtain⟨k,rfl⟩:=Yk k
    rw[impl_WorstDays.l0,if_neg Om,Zi]
    rfl
  |succ n =>
   have hn:((n+1:Nat):Int)>0:=by omega
   have wx:wrap64 ((x:Int)+1)=((x+1:Nat):Int):=Yw
   have wn:wrap64 (((n+1:Nat):Int)-1)=(n:Int):=Yw
   have hms:∀ k,1000<k->impl_MayStorm.f k M Wi h=some (Zh M Wi h):=fun k hk=>Zy M Wi h Om k Om
   by_cases s:Zh M Wi h=true
   ·have hj2:=Zjc hr hj s
    have hl2:=Zt h true
    obtain⟨i1,i2,i3⟩:=ih (n+1) (j+1) (x+1) (Zc h true) Om (by rw[ZQ h true j hj9,hj];rfl) hj2 Om Om
    refine⟨fun g hg=>?_,?_,fun k hk=>?_⟩
    ·obtain⟨g,rfl⟩:∃ m,g=m+1:=⟨g-1,by omega⟩
     rw[Zi,Zi,if_pos s,if_pos s,i1 g Om]
    ·rw[Zi,if_pos s];omega
    ·obtain⟨k,rfl⟩:=Yk k
     rw[impl_WorstDays.l0,if_pos hn,hms k Om,Ob,if_pos s,s,(ZI h true Om).1,Ob,wx,i3 k Om,Zi,if_pos s]
     congr 2;omega
   ·have s2:Zh M Wi h=false:=by simpa using s
    have hl2:=Zt h false
    obtain⟨i1,i2,i3⟩:=ih n 0 (x+1) (Zc h false) Om (ZQb _) Om Om Om
    refine⟨fun g hg=>?_,?_,fun k hk=>?_⟩
    ·obtain⟨g,rfl⟩:∃ m,g=m+1:=⟨g-1,by omega⟩
     rw[Zi,Zi,if_neg s,if_neg s,i1 g Om]
    ·rw[Zi,if_neg s];omega
    ·obtain⟨k,rfl⟩:=Yk k
     rw[impl_WorstDays.l0,if_pos hn,hms k Om,Ob,if_neg s,s2,(ZI h false Om).1,Ob,wx,wn,i3 k Om,Zi,if_neg s]
     congr 2;omega
theorem ZXb {t n:Nat} (ht:t<=1000) (hn:n<=80):t * n<=80000:=Nat.le_trans (Nat.mul_le_mul ht hn) Om
theorem Zxb {W H:Int} {xs:List Int} (hx:xs.length<=64) {base M Wi:Int} {ds:List S73} (hds:ds.length<=100) {a b:Int} {l:List S76} (hl:l.length<=100) {h:List Bool} (hh:h.length<=20) {can:Bool} {v a1 b1:Int} {ds1:List S73}
  (R:Ret W H xs base M Wi ds a b l h can v a1 b1 ds1):∃ nh d,(∀ k,3000<k->impl_NeedHome.f k W H xs base M Wi a b l h=some nh)/\(∀ k,2000<k->impl_AreDepots.f k W H xs ds=some d)/\(0<=nh->nh<=b->d=true->can=true):=by
 obtain⟨ws,n,d,p,Hm,hk0,hk1,hor⟩:=Zlb W H xs hx base M Wi ds hds a b l hl h
 have hdays:∀ k,2000<k->impl_Days.f k W H xs a base=some n:=fun k hk=>Hm.days k Om
 have hwl:=Hm.len
 have bad:(∀ k,2999<k->∀ q:Bool,p=false\/q=true->(if p=true then impl_NeedHome.j0 k n q M Wi a b l h else impl_NeedHome.j0 k n true M Wi a b l h)=some (-1)):=by
  intro k hk q hq
  obtain⟨k,rfl⟩:=Yk k
  rcases hq with e|e
  ·rw[e];simp[impl_NeedHome.j0]
  ·rw[e];simp[impl_NeedHome.j0]
 by_cases c:p=true/\¬ n<0
 ·obtain⟨rfl,hn⟩:=c
  have hne:ws≠[]:=fun e=>hn (Hm.no e)
  obtain⟨hn1,_⟩:=Hm.yes hne
  obtain⟨m,hm⟩:∃ m:Nat,n=(m:Int):=⟨n.toNat,by omega⟩
  have hm2:m+1=ws.length:=by omega
  have hin:impl_InRange.f n 0 200=some true:=by
   rw[Zd]
   have:(0:Int)<=n/\n<=200:=by omega
   simp[this]
  have hlen:decide ((h.length:Int)>400)=false:=by
   have:¬ (h.length:Int)>400:=by omega
   simp[this]
  by_cases hr:Zu M Wi=true
  ·obtain⟨g1,g2,g3⟩:=ZDa hr 800 m 0 0 h hh (ZQb h) Om Om Om
   rw[Nat.zero_add] at g3
   obtain⟨t,ht0⟩:∃ t,t=Zi M Wi 800 h m:=⟨_,rfl⟩
   rw[<-ht0] at g1 g2 g3
   obtain⟨c0,Ni,hcc,hti,hz,hneed⟩:=ZJa l Om
   have hNb:0<=Ni/\Ni<=80:=by
    cases c0 with
    |true=>obtain⟨_,_,_,_,e1,e2⟩:=hti rfl;omega
    |false=>have:=hz rfl;omega
   obtain⟨N,rfl⟩:∃ N:Nat,Ni=(N:Int):=⟨Ni.toNat,by omega⟩
   have hmul:=ZXb (t:=t) (n:=N) Om Om
   have hnh:wrap64 ((t:Int) * (N:Int))=((t * N:Nat):Int):=by
    rw[Int.natCast_mul]
    have:((t:Int) * (N:Int))=((t * N:Nat):Int):=by rw[Int.natCast_mul]
    rw[this]
    unfold wrap64;omega
   refine⟨((t * N:Nat):Int),d,fun k hk=>?_,hk0,fun h1 h2 hd=>?_⟩
   ·obtain⟨k,rfl⟩:∃ q,k=q+1:=⟨k-1,by omega⟩
    obtain⟨k,rfl⟩:∃ q,k=q+1:=⟨k-1,by omega⟩
    have hwd:impl_WorstDays.f (k+1) M Wi h n=some (t:Int):=by
     unfold impl_WorstDays.f
     rw[(ZS M Wi).1,hr]
     simp only[Ob,if_true,hin,hlen,impl_WorstDays.j0,Bool.false_eq_true,if_false]
     rw[hm]
     exact g3 k Om
    have hnn:¬ (t:Int)<0:=by omega
    have hnd:decide (n<0)=false:=by simp[hn]
    unfold impl_NeedHome.f
    rw[hdays _ Om,Ob,hk1 _ Om,Ob,if_pos rfl,hnd]
    simp only[impl_NeedHome.j0,Bool.false_eq_true,if_false,hwd,Ob,if_neg hnn,(hneed (k+1) Om).1,hnh]
   ·clear hnh
    subst hd
    rcases hor with ⟨no,_⟩|⟨_,_,N2,C,V,hv⟩
    ·exact absurd ⟨hr,rfl,rfl,hne⟩ no
    ·have e1:=V.need (2 * l.length+4) Om
     rw[(hneed (2 * l.length+4) Om).1] at e1
     have e2:N2=N:=by have:=Option.some.inj e1;omega
     subst e2
     have hbf:=V.food
     have e3:N2 * t<=b.toNat:=by rw[Nat.mul_comm];exact Int.ofNat_le.mp (by rw[Int.toNat_of_nonneg hbf.1];exact h2)
     have ok:=Z5 V.day.1 (b.toNat+801) h m b.toNat (by rw[g1 _ Om];exact e3) Om (fun g hg=>by rw[g1 g Om,g1 (b.toNat+801) Om])
     have hdl:(ws.drop 1).length=m:=by rw[List.length_drop];omega
     have hC:=V.cap
     obtain⟨r,hl2⟩:=Zua V.day.1 V.cap (G:=30000) Om (Zl ds) 4000000 (b.toNat+801) h (ws.drop 1) b.toNat (b.toNat+min (C-b.toNat) (Zl ds a)) Om Om (Zma hwl Om) (by rw[hdl];exact ok)
     have hlh:=R.lh 5100001 Om
     rw[hv 5100001 Om,hl2] at hlh
     have:=Option.some.inj hlh
     rw[R.cv,<-this]
     simp
  ·refine⟨-1,d,fun k hk=>?_,hk0,fun h1=>by omega⟩
   obtain⟨k,rfl⟩:∃ q,k=q+1:=⟨k-1,by omega⟩
   obtain⟨k,rfl⟩:∃ q,k=q+1:=⟨k-1,by omega⟩
   have hwd:impl_WorstDays.f (k+1) M Wi h n=some (-1):=by
    unfold impl_WorstDays.f
    rw[(ZS M Wi).1,Bool.eq_false_iff.mpr hr]
    simp[impl_WorstDays.j0]
   have hnd:decide (n<0)=false:=by simp[hn]
   unfold impl_NeedHome.f
   rw[hdays _ Om,Ob,hk1 _ Om,Ob,if_pos rfl,hnd]
   simp[impl_NeedHome.j0,hwd]
 ·refine⟨-1,d,fun k hk=>?_,hk0,fun h1=>by omega⟩
  unfold impl_NeedHome.f
  rw[hdays _ Om,Ob,hk1 _ Om,Ob]
  refine bad k Om _ ?_
  by_cases q:p=true
  ·refine Or.inr ?_
   have:n<0:=by
    by_cases q2:n<0
    ·exact q2
    ·exact absurd ⟨q,q2⟩ c
   simp[this]
  ·exact Or.inl (Bool.eq_false_iff.mpr q)
theorem Z6a (d:List Int) (hd:d.length<=1048576) (n:Int) (hn:n<=12):∀ (e:Nat) (i:Int) (q:List Bool) (p s:Int),n-i<=e->0<=i->i<=12->q.length<=i.toNat->0<=p->p<=d.length ->
  ∃ q' p' s',q'.length<=12/\∀ k,e<k->spec_l10Storms.l0 k n q i d p s=some (q',p',s'):=by
 intro e
 induction e with
 |zero =>
  intro i q p s he h0 h12 hq hp hp2
  refine⟨q,p,s,by omega,fun k hk=>?_⟩
  obtain⟨k,rfl⟩:=Yk k
  rw[spec_l10Storms.l0,if_neg Om]
 |succ e ih =>
  intro i q p s he h0 h12 hq hp hp2
  by_cases c:i<n
  ·obtain⟨f,p1,s1,e1,hp1,hp1'⟩:=Zea d p s 4 hd hp hp2
   have hw:wrap64 (i+1)=i+1:=Yw
   obtain⟨q',p',s',hq',hk2⟩:=ih (i+1) (q++[f]) p1 s1 Om Om Om (by simp only[List.length_append,List.length_singleton];omega) hp1 hp1'
   refine⟨q',p',s',hq',fun k hk=>?_⟩
   obtain⟨k,rfl⟩:=Yk k
   rw[spec_l10Storms.l0,if_pos c,e1,Ob,if_pos Om,hw]
   exact hk2 k Om
  ·refine⟨q,p,s,by omega,fun k hk=>?_⟩
   obtain⟨k,rfl⟩:=Yk k
   rw[spec_l10Storms.l0,if_neg c]
theorem Zmb (d:List Int) (hd:d.length<=1048576):∃ W H xs base M Wi ds a b l h st,xs.length<=64/\ds.length<=3/\l.length<=6/\h.length<=10/\st.length<=12/\∀ k,d.length+1400<k->spec_DrawReturnAll.f k d=some (W,H,xs,base,M,Wi,ds,a,b,l,h,st):=by
 obtain⟨s,hs⟩:=Zsb d hd
 obtain⟨W,H,xs,base,M,Wi,ds,a,b,l,h,p1,s1,hx,hds,hl,hh,_,hp1,hp1',h1⟩:=Zeb d 0 s hd Om Om
 obtain⟨n,p2,s2,e2,⟨n0,n1,_⟩,hp2,hp2'⟩:=Zg d p1 s1 12 hd hp1 hp1'
 have n2:=n1 Om
 obtain⟨st,p3,s3,hst,h3⟩:=Z6a d hd n Om 12 0 [] p2 s2 Om Om Om (by simp) hp2 hp2'
 refine⟨W,H,xs,base,M,Wi,ds,a,b,l,h,st,hx,hds,hl,hh,hst,fun k hk=>?_⟩
 unfold spec_DrawReturnAll.f spec_l10Storms.f
 simp only[hs k Om,Ob,h1 k Om,e2,h3 k Om]
theorem ZFb {W H:Int} {xs:List Int} (hx:xs.length<=64) (base M Wi:Int) (l:List S76) (hl:l.length<=100) (st:List Bool) (hst:st.length<=12):∀ (e:Nat) (i:Int) (ds:List S73) (a b:Int) (h:List Bool),0<=i->(st.length:Int)-i=e->ds.length<=100->h.length<=20 ->
  ∃ A B L X D n,(0<=n/\n<=(st.length:Int))/\∀ k,5100001+e<k->impl_ReturnAll.l0 k base st ds st (st.length:Int) i W H xs M Wi a b l h=some (A,B,L,X,D,n):=by
 intro e
 induction e with
 |zero =>
  intro i ds a b h h0 he hds hh
  refine⟨a,b,l,h,ds,(st.length:Int),by omega,fun k hk=>?_⟩
  obtain⟨k,rfl⟩:=Yk k
  rw[impl_ReturnAll.l0,if_neg Om]
 |succ e ih =>
  intro i ds a b h h0 he hds hh
  have hlt:i<(st.length:Int):=by omega
  have hw:wrap64 (i+1)=i+1:=Yw
  obtain⟨can,v,a1,b1,ds1,R⟩:=Zfa W H xs hx base M Wi ds hds a b l hl h hh
  obtain⟨s,hs⟩:∃ s,s=rdOf false st i:=⟨_,rfl⟩
  by_cases g:(can && (decide (a≠base) && (!s || Zh M Wi h)))=true
  ·have g2:=g
   simp only[Bool.and_eq_true,decide_eq_true_eq] at g2
   obtain⟨rfl,ha,_⟩:=g2
   obtain⟨_,_,_,_,_,_,_,_,_,_,hlen⟩:=Zfb hx R ha
   have hl2:=Zt h s
   obtain⟨A,B,L,X,D,n,hn,hk2⟩:=ih (i+1) ds1 (if s=true then a else a1) b1 (Zc h s) Om Om Om Om
   refine⟨A,B,L,X,D,n,hn,fun k hk=>?_⟩
   obtain⟨k,rfl⟩:=Yk k
   rw[impl_ReturnAll.l0,if_pos hlt,if_pos h0,if_pos hlt,<-hs,R.st s k Om,if_pos g,Ob,if_pos rfl,hw]
   exact hk2 k Om
  ·refine⟨a,b,l,h,ds,i,by omega,fun k hk=>?_⟩
   obtain⟨k,rfl⟩:=Yk k
   rw[impl_ReturnAll.l0,if_pos hlt,if_pos h0,if_pos hlt,<-hs,R.st s k Om,if_neg g,Ob,if_neg Bool.false_ne_true]
theorem Zhc (d:List Int) (i:Int) (h:0<=i):∃ t,laws_at.f d i=some t:=by
 unfold laws_at.f
 by_cases c:i<(d.length:Int)
 ·exact⟨_,by rw[if_pos c,if_pos h]⟩
 ·exact⟨_,by rw[if_neg c]⟩
theorem Zgc (d:List Int) (hd:d.length<=1048576) {W H:Int} {xs:List Int} (hx:xs.length<=64) {base M Wi:Int} {ds:List S73} (hds:ds.length<=100) {a b:Int} {l:List S76} (hl:l.length<=100) {h:List Bool} (hh:h.length<=20) {can:Bool} {v a1 b1:Int} {ds1:List S73}
  (R:Ret W H xs base M Wi ds a b l h can v a1 b1 ds1):∀ k,d.length+5100100<k->laws_FnReturns.j5 k d base ds can W H xs M Wi a b l h=some true:=by
 intro k hk
 obtain⟨k,rfl⟩:=Yk k
 obtain⟨W2,H2,xs2,base2,M2,Wi2,ds2,a2,b2,l2,h2,st,hx2,hds2,hl2,hh2,hst,h1⟩:=Zmb d hd
 obtain⟨A,B,L,X,D,n,hn,h3⟩:=ZFb (W:=W2) (H:=H2) (xs:=xs2) Om base2 M2 Wi2 l2 Om st hst st.length 0 ds2 a2 b2 h2 Om Om Om Om
 obtain⟨nh,dd,hnh,hdd,himp⟩:=Zxb hx hds hl hh R
 have hall:impl_ReturnAll.f k W2 H2 xs2 base2 M2 Wi2 ds2 a2 b2 l2 h2 st=some (A,B,L,X,D,n):=by
  unfold impl_ReturnAll.f
  rw[(ZJ a2 b2 l2 h2 Om Om).1,Ob,Z7 ds2 Om,Ob]
  exact h3 k Om
 rw[laws_FnReturns.j5]
 simp only[h1 k Om,Ob,hall,ge_iff_le,if_pos hn.1,if_pos hn.2,hnh k Om,hdd k Om]
 by_cases c:nh<0
 ·rw[if_pos c]
 ·rw[if_neg c]
  by_cases c2:b<nh
  ·rw[if_pos c2]
  ·rw[if_neg c2]
   by_cases c3:dd=true
   ·rw[if_pos c3,himp Om Om c3]
   ·rw[if_neg c3]
theorem ZAb (d:List Int) {W H:Int} {xs:List Int} (hx:xs.length<=64) {base M Wi:Int} {ds0:List S73} {a0 b0:Int} {l0 l:List S76} {h0:List Bool} {can0:Bool} (hl:l.length<=100) {K:Nat} (hK:5100000<=K) (hj:∀ k,K<k->laws_FnReturns.j5 k d base ds0 can0 W H xs M Wi a0 b0 l0 h0=some true) :
  ∀ (e:Nat) (i a b:Int) (h:List Bool),b.toNat<=e->0<=i->i+e<300->h.length<=20->(∀ k,5100000<k->impl_CanReturn.f k W H xs base M Wi [] a b l h=some true)->∀ k,K+2 * e+2<k->laws_FnReturns.l0 k d base ds0 can0 [] i W H xs M Wi a0 b0 l0 h0 a b l h=some true:=by
 intro e
 induction e with
 |zero =>
  intro i a b h hb hi hi2 hh hc k hk
  obtain⟨k,rfl⟩:=Yk k
  obtain⟨k,rfl⟩:=Yk k
  rw[laws_FnReturns.l0,if_pos Om]
  by_cases ha:a=base
  ·rw[bne_eq_false_iff_eq.mpr ha,laws_FnReturns.j4,if_neg Bool.false_ne_true,if_pos ha]
   exact hj k Om
  ·obtain⟨can,v,a1,b1,ds1,R⟩:=Zfa W H xs hx base M Wi [] (by simp) a b l hl h hh
   have e1:=R.cr 5100001 Om
   rw[hc 5100001 Om] at e1
   obtain rfl:=Option.some.inj e1
   obtain⟨_,h2,_⟩:=Zca hx R ha false (fun e=>by cases e)
   omega
 |succ e ih =>
  intro i a b h hb hi hi2 hh hc k hk
  obtain⟨k,rfl⟩:=Yk k
  obtain⟨k,rfl⟩:=Yk k
  rw[laws_FnReturns.l0,if_pos Om]
  by_cases ha:a=base
  ·rw[bne_eq_false_iff_eq.mpr ha,laws_FnReturns.j4,if_neg Bool.false_ne_true,if_pos ha]
   exact hj k Om
  ·obtain⟨can,v,a1,b1,ds1,R⟩:=Zfa W H xs hx base M Wi [] (by simp) a b l hl h hh
   have e1:=R.cr 5100001 Om
   rw[hc 5100001 Om] at e1
   obtain rfl:=Option.some.inj e1
   have hw:wrap64 (i+1)=i+1:=Yw
   have key:∀ s:Bool,(s=true->Zh M Wi h=true)->((impl_ReturnStep.f k W H xs base M Wi [] a b l h s).bind fun bt=>(if bt.2.2.2.2.2=true then(laws_FnReturns.l0 k d base ds0 can0 bt.2.2.2.2.1 (wrap64 (i+1)) W H xs M Wi a0 b0 l0 h0 bt.1 bt.2.1 bt.2.2.1 bt.2.2.2.1) else(some false)))=some true:=by
    intro s hs
    obtain⟨h1,h2,h3⟩:=Zca hx R ha s hs
    subst h1
    have hl2:=Zt h s
    have g:(true && (decide (a≠base) && (!s || Zh M Wi h)))=true:=by
     cases s with
     |false=>simp[ha]
     |true=>simp[ha,hs rfl]
    rw[R.st s k Om,if_pos g,Ob,if_pos rfl,hw]
    exact ih (i+1) _ b1 (Zc h s) Om Om Om Om h3 k Om
   obtain⟨t,ht⟩:=Zhc d i hi
   rw[bne_iff_ne.mpr ha,laws_FnReturns.j4,if_pos rfl,Zy M Wi h Om k Om,Ob]
   by_cases m:Zh M Wi h=true
   ·rw[if_pos m,ht,Ob]
    exact key _ (fun _=>m)
   ·rw[if_neg m]
    exact key false (fun e=>by cases e)
theorem Zfc (d:List Int) (hd:d.length<=1048576) {W H:Int} {xs:List Int} (hx:xs.length<=64) {base M Wi:Int} {ds:List S73} (hds:ds.length<=100) {a b:Int} (hb:b<60) {l:List S76} (hl:l.length<=100) {h:List Bool} (hh:h.length<=20) {can:Bool} {v a1 b1:Int} {ds1:List S73}
  (R:Ret W H xs base M Wi ds a b l h can v a1 b1 ds1) (k:Nat) (hk:d.length+5100300<k):laws_FnReturns.j1 k d base ds can false W H xs M Wi a b l h=some true:=by
 have hj:=Zgc d hd hx hds hl hh R
 obtain⟨k,rfl⟩:=Yk k
 obtain⟨k,rfl⟩:=Yk k
 rw[laws_FnReturns.j1,if_neg Bool.false_ne_true]
 cases can with
 |false=>rw[if_neg Bool.false_ne_true,laws_FnReturns.j2,if_neg Bool.false_ne_true];exact hj k Om
 |true =>
  rw[if_pos rfl]
  by_cases z:ds=[]
  ·subst z
   have e:(((([]:List S73).length:Int)==0))=true:=rfl
   rw[e,laws_FnReturns.j2,if_pos rfl]
   exact ZAb d hx hl (K:=d.length+5100100) Om hj 60 0 a b h Om Om Om hh R.cr k Om
  ·have e:(((ds.length:Int)==0))=false:=by
    have:ds.length≠0:=fun q=>z (List.eq_nil_of_length_eq_zero q)
    rw[beq_eq_false_iff_ne];omega
   rw[e,laws_FnReturns.j2,if_neg Bool.false_ne_true]
   exact hj k Om
theorem Zub (d:List Int) {W H:Int} {xs:List Int} (hx:xs.length<=64) {base M Wi:Int} {ds:List S73} {a b:Int} {l:List S76} {h:List Bool} {v a1 b1:Int} {ds1:List S73}
  (R:Ret W H xs base M Wi ds a b l h true v a1 b1 ds1) (ha:a≠base) (s:Bool) (hs:s=true->Zh M Wi h=true) {k:Nat} (hk:5100300<k) (hj:laws_FnReturns.j1 k d base ds true false W H xs M Wi a b l h=some true) :
  laws_FnReturns.j0 (k+1) d base ds s true ds1 true false W H xs M Wi a b l h (if s=true then a else a1) b1 l (Zc h s)=some true:=by
 obtain⟨N,T0,T1,n,hN,hT0,hT1,hsum,hn,hn1,_⟩:=Zfb hx R ha
 have fin:((impl_TotalFood.f k ds1).bind fun t991=>((impl_NeedOf.f k l).bind fun t992=>((impl_TotalFood.f k ds).bind fun t993=>(if (wrap64 ((wrap64 (b1+t991))+t992))=(wrap64 (b+t993)) then(if s=true then(laws_FnReturns.j1 k d base ds true false W H xs M Wi a b l h) else((impl_Days.f k W H xs (if s=true then a else a1) base).bind fun t994=>((impl_Days.f k W H xs a base).bind fun t995=>(laws_FnReturns.j1 k d base ds true (t994 != (wrap64 (t995-1))) W H xs M Wi a b l h)))) else(laws_FnReturns.j1 k d base ds true true W H xs M Wi a b l h)))))=some true:=by
  rw[hT1 k Om,Ob,hN k Om,Ob,hT0 k Om,Ob,if_pos hsum]
  cases s with
  |true=>rw[if_pos rfl];exact hj
  |false =>
   rw[if_neg Bool.false_ne_true,if_neg Bool.false_ne_true,hn1 k Om,Ob,hn k Om,Ob,bne_self_eq_false]
   exact hj
 rw[laws_FnReturns.j0,if_neg Bool.false_ne_true,if_pos rfl]
 by_cases z:ds=[]
 ·subst z
  obtain⟨h1,_,h3⟩:=Zca hx R ha s hs
  subst h1
  have e:((([]:List S73).length:Int)=0):=rfl
  rw[if_pos e,h3 k Om,Ob,if_pos rfl]
  exact fin
 ·have e:¬ ((ds.length:Int)=0):=by
   have:ds.length≠0:=fun q=>z (List.eq_nil_of_length_eq_zero q)
   omega
  rw[if_neg e]
  exact fin
theorem FnReturns:laws_FnReturns.Stmt:=by
 intro d
 by_cases hbig:(d.length:Int)>1048576
 ·exact fun _=>⟨0,by unfold laws_FnReturns.f laws_big.f;simp only[hbig,decide_true,Ob,if_true]⟩
 intro _
 have hd:d.length<=1048576:=by omega
 obtain⟨W,H,xs,base,M,Wi,ds,a,b,l,h,s,hx,hds,hl,hh,hb,h1⟩:=Z7a d hd
 obtain⟨can,v,a1,b1,ds1,R⟩:=Zfa W H xs hx base M Wi ds Om a b l Om h Om
 obtain⟨k,hk⟩:∃ k,k=d.length+5200000:=⟨_,rfl⟩
 have hj:=Zfc d hd hx Om hb.2 Om Om R k Om
 have ecv:(can != decide (v>=0))=false:=by rw[<-R.cv,bne_self_eq_false]
 refine⟨k+1,?_⟩
 simp only[laws_FnReturns.f,laws_big.f,hbig,decide_false,Ob,Bool.false_eq_true,if_false,h1 (k+1) Om,R.cr (k+1) Om,R.lh (k+1) Om,ecv,R.st s (k+1) Om,Zy M Wi h (show h.length<=1048576 by omega) (k+1) Om]
 cases can with
 |false=>simp only[Bool.false_and,Bool.false_eq_true,if_false,laws_FnReturns.j0,bne_self_eq_false,hj]
 |true =>
  by_cases ha:a=base
  ·simp[ha,laws_FnReturns.j0];rw[ha] at hj;exact hj
  ·cases s with
   |false =>
    have q:=Zub d hx R ha false (fun e=>by cases e) (k:=k) Om hj
    simpa [ha] using q
   |true =>
    cases m:Zh M Wi h with
    |false=>simp[ha,laws_FnReturns.j0,hj]
    |true =>
     have q:=Zub d hx R ha true (fun _=>m) (k:=k) Om hj
     simpa [ha] using q

end Go.Proofs.Ytdnbfegkplpngaa.Pure
