/- Whoever goes on or waits can still return, whatever the weather is; the choices are just the cells beside where one may go; and who can go so many steps on a way goes no farther than its days: the law FnGoing holds for every code (a code of more than 2^20 bytes the law lets pass). No further condition. -/
import Derived.Test.YtkcachediijmoaaSFnGoing
namespace Go.Proofs.Ytkcachediijmoaa.Pure
open Go.RowKit Go.Proofs.Ytkcachediijmoaa.Q Go.Proofs.YtkcachediijmoaaW.PrintWords Go.Proofs.YtkcachediijmoaaW.PrintLast Go.Proofs.YtkcachediijmoaaW.PrintMore
set_option linter.unusedVariables false
set_option linter.unusedSimpArgs false
theorem Yw {p:Prop} (h:p:=by unfold wrap64;omega):p:=h
theorem Yk (k:Nat) (h:0<k:=by omega):∃ m,k=m+1:=⟨k-1,by omega⟩
theorem Om {p:Prop} (h:p:=by omega):p:=h
theorem Ob {α β:Type} (a:α) (f:α→Option β):(some a).bind f=f a:=rfl
def shf (y:List S106) (k:Nat):List S106:=y.take (k+1)++(y.drop k).take (y.length-(k+1))
def Yd.l0:Nat->List (S69)->Int->Option (Bool)
 |0,_,_=>none
 |k+1,x0,x3=>if x3<(x0.length:Int) then(if 0<=x3 then((spec_l1In.f ((rd_T69 x0 x3).f0) 1 99).bind fun a=>(if a=true then((spec_l1In.f ((rd_T69 x0 x3).f1) 0 100).bind fun b=>(if b=true then((spec_l1In.f ((rd_T69 x0 x3).f2) 1 10).bind fun c=>(if c=true then(if x3>0 then(if 0<=(wrap64 (x3-1)) then(if (wrap64 (x3-1))<(x0.length:Int) then(if ((rd_T69 x0 (wrap64 (x3-1))).f0)>=((rd_T69 x0 x3).f0) then(some false) else(Yd.l0 k x0 (wrap64 (x3+1)))) else(none)) else(none)) else(Yd.l0 k x0 (wrap64 (x3+1)))) else(some false))) else(some false))) else(some false))) else(none)) else((spec_l1In.f (x0.length:Int) 1 8).bind fun d=>(some d))
def Yd.f (k:Nat) (l0:List (S69)):Option (Bool):=Yd.l0 k l0 0
def Yl.l0:Nat->List (S69)->Int->Int->Option (Int)
 |0,_,_,_=>none
 |k+1,x0,x3,x4=>if x4<(x0.length:Int) then((Yd.f k x0).bind fun a=>(if a=true then(if 0<=x4 then(Yl.l0 k x0 (wrap64 (x3+((rd_T69 x0 x4).f2))) (wrap64 (x4+1))) else(none)) else(some x3))) else(some x3)
def Yl.f (k:Nat) (l0:List (S69)):Option (Int):=Yl.l0 k l0 0 0
def Yq.f (a0_0:Int) (a0_1:Int) (l0_2:List (S69)) (l0_3:List Bool):Option (Int × Int × (List (S69)) × List Bool):=(some (([]:List (S69)):List (S69))).bind fun a=>(if a.length+l0_2.length<4398046511104 then((some (([]:List Bool):List Bool)).bind fun b=>(if b.length+l0_3.length<140737488355328 then(some (a0_0,a0_1,(a++l0_2),(b++l0_3))) else(none))) else(none))
def Yh.f (k:Nat) (a0_0:Int) (a0_1:Int) (l0_2:List (S69)) (l0_3:List Bool):Option (Int × Int × (List (S69)) × List Bool × Bool):=(Yq.f a0_0 a0_1 l0_2 l0_3).bind fun a=>((Yl.f k l0_2).bind fun b=>(if b=0 then(some (a.1,a.2.1,a.2.2.1,a.2.2.2,false)) else(if a0_1<b then(some (a.1,a.2.1,a.2.2.1,a.2.2.2,false)) else(some (a.1,wrap64 (a0_1-b),a.2.2.1,a.2.2.2,true)))))
def Yc.f (l0:List Bool) (a1:Bool):Option (List Bool):=(some (([]:List Bool):List Bool)).bind fun c=>(if c.length+l0.length<140737488355328 then((some (c++l0:List Bool)).bind fun d=>(if d.length<140737488355328 then((some (d++[a1]:List Bool)).bind fun a=>((spec_Max.f 0 (wrap64 ((a.length:Int)-10))).bind fun b=>(if 0<=b then(if b<=(a.length:Int) then(some (a.drop (b:Int).toNat)) else(none)) else(none)))) else(none))) else(none))
def Yi.f (k:Nat) (a0_0:Int) (a0_1:Int) (l0_2:List Int) (a1_0:Int) (a1_1:Int) (l1_2:List (S69)) (l1_3:List Bool):Option (Bool):=(spec_IsOpen.f k a0_0 a0_1 l0_2 a1_0).bind fun a=>(if a=true then((Yd.f k l1_2).bind fun b=>(if b=true then((spec_l1In.f a1_1 0 10000).bind fun c=>(if c=true then(some (decide ((l1_3.length:Int)<=10))) else(some false))) else(some false))) else(some false))
def Yj.f (a0:Int) (a1:Int):Option (Int):=if a1<a0 then(some a1) else(some a0)
mutual
def Yf.l0:Nat->List (S69)->Int->Int->Option (Int)
 |0,_,_,_=>none
 |k+1,x0,x3,x4=>if x4<(x0.length:Int) then((Yd.f k x0).bind fun a=>(Yf.j1 k x0 x3 x4 a)) else(Yf.j1 k x0 x3 x4 false)
def Yf.j1:Nat->List (S69)->Int->Int->Bool->Option (Int)
 |0,_,_,_,_=>none
 |k+1,x0,x3,x4,b=>if b=true then(if 0<=x4 then(if x4<(x0.length:Int) then(if ((rd_T69 x0 x4).f3=true) then(Yf.l0 k x0 x3 (wrap64 (x4+1))) else(Yf.l0 k x0 (wrap64 (x3+((rd_T69 x0 x4).f1))) (wrap64 (x4+1)))) else(none)) else(none)) else(some x3)
end
def Yf.f (k:Nat) (l0:List (S69)):Option (Int):=Yf.l0 k l0 0 0
def Yn.f (k:Nat) (a0_0:Int) (a0_1:Int) (l0_2:List (S69)) (l0_3:List Bool):Option (Int):=(Yf.f k l0_2).bind fun a=>(if a0_1<0 then(some 0) else(if a0_1>=a then(some 0) else(some (wrap64 (a-a0_1)))))
def Ym.f (k:Nat) (a0_0:Int) (a0_1:Int) (l0_2:List (S69)) (l0_3:List Bool) (a1:Int):Option (Int × Int × (List (S69)) × List Bool × Int):=(Yq.f a0_0 a0_1 l0_2 l0_3).bind fun a=>((Yn.f k a0_0 a0_1 l0_2 l0_3).bind fun c=>((Yj.f a1 c).bind fun d=>((spec_Max.f 0 d).bind fun b=>(some (a.1,wrap64 (a0_1+b),a.2.2.1,a.2.2.2,b)))))
def Yg.f (k:Nat) (a0_0:Int) (a0_1:Int) (l0_2:List Int) (a1:Int) (a2:Int):Option (Int):=(spec_IsOpen.f k a0_0 a0_1 l0_2 a1).bind fun b=>(if b=true then((spec_IsOpen.f k a0_0 a0_1 l0_2 a2).bind fun c=>(if c=true then((spec_l5From.f k a0_0 a0_1 l0_2 a1).bind fun a=>(if 0<=a2 then(if a2<(a.length:Int) then(some (rd a a2)) else(none)) else(none))) else(some (-1)))) else(some (-1)))
mutual
def Yo.l0:Nat->Int->Int->List Int->List Int->Int->Int->List Int->Option (List Int)
 |0,_,_,_,_,_,_,_=>none
 |k+1,x1,x2,x7,x8,b,c,d=>if x1=x2 then(some x7) else((spec_l4Near.f k b c d x1).bind fun e=>(Yo.l1 k x1 x2 x7 x8 e (wrap64 ((e.length:Int)-1)) b c d))
def Yo.l1:Nat->Int->Int->List Int->List Int->List Int->Int->Int->Int->List Int->Option (List Int)
 |0,_,_,_,_,_,_,_,_,_=>none
 |k+1,x1,x2,x7,x8,x9,a,b,c,d=>if a>=0 then(if 0<=a then(if a<(x9.length:Int) then(if 0<=(rd x9 a) then(if (rd x9 a)<(x8.length:Int) then(if 0<=(wrap64 ((x7.length:Int)-1)) then(if (wrap64 ((x7.length:Int)-1))<(x7.length:Int) then(if 0<=(rd x7 (wrap64 ((x7.length:Int)-1))) then(if (rd x7 (wrap64 ((x7.length:Int)-1)))<(x8.length:Int) then(if (rd x8 (rd x9 a))=(wrap64 ((rd x8 (rd x7 (wrap64 ((x7.length:Int)-1))))-1)) then(Yo.l1 k (rd x9 a) x2 x7 x8 x9 (wrap64 (a-1)) b c d) else(Yo.l1 k x1 x2 x7 x8 x9 (wrap64 (a-1)) b c d)) else(none)) else(none)) else(none)) else(none)) else(none)) else(none)) else(none)) else(none)) else(if x7.length<17592186044416 then(Yo.l0 k x1 x2 (x7++[x1]) x8 b c d) else(none))
end
def Yo.f (k:Nat) (a0_0:Int) (a0_1:Int) (l0_2:List Int) (a1:Int) (a2:Int):Option (List Int):=(some (([]:List Int):List Int)).bind fun a=>((Yg.f k a0_0 a0_1 l0_2 a1 a2).bind fun b=>(if b<0 then(some a) else((spec_l5From.f k a0_0 a0_1 l0_2 a2).bind fun c=>(if a.length<17592186044416 then(Yo.l0 k a1 a2 (a++[a1]) c a0_0 a0_1 l0_2) else(none)))))
mutual
def Yp.j0:Nat->List (S106)->List Int->Bool->Int->Int->Int->Int->List (S69)->List Bool->Option (Int)
 |0,_,_,_,_,_,_,_,_,_=>none
 |k+1,x3,a,p,d,e,h,i,m,g=>if p=true then(some (-1)) else((spec_FoodAt.f k x3 h).bind fun q=>((Ym.f k h i m g q).bind fun j=>(Yp.l0 k x3 a 1 d e j.1 j.2.1 j.2.2.1 j.2.2.2.1)))
def Yp.l0:Nat->List (S106)->List Int->Int->Int->Int->Int->Int->List (S69)->List Bool->Option (Int)
 |0,_,_,_,_,_,_,_,_,_=>none
 |k+1,x3,a,b,d,e,h,i,m,g=>if b<(a.length:Int) then((Yh.f k h i m g).bind fun c=>(if c.2.2.2.2=true then((spec_MayStorm.f k d e g).bind fun n=>((Yc.f g n).bind fun o=>(if n=true then(Yp.l0 k x3 a b d e c.1 c.2.1 c.2.2.1 o) else(if 0<=b then((spec_FoodAt.f k x3 (rd a b)).bind fun r=>((Ym.f k (rd a b) c.2.1 c.2.2.1 o r).bind fun l=>(Yp.l0 k x3 a (wrap64 (b+1)) d e l.1 l.2.1 l.2.2.1 l.2.2.2.1))) else(none))))) else(some (-1)))) else(some i)
end
def Yp.f (k:Nat) (a0_0:Int) (a0_1:Int) (l0_2:List Int) (a1:Int) (a2_0:Int) (a2_1:Int) (l3:List (S106)) (a4_0:Int) (a4_1:Int) (l4_2:List (S69)) (l4_3:List Bool):Option (Int):=(Yo.f k a0_0 a0_1 l0_2 a4_0 a1).bind fun a=>((spec_IsRule.f a2_0 a2_1).bind fun b=>(if b=true then((spec_AreDepots.f k a0_0 a0_1 l0_2 l3).bind fun c=>(if c=true then((Yi.f k a0_0 a0_1 l0_2 a4_0 a4_1 l4_2 l4_3).bind fun d=>(if d=true then(Yp.j0 k l3 a ((a.length:Int)==0) a2_0 a2_1 a4_0 a4_1 l4_2 l4_3) else(Yp.j0 k l3 a true a2_0 a2_1 a4_0 a4_1 l4_2 l4_3))) else(Yp.j0 k l3 a true a2_0 a2_1 a4_0 a4_1 l4_2 l4_3))) else(Yp.j0 k l3 a true a2_0 a2_1 a4_0 a4_1 l4_2 l4_3)))
def Ye.f (k:Nat) (a0_0:Int) (a0_1:Int) (l0_2:List Int) (a1:Int) (a2_0:Int) (a2_1:Int) (l3:List (S106)) (a4_0:Int) (a4_1:Int) (l4_2:List (S69)) (l4_3:List Bool):Option (Bool):=(Yp.f k a0_0 a0_1 l0_2 a1 a2_0 a2_1 l3 a4_0 a4_1 l4_2 l4_3).bind fun a=>(some (decide (a>=0)))
def Yb.f (l0:List (S106)):Option ((List (S106))):=(some (([]:List (S106)):List (S106))).bind fun a=>(if a.length+l0.length<8796093022208 then(some (a++l0)) else(none))
mutual
def Ya.j0:Nat->List (S106)->Int->Int->Bool->Int->Int->List Int->Option ((List (S106)) × Bool)
 |0,_,_,_,_,_,_,_=>none
 |k+1,x1,x2,x3,h,c,d,e=>if h=true then((Yb.f x1).bind fun i=>(some (i,false))) else((Yb.f x1).bind fun j=>(Ya.l0 k x1 x2 x3 j 0 c d e))
def Ya.j2:Nat->List (S106)->Int->Int->List (S106)->Int->Int->Int->List Int->Option ((List (S106)) × Bool)
 |0,_,_,_,_,_,_,_,_=>none
 |k+1,x1,x2,x3,b,a,c,d,e=>if a<(b.length:Int) then(if 0<=a then(Ya.j3 k x1 x2 x3 b a (((rd_T106 b a).f0)==x2) c d e) else(none)) else(Ya.j3 k x1 x2 x3 b a false c d e)
def Ya.j3:Nat->List (S106)->Int->Int->List (S106)->Int->Bool->Int->Int->List Int->Option ((List (S106)) × Bool)
 |0,_,_,_,_,_,_,_,_,_=>none
 |k+1,x1,x2,x3,b,a,l,c,d,e=>if l=true then(if 0<=a then(if a<(b.length:Int) then(Ya.j4 k x1 (b.set (a:Int).toNat (⟨(rd_T106 b a).f0,wrap64 (((rd_T106 b a).f1)+x3)⟩:S106)) c d e) else(none)) else(none)) else(if b.length<8796093022208 then((some (b++[(⟨0,0⟩:S106)]:List (S106))).bind fun g=>(if 0<=a then(if a<(g.length:Int) then(Ya.j4 k x1 ((shf g (a:Int).toNat).set (a:Int).toNat (⟨x2,x3⟩:S106)) c d e) else(none)) else(none))) else(none))
def Ya.j4:Nat->List (S106)->List (S106)->Int->Int->List Int->Option ((List (S106)) × Bool)
 |0,_,_,_,_,_=>none
 |k+1,x1,b,c,d,e=>(impl_AreDepots.f k c d e b).bind fun m=>(if m=true then(some (b,true)) else((Yb.f x1).bind fun n=>(some (n,false))))
def Ya.l0:Nat->List (S106)->Int->Int->List (S106)->Int->Int->Int->List Int->Option ((List (S106)) × Bool)
 |0,_,_,_,_,_,_,_,_=>none
 |k+1,x1,x2,x3,b,a,c,d,e=>if a<(b.length:Int) then(if 0<=a then(if ((rd_T106 b a).f0)<x2 then(Ya.l0 k x1 x2 x3 b (wrap64 (a+1)) c d e) else(Ya.j2 k x1 x2 x3 b a c d e)) else(none)) else(Ya.j2 k x1 x2 x3 b a c d e)
end
def Ya.f (k:Nat) (a0_0:Int) (a0_1:Int) (l0_2:List Int) (l1:List (S106)) (a2:Int) (a3:Int):Option ((List (S106)) × Bool):=(impl_InRange.f a3 1 10000).bind fun a=>(if a=true then((impl_AreDepots.f k a0_0 a0_1 l0_2 l1).bind fun b=>(Ya.j0 k l1 a2 a3 (!b) a0_0 a0_1 l0_2)) else(Ya.j0 k l1 a2 a3 true a0_0 a0_1 l0_2))
theorem Zi {i:Int} {n:Nat} (h0:0<=i) (h:i<(n:Int)) (hn:n<=1048576):wrap64 (i+1)=i+1:=by
 unfold wrap64;omega
theorem Zo {α:Type} (d:α) (l:List α) (i:Int) (h0:0<=i) (h:i<(l.length:Int)):l.drop i.toNat=l.getD i.toNat d :: l.drop (i+1).toNat:=by
 have h1:i.toNat<l.length:=by omega
 rw[List.drop_eq_getElem_cons h1,show (i+1).toNat=i.toNat+1 by omega]
 congr 1
 simp[List.getD_eq_getElem?_getD,List.getElem?_eq_getElem h1]
theorem Zh (a b c:Int):spec_l1In.f a b c=some (decide (b<=a/\a<=c)):=by
 unfold spec_l1In.f
 by_cases h:a>=b
 ·rw[if_pos h];congr 1;have:b<=a:=h;simp[this]
 ·rw[if_neg h];have:¬ b<=a:=h;simp[this]
theorem Ze (a b c:Int):impl_InRange.f a b c=some (decide (b<=a/\a<=c)):=by
 unfold impl_InRange.f
 by_cases h:b<=a
 ·rw[if_pos h];simp[h]
 ·rw[if_neg h];simp[h]
def Zx (m:S69):Prop:=1<=m.f0/\m.f0<=99/\0<=m.f1/\m.f1<=100/\1<=m.f2/\m.f2<=10
theorem Zxa (xs:List S69) (hn:xs.length<=1048576):∀ (d:Nat) (i:Int),0<=i->(xs.length:Int)-i=d ->
  ∃ b,(∀ k,d<k->impl_AreCrew.l0 k xs xs (xs.length:Int) i=some b/\Yd.l0 k xs i=some b)/\(b=true->(1<=xs.length/\xs.length<=8)/\∀ j:Int,i<=j->j<(xs.length:Int)->Zx (rd_T69 xs j)):=by
 intro d
 induction d with
 |zero =>
  intro i h0 hd
  have hlt:¬ i<(xs.length:Int):=by omega
  refine⟨decide (1<=(xs.length:Int)/\(xs.length:Int)<=8),fun k hk=>?_,fun hb=>?_⟩
  ·obtain⟨k,rfl⟩:=Yk k
   simp only[impl_AreCrew.l0,Yd.l0,if_neg hlt,Zh,Ze,Ob,and_self]
  ·have:=of_decide_eq_true hb
   exact⟨by omega,fun j h1 h2=>by omega⟩
 |succ d ih =>
  intro i h0 hd
  have hlt:i<(xs.length:Int):=by omega
  obtain⟨b,hb,hp⟩:=ih (i+1) Om Om
  have hw:wrap64 (i-1)=i-1:=Yw
  by_cases ok:(1<=(rd_T69 xs i).f0/\(rd_T69 xs i).f0<=99/\0<=(rd_T69 xs i).f1/\(rd_T69 xs i).f1<=100/\1<=(rd_T69 xs i).f2/\(rd_T69 xs i).f2<=10)/\(i>0->(rd_T69 xs (i-1)).f0<(rd_T69 xs i).f0)
  ·refine⟨b,fun k hk=>?_,fun e=>⟨(hp e).1,fun j h1 h2=>?_⟩⟩
   ·obtain⟨k,rfl⟩:=Yk k
    obtain⟨b1,b2⟩:=hb k Om
    have e1:1<=(rd_T69 xs i).f0/\(rd_T69 xs i).f0<=99:=⟨ok.1.1,ok.1.2.1⟩
    have e2:0<=(rd_T69 xs i).f1/\(rd_T69 xs i).f1<=100:=⟨ok.1.2.2.1,ok.1.2.2.2.1⟩
    have e3:1<=(rd_T69 xs i).f2/\(rd_T69 xs i).f2<=10:=ok.1.2.2.2.2
    simp only[impl_AreCrew.l0,Yd.l0,if_pos hlt,if_pos h0,Zh,Ze,Ob,decide_eq_true_eq,if_pos e1,if_pos e2,if_pos e3,hw,Zi (n:=xs.length) h0 hlt hn]
    by_cases hi:i>0
    ·have h1:0<=i-1:=by omega
     have h2:i-1<(xs.length:Int):=by omega
     have h3:=ok.2 hi
     have h4:¬ (rd_T69 xs i).f0<=(rd_T69 xs (i-1)).f0:=by omega
     have h5:¬ (rd_T69 xs (i-1)).f0>=(rd_T69 xs i).f0:=by omega
     simp only[if_pos hi,if_pos h1,if_pos h2,if_neg h4,if_neg h5]
     exact⟨b1,b2⟩
    ·simp only[if_neg hi]
     exact⟨b1,b2⟩
   ·by_cases e2:j=i
    ·subst e2;exact ok.1
    ·exact(hp e).2 j Om h2
  ·refine⟨false,fun k hk=>?_,fun e=>by cases e⟩
   obtain⟨k,rfl⟩:=Yk k
   simp only[impl_AreCrew.l0,Yd.l0,if_pos hlt,if_pos h0,Zh,Ze,Ob,decide_eq_true_eq,hw]
   constructor
   ·repeat' split
    all_goals first|rfl|(exfalso;omega)
   ·repeat' split
    all_goals first|rfl|(exfalso;omega)
theorem ZJ (xs:List S69) (hn:xs.length<=1048576):∃ b,(∀ k,xs.length<k->impl_AreCrew.f k xs=some b/\Yd.f k xs=some b)/\(b=true->(1<=xs.length/\xs.length<=8)/\∀ j:Int,0<=j->j<(xs.length:Int)->Zx (rd_T69 xs j)):=by
 obtain⟨b,h,hp⟩:=Zxa xs hn xs.length 0 Om Om
 exact⟨b,h,hp⟩
theorem Zga (W H:Int) (xs:List Int) (hn:xs.length<=1048576):∀ (d:Nat) (i:Int),0<=i->(xs.length:Int)-i=d ->
  ∃ b,(∀ k,d<k->impl_allIn.l0 k 0 2 xs (xs.length:Int) i=some b/\spec_IsLand.l0 k i W H xs=some b)/\(b=true->∀ j:Int,i<=j->j<(xs.length:Int)->0<=rd xs j/\rd xs j<=2):=by
 intro d
 induction d with
 |zero =>
  intro i h0 hd
  have hlt:¬ i<(xs.length:Int):=by omega
  refine⟨true,fun k hk=>?_,fun _ j h1 h2=>by omega⟩
  obtain⟨k,rfl⟩:=Yk k
  simp only[impl_allIn.l0,spec_IsLand.l0,if_neg hlt,and_self]
 |succ d ih =>
  intro i h0 hd
  have hlt:i<(xs.length:Int):=by omega
  obtain⟨b,hb,hp⟩:=ih (i+1) Om Om
  by_cases e:0<=rd xs i/\rd xs i<=2
  ·refine⟨b,fun k hk=>?_,fun h j h1 h2=>?_⟩
   ·obtain⟨k,rfl⟩:=Yk k
    simp only[impl_allIn.l0,spec_IsLand.l0,if_pos hlt,if_pos h0,Zh,Ze,e,and_self,decide_true,Ob,if_true,Zi (n:=xs.length) h0 hlt hn]
    exact hb k Om
   ·by_cases h3:j=i
    ·subst h3;exact e
    ·exact hp h j Om h2
  ·refine⟨false,fun k hk=>?_,fun h=>by cases h⟩
   obtain⟨k,rfl⟩:=Yk k
   simp only[impl_allIn.l0,spec_IsLand.l0,if_pos hlt,if_pos h0,Zh,Ze,e,decide_false,Ob,Bool.false_eq_true,if_false,and_self]
theorem Zfb (W H:Int) (xs:List Int) (hn:xs.length<=1048576):∃ b,(∀ k,xs.length+1<k->impl_IsLand.f k W H xs=some b/\spec_IsLand.f k W H xs=some b) /\
  (b=true->(1<=W/\W<=8)/\(1<=H/\H<=8)/\(xs.length:Int)=W * H/\1<=xs.length/\xs.length<=64/\∀ j:Int,0<=j->j<(xs.length:Int)->0<=rd xs j/\rd xs j<=2):=by
 by_cases hW:1<=W/\W<=8
 ·by_cases hH:1<=H/\H<=8
  ·have h1:W * H<=8 * 8:=Int.mul_le_mul hW.2 hH.2 Om Om
   have h2:1 * 1<=W * H:=Int.mul_le_mul hW.1 hH.1 Om Om
   have hw:wrap64 (W * H)=W * H:=Yw
   by_cases hl:(xs.length:Int)=W * H
   ·obtain⟨b,hb,hp⟩:=Zga W H xs hn xs.length 0 Om Om
    refine⟨b,fun k hk=>?_,fun e=>⟨hW,hH,hl,by omega,by omega,hp e⟩⟩
    obtain⟨k,rfl⟩:=Yk k
    have e:((xs.length:Int) != W * H)=false:=by simp[hl]
    have b1:=(hb (k+1) Om).1
    have b2:=(hb k Om).2
    unfold impl_IsLand.f spec_IsLand.f
    simp only[Zh,Ze,hW,hH,and_self,decide_true,Ob,if_true,hw,if_pos hl,e,spec_IsLand.j0,Bool.false_eq_true,if_false,impl_allIn.f,b1,b2]
   ·refine⟨false,fun k hk=>?_,fun e=>by cases e⟩
    obtain⟨k,rfl⟩:=Yk k
    have e:((xs.length:Int) != W * H)=true:=by simp[hl]
    unfold impl_IsLand.f spec_IsLand.f
    simp only[Zh,Ze,hW,hH,and_self,decide_true,Ob,if_true,hw,if_neg hl,e,spec_IsLand.j0]
  ·refine⟨false,fun k hk=>?_,fun e=>by cases e⟩
   obtain⟨k,rfl⟩:=Yk k
   unfold impl_IsLand.f spec_IsLand.f
   simp only[Zh,Ze,hW,hH,and_self,decide_true,decide_false,Ob,if_true,Bool.false_eq_true,if_false,spec_IsLand.j0]
 ·refine⟨false,fun k hk=>?_,fun e=>by cases e⟩
  obtain⟨k,rfl⟩:=Yk k
  unfold impl_IsLand.f spec_IsLand.f
  simp only[Zh,Ze,hW,decide_false,Ob,if_true,Bool.false_eq_true,if_false,spec_IsLand.j0,and_self]
def fsM:List S69->Int
 |[]=>0
 |m :: ms=>m.f2+fsM ms
theorem Zka:∀ l:List S69,(∀ m∈l,Zx m)->(l.length:Int)<=fsM l/\fsM l<=10 * (l.length:Int)
 |[],_=>by simp[fsM]
 |m :: ms,h=>by
  have h1:=Zka ms (fun x hx=>h x (List.mem_cons_of_mem _ hx))
  have h2:=h m (List.mem_cons_self)
  unfold Zx at h2
  simp only[fsM,List.length_cons]
  omega
theorem Zyb {xs:List S69} (h:∀ j:Int,0<=j->j<(xs.length:Int)->Zx (rd_T69 xs j)):∀ m∈xs,Zx m:=by
 intro m hm
 obtain⟨j,hj,rfl⟩:=List.mem_iff_getElem.mp hm
 have:=h (j:Int) Om Om
 unfold rd_T69 at this
 simpa [List.getD_eq_getElem?_getD,List.getElem?_eq_getElem hj] using this
theorem ZPa (xs:List S69) (hn:xs.length<=8) (hfit:∀ m∈xs,Zx m) (hc:∀ k,xs.length<k->Yd.f k xs=some true):∀ (d:Nat) (i a:Int),0<=i->(xs.length:Int)-i=d->0<=a->a<=1000-10 * d ->
  ∀ k,xs.length+d+2<k->impl_NeedOf.l0 k a xs (xs.length:Int) i=some (a+fsM (xs.drop i.toNat))/\Yl.l0 k xs a i=some (a+fsM (xs.drop i.toNat)):=by
 intro d
 induction d with
 |zero =>
  intro i a h0 hd _ _ k hk
  obtain⟨k,rfl⟩:=Yk k
  have hlt:¬ i<(xs.length:Int):=by omega
  simp only[impl_NeedOf.l0,Yl.l0,if_neg hlt,List.drop_eq_nil_of_le (show xs.length<=i.toNat by omega),fsM,Int.add_zero,and_self]
 |succ d ih =>
  intro i a h0 hd ha hb k hk
  obtain⟨k,rfl⟩:=Yk k
  have hlt:i<(xs.length:Int):=by omega
  have hm:Zx (rd_T69 xs i):=hfit _ (by
   unfold rd_T69
   have h1:i.toNat<xs.length:=by omega
   simp[List.getD_eq_getElem?_getD,List.getElem?_eq_getElem h1])
  unfold Zx at hm
  have hw:wrap64 (a+(rd_T69 xs i).f2)=a+(rd_T69 xs i).f2:=Yw
  obtain⟨h1,h2⟩:=ih (i+1) (a+(rd_T69 xs i).f2) Om Om Om Om k Om
  rw[Zo z69 xs i h0 hlt,show xs.getD i.toNat z69=rd_T69 xs i from rfl]
  simp only[impl_NeedOf.l0,Yl.l0,if_pos hlt,if_pos h0,hc k Om,Ob,if_true,hw,Zi (n:=xs.length) h0 hlt Om,fsM,h1,h2,Int.add_assoc,and_self]
theorem Zpa (xs:List S69) (hn:xs.length<=1048576):∃ b c,(∀ k,xs.length<k->impl_AreCrew.f k xs=some b/\Yd.f k xs=some b) /\
  (b=true->c=fsM xs/\1<=xs.length/\xs.length<=8/\(∀ m∈xs,Zx m)/\1<=c/\c<=80)/\(b=false->c=0) /\
  ∀ k,2 * xs.length+3<k->impl_NeedOf.f k xs=some c/\Yl.f k xs=some c:=by
 obtain⟨b,hb,hp⟩:=ZJ xs hn
 cases b with
 |true =>
  obtain⟨⟨h1,h8⟩,hf⟩:=hp rfl
  have hm:=Zyb hf
  have hbd:=Zka xs hm
  refine⟨true,fsM xs,hb,fun _=>⟨rfl,h1,h8,hm,by omega,by omega⟩,(fun e=>by cases e),fun k hk=>?_⟩
  obtain⟨h3,h4⟩:=ZPa xs h8 hm (fun k hk=>(hb k hk).2) xs.length 0 0 Om Om Om Om k Om
  rw[Int.toNat_zero,List.drop_zero,Int.zero_add] at h3 h4
  unfold impl_NeedOf.f Yl.f
  simp only[(hb k Om).1,Ob,if_true]
  exact⟨h3,h4⟩
 |false =>
  refine⟨false,0,hb,fun e=>(by cases e),fun _=>rfl,fun k hk=>?_⟩
  obtain⟨k,rfl⟩:=Yk k
  unfold impl_NeedOf.f Yl.f
  simp only[(hb (k+1) Om).1,Ob,Bool.false_eq_true,if_false,Yl.l0,(hb k Om).2,ite_self,and_self]
theorem ZTa (xs:List S69) (hn:xs.length<=1048576) (h8:xs.length<=8) (hf:∀ j:Int,0<=j->j<(xs.length:Int)->Zx (rd_T69 xs j)) (hc:∀ k,xs.length<k->Yd.f k xs=some true):∀ (d:Nat) (i a:Int),0<=i->(xs.length:Int)-i=d->0<=a->a<=100 * i ->
  ∃ c,(0<=c/\c<=800)/\∀ k,xs.length+2 * d+2<k->impl_CapOf.l0 k a xs (xs.length:Int) i=some c/\Yf.l0 k xs a i=some c:=by
 intro d
 induction d with
 |zero =>
  intro i a h0 hd ha ha2
  have hlt:¬ i<(xs.length:Int):=by omega
  refine⟨a,⟨ha,by omega⟩,fun k hk=>?_⟩
  obtain⟨k,rfl⟩:∃ m,k=m+2:=⟨k-2,by omega⟩
  simp only[impl_CapOf.l0,Yf.l0,Yf.j1,if_neg hlt,Bool.false_eq_true,if_false,and_self]
 |succ d ih =>
  intro i a h0 hd ha ha2
  have hm:=hf i h0 Om
  unfold Zx at hm
  have hwa:wrap64 (a+(rd_T69 xs i).f1)=a+(rd_T69 xs i).f1:=Yw
  have hlt:i<(xs.length:Int):=by omega
  by_cases hf:(rd_T69 xs i).f3=true
  ·obtain⟨c,hcb,hk2⟩:=ih (i+1) a Om Om ha Om
   refine⟨c,hcb,fun k hk=>?_⟩
   obtain⟨k,rfl⟩:∃ m,k=m+2:=⟨k-2,by omega⟩
   have h1:=(hk2 (k+1) Om).1
   have h2:=(hk2 k Om).2
   simp only[impl_CapOf.l0,Yf.l0,Yf.j1,if_pos hlt,if_pos h0,if_pos hf,hc (k+1) Om,Ob,if_true,Zi (n:=xs.length) h0 hlt hn] at h1 h2 ⊢
   exact⟨h1,h2⟩
  ·obtain⟨c,hcb,hk2⟩:=ih (i+1) (wrap64 (a+(rd_T69 xs i).f1)) Om Om Om Om
   refine⟨c,hcb,fun k hk=>?_⟩
   obtain⟨k,rfl⟩:∃ m,k=m+2:=⟨k-2,by omega⟩
   have h1:=(hk2 (k+1) Om).1
   have h2:=(hk2 k Om).2
   constructor
   ·rw[impl_CapOf.l0]
    simp only[if_pos hlt,if_pos h0,if_neg hf,Zi (n:=xs.length) h0 hlt hn]
    exact h1
   ·rw[Yf.l0]
    simp only[Yf.j1,if_pos hlt,if_pos h0,if_neg hf,hc (k+1) Om,Ob,if_true,Zi (n:=xs.length) h0 hlt hn]
    exact h2
theorem Z8a (xs:List S69) (hn:xs.length<=1048576):∃ c,(0<=c/\c<=800)/\∀ k,3 * xs.length+3<k->impl_CapOf.f k xs=some c/\Yf.f k xs=some c:=by
 obtain⟨b,hb,hp⟩:=ZJ xs hn
 cases b with
 |true =>
  obtain⟨⟨h1,h8⟩,hf⟩:=hp rfl
  obtain⟨c,hcb,hc⟩:=ZTa xs hn h8 hf (fun k hk=>(hb k hk).2) xs.length 0 0 Om Om Om Om
  refine⟨c,hcb,fun k hk=>?_⟩
  unfold impl_CapOf.f Yf.f
  simp only[(hb k Om).1,Ob,if_true]
  exact hc k Om
 |false =>
  refine⟨0,by omega,fun k hk=>?_⟩
  obtain⟨k,rfl⟩:∃ m,k=m+2:=⟨k-2,by omega⟩
  unfold impl_CapOf.f Yf.f
  simp only[(hb (k+2) Om).1,Ob,Bool.false_eq_true,if_false,Yf.l0,(hb (k+1) Om).2,Yf.j1,ite_self,and_self]
theorem Zq (a b:Int) (l:List S69) (h:List Bool) (hl:l.length<=1048576) (hh:h.length<=1048576):impl_Party_copied.f a b l h=some (a,b,l,h)/\Yq.f a b l h=some (a,b,l,h):=by
 have e1:([]:List S69).length+l.length<4398046511104:=by simp;omega
 have e2:([]:List Bool).length+h.length<140737488355328:=by simp;omega
 unfold impl_Party_copied.f Yq.f impl_copyCrew.f
 simp only[Ob,if_pos e1,if_pos e2,List.nil_append,and_self]
theorem Z6 (a b:Int):Yj.f a b=some (mn a b):=by
 unfold Yj.f mn;split <;> rfl
def Zj:List Int->Nat
 |[]=>0
 |v :: vs=>(if v<0 then 1 else 0)+Zj vs
theorem Zv:∀ (l:List Int) (i:Nat) (v:Int),i<l.length->l.getD i 0<0->0<=v->Zj (l.set i v)+1=Zj l
 |x :: xs,0,v,_,h,hv=>by
  simp only[List.getD_cons_zero] at h
  simp only[List.set_cons_zero,Zj,if_pos h]
  rw[if_neg Om];omega
 |x :: xs,i+1,v,hi,h,hv=>by
  have:=Zv xs i v (by simpa using hi) (by simpa using h) hv
  simp only[List.set_cons_succ,Zj];omega
def Zf (d q:List Int) (own:Int):List Int->List Int × List Int
 |[]=>(d,q)
 |b :: bs=>if rd d b<0 then Zf (d.set b.toNat (rd d own+1)) (q++[b]) own bs else Zf d q own bs
def bfs (adj:Int->List Int):Nat->List Int->List Int->List Int
 |0,d,_=>d
 |_+1,d,[]=>d
 |f+1,d,own :: rest=>bfs adj f (Zf d rest own (adj own)).1 (Zf d rest own (adj own)).2
theorem Zw (l:List Int) (x j v:Int) (hx:0<=x) (hx2:x<(l.length:Int)) (hj:0<=j):rd (l.set x.toNat v) j=if j=x then v else rd l j:=by
 unfold rd
 rw[List.getD_eq_getElem?_getD,List.getD_eq_getElem?_getD,List.getElem?_set]
 by_cases e:j=x
 ·subst e
  have h:j.toNat<l.length:=by omega
  simp[h]
 ·rw[if_neg (show ¬ x.toNat=j.toNat by omega),if_neg e]
structure Visited (d q:List Int) (own:Int) (bs:List Int) (d' q':List Int):Prop where
 len:d'.length=d.length
 old:∀ v,0<=v->0<=rd d v->rd d' v=rd d v
 new:∀ v,0<=v->rd d v<0->rd d' v=rd d v\/(v∈bs/\rd d' v=rd d own+1)
 seen:∀ b∈bs,0<=rd d' b
 que:∃ ns,q'=q++ns/\ns.length+Zj d'=Zj d/\(∀ x∈ns,x∈bs/\rd d' x=rd d own+1)/\∀ v,0<=v->rd d v<0->0<=rd d' v->v∈ns
theorem Zy (n:Nat) (own:Int) (hown:0<=own):∀ (bs d q:List Int),d.length=n->0<=rd d own->(∀ b∈bs,0<=b/\b<(n:Int))->Visited d q own bs (Zf d q own bs).1 (Zf d q own bs).2
 |[],d,q,hl,h0,hb=>⟨rfl,fun _ _ _=>rfl,fun _ _ _=>Or.inl rfl,fun b hb=>(by cases hb),⟨[],(by simp[Zf]),(by simp[Zf]),fun x hx=>(by cases hx),fun v h1 h2 h3=>(by simp only[Zf] at h3;omega)⟩⟩
 |b :: bs,d,q,hl,h0,hb=>by
  have hbb:=hb b (List.mem_cons_self)
  unfold Zf
  by_cases c:rd d b<0
  ·rw[if_pos c]
   have hr:=fun j hj=>Zw d b j (rd d own+1) hbb.1 Om hj
   have hob:own≠b:=fun e=>by rw[e] at h0;omega
   have ho2:rd (d.set b.toNat (rd d own+1)) own=rd d own:=by rw[hr own hown,if_neg hob]
   have ih:=Zy n own hown bs (d.set b.toNat (rd d own+1)) (q++[b]) (by simpa using hl) (by rw[ho2];exact h0) (fun x hx=>hb x (List.mem_cons_of_mem _ hx))
   obtain⟨i1,i2,i3,i4,ns,i5,i6,i7,i8⟩:=ih
   rw[ho2] at i3 i7
   have hb1:rd (d.set b.toNat (rd d own+1)) b=rd d own+1:=by rw[hr b hbb.1,if_pos rfl]
   have hb2:=i2 b hbb.1 (by rw[hb1];omega)
   rw[hb1] at hb2
   refine⟨by rw[i1,List.length_set],fun v hv h=>?_,fun v hv h=>?_,fun x hx=>?_,b :: ns,by rw[i5];simp,?_,fun x hx=>?_,fun v hv h1 h2=>?_⟩
   ·have hvb:v≠b:=fun e=>by rw[e] at h;omega
    rw[i2 v hv (by rw[hr v hv,if_neg hvb];exact h),hr v hv,if_neg hvb]
   ·by_cases e:v=b
    ·subst e;exact Or.inr ⟨List.mem_cons_self,hb2⟩
    ·have h2:=i3 v hv (by rw[hr v hv,if_neg e];exact h)
     rw[hr v hv,if_neg e] at h2
     rcases h2 with h2|⟨h2,h3⟩
     ·exact Or.inl h2
     ·exact Or.inr ⟨List.mem_cons_of_mem _ h2,h3⟩
   ·rcases List.mem_cons.mp hx with h|h
    ·rw[h,hb2];omega
    ·exact i4 x h
   ·have:=Zv d b.toNat (rd d own+1) Om (by exact c) Om
    simp only[List.length_cons];omega
   ·rcases List.mem_cons.mp hx with h|h
    ·rw[h];exact⟨List.mem_cons_self,hb2⟩
    ·exact⟨List.mem_cons_of_mem _ (i7 x h).1,(i7 x h).2⟩
   ·by_cases e:v=b
    ·rw[e];exact List.mem_cons_self
    ·exact List.mem_cons_of_mem _ (i8 v hv (by rw[hr v hv,if_neg e];exact h1) h2)
  ·rw[if_neg c]
   obtain⟨i1,i2,i3,i4,ns,i5,i6,i7,i8⟩:=Zy n own hown bs d q hl h0 (fun x hx=>hb x (List.mem_cons_of_mem _ hx))
   refine⟨i1,i2,fun v hv h=>?_,fun x hx=>?_,ns,i5,i6,fun x hx=>⟨List.mem_cons_of_mem _ (i7 x hx).1,(i7 x hx).2⟩,i8⟩
   ·rcases i3 v hv h with h2|⟨h2,h3⟩
    ·exact Or.inl h2
    ·exact Or.inr ⟨List.mem_cons_of_mem _ h2,h3⟩
   ·rcases List.mem_cons.mp hx with h|h
    ·rw[h,i2 b hbb.1 Om];omega
    ·exact i4 x h
structure BInv (adj:Int->List Int) (n:Nat) (src:Int) (d q:List Int) (m:Int):Prop where
 len:d.length=n
 m0:0<=m
 src0:rd d src=0
 zero:∀ v,0<=v->v<(n:Int)->rd d v=0->v=src
 lvl:∃ A B,q=A++B/\(∀ x∈A,0<=x/\x<(n:Int)/\rd d x=m)/\(∀ x∈B,0<=x/\x<(n:Int)/\rd d x=m+1)
 top:∀ v,0<=v->rd d v<=m+1
 from_:∀ v,0<=v->v<(n:Int)->0<=rd d v->v≠src->∃ u,0<=u/\u<(n:Int)/\v∈adj u/\0<=rd d u/\rd d u=rd d v-1
 done:∀ u,0<=u->u<(n:Int)->0<=rd d u->u ∉ q->∀ v∈adj u,0<=rd d v/\rd d v<=rd d u+1
structure BEnd (adj:Int->List Int) (n:Nat) (src:Int) (d:List Int):Prop where
 len:d.length=n
 src0:rd d src=0
 zero:∀ v,0<=v->v<(n:Int)->rd d v=0->v=src
 from_:∀ v,0<=v->v<(n:Int)->0<=rd d v->v≠src->∃ u,0<=u/\u<(n:Int)/\v∈adj u/\0<=rd d u/\rd d u=rd d v-1
 done:∀ u,0<=u->u<(n:Int)->0<=rd d u->∀ v∈adj u,0<=rd d v/\rd d v<=rd d u+1
theorem Zxb (adj:Int->List Int) (n:Nat) (src:Int) (hs:0<=src) (hs1:src<(n:Int)) (hadj:∀ u,0<=u->u<(n:Int)->∀ v∈adj u,0<=v/\v<(n:Int)):∀ (f:Nat) (d q:List Int) (m:Int),BInv adj n src d q m->q.length+Zj d<=f->BEnd adj n src (bfs adj f d q):=by
 have endq:∀ (d:List Int) (m:Int),BInv adj n src d [] m->BEnd adj n src d:=fun d m h=>⟨h.len,h.src0,h.zero,h.from_,fun u hu hu1 h2=>h.done u hu hu1 h2 (by simp)⟩
 intro f
 induction f with
 |zero =>
  intro d q m h hf
  have:q=[]:=List.eq_nil_of_length_eq_zero Om
  subst this
  exact endq d m h
 |succ f ih =>
  intro d q m h hf
  cases q with
  |nil=>exact endq d m h
  |cons own rest =>
   have key:∃ m',m<=m'/\BInv adj n src d (own :: rest) m'/\(0<=own/\own<(n:Int)/\rd d own=m')/\∃ A B,rest=A++B/\(∀ x∈A,0<=x/\x<(n:Int)/\rd d x=m')/\(∀ x∈B,0<=x/\x<(n:Int)/\rd d x=m'+1):=by
    obtain⟨A,B,e,hA,hB⟩:=h.lvl
    cases A with
    |cons a A =>
     simp only[List.cons_append,List.cons.injEq] at e
     obtain⟨rfl,rfl⟩:=e
     exact⟨m,Int.le_refl _,h,hA own List.mem_cons_self,A,B,rfl,fun x hx=>hA x (List.mem_cons_of_mem _ hx),hB⟩
    |nil =>
     simp only[List.nil_append] at e
     subst e
     refine⟨m+1,by omega,⟨h.len,by have:=h.m0;omega,h.src0,h.zero,⟨own :: rest,[],by simp,hB,fun x hx=>by cases hx⟩,fun v hv=>by have:=h.top v hv;omega,h.from_,h.done⟩,hB own List.mem_cons_self,rest,[],by simp,fun x hx=>hB x (List.mem_cons_of_mem _ hx),fun x hx=>by cases hx⟩
   obtain⟨m',_,h',⟨ho0,ho1,ho2⟩,A,B,hr,hA,hB⟩:=key
   have hm0:=h'.m0
   obtain⟨v1,v2,v3,v4,ns,v5,v6,v7,v8⟩:=Zy n own ho0 (adj own) d rest h'.len Om (hadj own ho0 ho1)
   show BEnd adj n src (bfs adj f (Zf d rest own (adj own)).1 (Zf d rest own (adj own)).2)
   obtain⟨d',hd'⟩:∃ d',d'=(Zf d rest own (adj own)).1:=⟨_,rfl⟩
   obtain⟨q',hq'⟩:∃ q',q'=(Zf d rest own (adj own)).2:=⟨_,rfl⟩
   rw[<-hd'] at v1 v2 v3 v4 v6 v7 v8 ⊢
   rw[<-hq'] at v5 ⊢
   have keep:∀ x,0<=x->0<=rd d x->rd d' x=rd d x:=v2
   have hsrc:rd d' src=0:=by rw[keep src hs (by rw[h'.src0];omega),h'.src0]
   refine ih d' q' m' ⟨by rw[v1,h'.len],hm0,hsrc,fun v hv hv1 e=>?_,?_,fun v hv=>?_,fun v hv hv1 e hne=>?_,fun u hu hu1 e hnq v hvu=>?_⟩ ?_
   ·by_cases c:0<=rd d v
    ·exact h'.zero v hv hv1 (by rw[<-keep v hv c];exact e)
    ·rcases v3 v hv Om with h2|⟨_,h2⟩ <;> omega
   ·refine⟨A,B++ns,by rw[v5,hr,List.append_assoc],fun x hx=>?_,fun x hx=>?_⟩
    ·have:=hA x hx
     exact⟨this.1,this.2.1,by rw[keep x this.1 Om];exact this.2.2⟩
    ·rcases List.mem_append.mp hx with h2|h2
     ·have:=hB x h2
      exact⟨this.1,this.2.1,by rw[keep x this.1 Om];exact this.2.2⟩
     ·obtain⟨h3,h4⟩:=v7 x h2
      have:=hadj own ho0 ho1 x h3
      exact⟨this.1,this.2,by rw[h4,ho2]⟩
   ·by_cases c:0<=rd d v
    ·rw[keep v hv c];exact h'.top v hv
    ·rcases v3 v hv Om with h2|⟨_,h2⟩ <;> omega
   ·by_cases c:0<=rd d v
    ·obtain⟨u,u1,u2,u3,u4,u5⟩:=h'.from_ v hv hv1 c hne
     exact⟨u,u1,u2,u3,by rw[keep u u1 u4];exact u4,by rw[keep u u1 u4,keep v hv c];exact u5⟩
    ·rcases v3 v hv Om with h2|⟨h2,h3⟩
     ·omega
     ·exact⟨own,ho0,ho1,h2,by rw[keep own ho0 Om];omega,by rw[keep own ho0 Om,h3];omega⟩
   ·by_cases c:0<=rd d u
    ·rw[keep u hu c]
     by_cases e2:u=own
     ·subst e2
      refine⟨v4 v hvu,?_⟩
      have hvr:=hadj u ho0 ho1 v hvu
      by_cases c2:0<=rd d v
      ·rw[keep v hvr.1 c2,ho2];exact h'.top v hvr.1
      ·rcases v3 v hvr.1 Om with h2|⟨_,h2⟩
       ·have:=v4 v hvu;omega
       ·omega
     ·have hnq2:u ∉ own :: rest:=by
       intro hm
       rcases List.mem_cons.mp hm with h2|h2
       ·exact e2 h2
       ·exact hnq (by rw[v5];exact List.mem_append_left _ h2)
      obtain⟨h2,h3⟩:=h'.done u hu hu1 c hnq2 v hvu
      have hv0:0<=v:=(hadj u hu hu1 v hvu).1
      rw[keep v hv0 h2]
      exact⟨h2,h3⟩
    ·exfalso
     exact hnq (by rw[v5];exact List.mem_append_right _ (v8 u hu Om e))
   ·have:(own :: rest).length=rest.length+1:=rfl
    rw[v5,List.length_append];omega
structure LandOk (W H:Int) (xs:List Int):Prop where
 w:1<=W/\W<=8
 h:1<=H/\H<=8
 len:(xs.length:Int)=W * H
 pos:1<=xs.length
 le:xs.length<=64
 ev:∀ k,70<k->impl_IsLand.f k W H xs=some true/\spec_IsLand.f k W H xs=some true
theorem ZL (W H:Int) (xs:List Int) (hn:xs.length<=1048576):LandOk W H xs\/∀ k,xs.length+1<k->impl_IsLand.f k W H xs=some false/\spec_IsLand.f k W H xs=some false:=by
 obtain⟨b,hb,hp⟩:=Zfb W H xs hn
 cases b with
 |false=>exact Or.inr hb
 |true =>
  obtain⟨h1,h2,h3,h4,h5,_⟩:=hp rfl
  exact Or.inl ⟨h1,h2,h3,h4,h5,fun k hk=>hb k Om⟩
def opn (xs:List Int) (m:Int):Bool:=decide (0<=m/\m<(xs.length:Int)) && (rd xs m != 2)
theorem Za {xs:List Int} {m:Int} (h:opn xs m=true):0<=m/\m<(xs.length:Int):=by
 unfold opn at h
 rw[Bool.and_eq_true,decide_eq_true_eq] at h
 exact h.1
theorem Zr {W H:Int} {xs:List Int} (L:LandOk W H xs) (m:Int) (k:Nat) (hk:70<k):impl_IsCell.f k W H xs m=some (decide (0<=m/\m<(xs.length:Int)))/\spec_IsCell.f k W H xs m=some (decide (0<=m/\m<(xs.length:Int))):=by
 have:=L.pos
 have:=L.le
 have e:wrap64 ((xs.length:Int)-1)=(xs.length:Int)-1:=Yw
 have e2:decide (0<=m/\m<=(xs.length:Int)-1)=decide (0<=m/\m<(xs.length:Int)):=decide_eq_decide.mpr Om
 unfold impl_IsCell.f spec_IsCell.f
 simp only[(L.ev k hk).1,(L.ev k hk).2,Ob,if_true,e,Ze,Zh,e2,and_self]
theorem Zk {W H:Int} {xs:List Int} (L:LandOk W H xs) (m:Int) (k:Nat) (hk:70<k):impl_IsOpen.f k W H xs m=some (opn xs m)/\spec_IsOpen.f k W H xs m=some (opn xs m):=by
 obtain⟨c1,c2⟩:=Zr L m k hk
 unfold impl_IsOpen.f spec_IsOpen.f
 rw[c1,c2]
 unfold opn
 by_cases h:0<=m/\m<(xs.length:Int)
 ·simp only[h,and_self,decide_true,Ob,if_true,Bool.true_and]
 ·simp only[h,decide_false,Ob,Bool.false_eq_true,if_false,Bool.false_and,and_self]
theorem Zoa {W H:Int} {xs:List Int} (m:Int) (k:Nat) (h:impl_IsLand.f k W H xs=some false/\spec_IsLand.f k W H xs=some false):impl_IsCell.f k W H xs m=some false/\spec_IsCell.f k W H xs m=some false:=by
 unfold impl_IsCell.f spec_IsCell.f
 simp only[h.1,h.2,Ob,Bool.false_eq_true,if_false,and_self]
theorem ZC {W H:Int} {xs:List Int} (m:Int) (k:Nat) (h:impl_IsLand.f k W H xs=some false/\spec_IsLand.f k W H xs=some false):impl_IsOpen.f k W H xs m=some false/\spec_IsOpen.f k W H xs m=some false:=by
 obtain⟨c1,c2⟩:=Zoa m k h
 unfold impl_IsOpen.f spec_IsOpen.f
 simp only[c1,c2,Ob,Bool.false_eq_true,if_false,and_self]
def ab (a:Int):Int:=mx a (-a)
def ap (W n m:Int):Int:=ab (n % W-m % W)+ab (n / W-m / W)
theorem Zn {W:Int} (h:1<=W/\W<=8):W=1\/W=2\/W=3\/W=4\/W=5\/W=6\/W=7\/W=8:=by omega
theorem Z0a (a:Int) (h:-1000<=a/\a<=1000):impl_size.f a=some (ab a):=by
 unfold impl_size.f ab
 rw[show wrap64 (-a)=-a by unfold wrap64;omega]
theorem Zza (a:Int) (h:-1000<=a/\a<=1000):0<=ab a/\ab a<=1000:=by
 unfold ab mx;split <;> omega
theorem Zob {W H:Int} {xs:List Int} (L:LandOk W H xs) (n m:Int) (hn:0<=n/\n<(xs.length:Int)) (hm:0<=m/\m<(xs.length:Int)) (k:Nat) (hk:71<k):impl_Apart.f k W H xs n m=some (ap W n m):=by
 obtain⟨k,rfl⟩:∃ j,k=j+1:=⟨k-1,by omega⟩
 have hw:=L.w
 have:=L.le
 have t1:Int.tmod n W=n % W:=Int.tmod_eq_emod_of_nonneg hn.1
 have t2:Int.tmod m W=m % W:=Int.tmod_eq_emod_of_nonneg hm.1
 have d1:Int.tdiv n W=n / W:=Int.tdiv_eq_ediv_of_nonneg hn.1
 have d2:Int.tdiv m W=m / W:=Int.tdiv_eq_ediv_of_nonneg hm.1
 have b1:=Int.emod_nonneg n (show W≠0 by omega)
 have b2:=Int.emod_lt_of_pos n (show 0<W by omega)
 have b3:=Int.emod_nonneg m (show W≠0 by omega)
 have b4:=Int.emod_lt_of_pos m (show 0<W by omega)
 have b5:0<=n / W/\n / W<=64:=by rcases Zn hw with e|e|e|e|e|e|e|e <;> subst e <;> omega
 have b6:0<=m / W/\m / W<=64:=by rcases Zn hw with e|e|e|e|e|e|e|e <;> subst e <;> omega
 have e1:wrap64 (n % W-m % W)=n % W-m % W:=Yw
 have e2:wrap64 (n / W)=n / W:=Yw
 have e3:wrap64 (m / W)=m / W:=Yw
 have e4:wrap64 (n / W-m / W)=n / W-m / W:=Yw
 have s1:=Z0a (n % W-m % W) Om
 have s2:=Z0a (n / W-m / W) Om
 have s3:=Zza (n % W-m % W) Om
 have s4:=Zza (n / W-m / W) Om
 have e5:wrap64 (ab (n % W-m % W)+ab (n / W-m / W))=ab (n % W-m % W)+ab (n / W-m / W):=Yw
 have hw0:¬ W=0:=by omega
 unfold impl_Apart.f
 simp only[(Zr L n (k+1) Om).1,(Zr L m (k+1) Om).1,hn,hm,and_self,decide_true,Ob,if_true,impl_Apart.j0,Bool.not_true,Bool.false_eq_true,if_false,if_neg hw0,t1,t2,d1,d2,e1,e2,e3,e4,s1,s2,e5,ap]
def Zc (W:Int) (xs:List Int) (n:Int):List Int :=
 (((if W<=n/\rd xs (n-W)≠2 then [n-W] else [])++(if 0<n % W/\rd xs (n-1)≠2 then [n-1] else []))++(if n % W<W-1/\rd xs (n+1)≠2 then [n+1] else []))++(if n+W<(xs.length:Int)/\rd xs (n+W)≠2 then [n+W] else [])
theorem Zba {W H n l:Int} (hw:1<=W/\W<=8) (hl:l=W * H) (hn:n<l) (h0:0<=n) (h:n % W<W-1):n+1<l:=by
 rcases Zn hw with e|e|e|e|e|e|e|e <;> subst e <;> omega
theorem ZR {W H:Int} {xs:List Int} (L:LandOk W H xs) (n:Int) (hn:0<=n/\n<(xs.length:Int)) (k:Nat) (hk:5<k):spec_l4Near.f k W H xs n=some (Zc W xs n):=by
 obtain⟨k,rfl⟩:∃ j,k=j+5:=⟨k-5,by omega⟩
 have hw:=L.w
 have:=L.le
 have t1:Int.tmod n W=n % W:=Int.tmod_eq_emod_of_nonneg hn.1
 have e1:wrap64 (n-W)=n-W:=Yw
 have e2:wrap64 (n-1)=n-1:=Yw
 have e3:wrap64 (n+1)=n+1:=Yw
 have e4:wrap64 (n+W)=n+W:=Yw
 have e5:wrap64 (W-1)=W-1:=Yw
 have hw0:¬ W=0:=by omega
 have hr:=fun h=>Zba hw L.len hn.2 hn.1 h
 have hp:0<n % W->0<=n-1:=fun h=>by
  by_cases h0:n=0
  ·subst h0;simp at h
  ·omega
 have j4:∀ (j:Nat) (acc:List Int) (c:Bool),acc.length<=10->spec_l4Near.j4 (j+1) n acc c W H xs=some ((acc++(if c=true then [n+1] else []))++(if n+W<(xs.length:Int)/\rd xs (n+W)≠2 then [n+W] else [])):=by
  intro j acc c ha
  have q1:acc.length<17592186044416:=by omega
  have q2:(acc++[n+1]).length<17592186044416:=by simp;omega
  have q3:0<=n+W:=by omega
  rw[spec_l4Near.j4]
  simp only[e3,e4,if_pos q1,if_pos q2,if_pos q3,Ob]
  by_cases c0:c=true
  ·by_cases c1:n+W<(xs.length:Int)
   ·by_cases c2:rd xs (n+W)=2
    ·simp[c0,c1,c2]
    ·simp[c0,c1,c2]
   ·simp[c0,c1]
  ·by_cases c1:n+W<(xs.length:Int)
   ·by_cases c2:rd xs (n+W)=2
    ·simp[c0,c1,c2]
    ·simp[c0,c1,c2]
   ·simp[c0,c1]
 have j3:∀ (j:Nat) (acc:List Int),acc.length<=10->spec_l4Near.j3 (j+2) n acc W H xs=some ((acc++(if n % W<W-1/\rd xs (n+1)≠2 then [n+1] else []))++(if n+W<(xs.length:Int)/\rd xs (n+W)≠2 then [n+W] else [])):=by
  intro j acc ha
  rw[spec_l4Near.j3]
  simp only[if_neg hw0,t1,e3,e5]
  by_cases c1:n % W<W-1
  ·have q1:=hr c1
   have q2:0<=n+1:=by omega
   rw[if_pos c1,if_pos q2,if_pos q1,j4 j acc _ ha]
   by_cases c2:rd xs (n+1)=2
   ·simp[c1,c2]
   ·simp[c1,c2]
  ·rw[if_neg c1,j4 j acc _ ha]
   simp[c1]
 have j2:∀ (j:Nat) (acc:List Int) (c:Bool),acc.length<=8->spec_l4Near.j2 (j+3) n acc c W H xs=some (((acc++(if c=true then [n-1] else []))++(if n % W<W-1/\rd xs (n+1)≠2 then [n+1] else []))++(if n+W<(xs.length:Int)/\rd xs (n+W)≠2 then [n+W] else [])):=by
  intro j acc c ha
  have q1:acc.length<17592186044416:=by omega
  rw[spec_l4Near.j2]
  simp only[e2,if_pos q1]
  by_cases c0:c=true
  ·rw[if_pos c0,j3 j _ (by simp;omega),if_pos c0]
  ·rw[if_neg c0,j3 j _ Om,if_neg c0,List.append_nil]
 have j1:∀ (j:Nat) (acc:List Int),acc.length<=8->spec_l4Near.j1 (j+4) n acc W H xs=some (((acc++(if 0<n % W/\rd xs (n-1)≠2 then [n-1] else []))++(if n % W<W-1/\rd xs (n+1)≠2 then [n+1] else []))++(if n+W<(xs.length:Int)/\rd xs (n+W)≠2 then [n+W] else [])):=by
  intro j acc ha
  rw[spec_l4Near.j1]
  simp only[if_neg hw0,t1,e2,gt_iff_lt]
  by_cases c1:0<n % W
  ·have q1:=hp c1
   have q2:n-1<(xs.length:Int):=by omega
   rw[if_pos c1,if_pos q1,if_pos q2,j2 j acc _ ha]
   by_cases c2:rd xs (n-1)=2
   ·simp[c1,c2]
   ·simp[c1,c2]
  ·rw[if_neg c1,j2 j acc _ ha]
   simp[c1]
 unfold spec_l4Near.f Zc
 simp only[Ob,e1,ge_iff_le]
 have q0:([]:List Int).length<17592186044416:=by simp
 by_cases c1:W<=n
 ·have q1:0<=n-W:=by omega
  have q2:n-W<(xs.length:Int):=by omega
  rw[if_pos c1,if_pos q1,if_pos q2,spec_l4Near.j0]
  simp only[e1,if_pos q0]
  by_cases c2:rd xs (n-W)=2
  ·simp only[c2,bne_self_eq_false,Bool.false_eq_true,if_false]
   rw[j1 k [] (by simp)]
   simp[c1]
  ·rw[if_pos (by simp[c2]),j1 k _ (by simp)]
   simp[c1,c2]
 ·rw[if_neg c1,spec_l4Near.j0]
  simp only[Bool.false_eq_true,if_false]
  rw[j1 k [] (by simp)]
  simp[c1]
def Zm (W:Int) (xs:List Int) (n m:Int):Bool:=opn xs m && decide (ap W n m=1)
theorem Zkb {W H:Int} {xs:List Int} (L:LandOk W H xs) (n:Int) (hn:0<=n/\n<(xs.length:Int)) (ys:List Int) (hy:ys.length=4) (K:Nat) (hK:80<=K) (r:List Int) :
  ∀ (d:Nat) (i:Int) (acc:List Int),0<=i->(ys.length:Int)-i=d->acc.length+d<=100->(∀ k,K<k->slices_Compact_int_int.f k (acc++(ys.drop i.toNat).filter (Zm W xs n))=some r) ->
  ∀ k,K+d+1<k->impl_Near.l0 k n acc ys (ys.length:Int) i W H xs=some r:=by
 intro d
 induction d with
 |zero =>
  intro i acc h0 hd ha hr k hk
  obtain⟨k,rfl⟩:∃ j,k=j+1:=⟨k-1,by omega⟩
  have hlt:¬ i<(ys.length:Int):=by omega
  rw[List.drop_eq_nil_of_le Om,List.filter_nil,List.append_nil] at hr
  simp only[impl_Near.l0,if_neg hlt,hr k Om,Ob]
 |succ d ih =>
  intro i acc h0 hd ha hr k hk
  obtain⟨k,rfl⟩:∃ j,k=j+1:=⟨k-1,by omega⟩
  have hlt:i<(ys.length:Int):=by omega
  rw[Zo 0 ys i h0 hlt,show ys.getD i.toNat 0=rd ys i from rfl,List.filter_cons] at hr
  have q1:acc.length<17592186044416:=by omega
  have hw:wrap64 (i+1)=i+1:=Yw
  simp only[impl_Near.l0,if_pos hlt,if_pos h0,(Zk L (rd ys i) k Om).1,Ob,hw,if_pos q1]
  by_cases c:opn xs (rd ys i)=true
  ·rw[if_pos c,Zob L n (rd ys i) hn (Za c) k Om,Ob]
   by_cases c2:ap W n (rd ys i)=1
   ·rw[if_pos c2]
    rw[if_pos (by unfold Zm;rw[c];simp[c2])] at hr
    exact ih (i+1) (acc++[rd ys i]) Om Om (by simp;omega) (by simpa using hr) k Om
   ·rw[if_neg c2]
    rw[if_neg (by unfold Zm;rw[c];simp[c2])] at hr
    exact ih (i+1) acc Om Om Om hr k Om
  ·rw[if_neg c]
   rw[if_neg (by unfold Zm;simp[c])] at hr
   exact ih (i+1) acc Om Om Om hr k Om
theorem ZOa (l:List Int) (hl:l.length<=100) (h:l.Pairwise (· < ·)):∀ (d:Nat) (i:Int),1<=i->(l.length:Int)-i=d->∀ k,d<k->slices_Compact_int_int.l0 k l i=some l:=by
 intro d
 induction d with
 |zero =>
  intro i h1 hd k hk
  obtain⟨k,rfl⟩:∃ j,k=j+1:=⟨k-1,by omega⟩
  rw[slices_Compact_int_int.l0,if_neg Om]
 |succ d ih =>
  intro i h1 hd k hk
  obtain⟨k,rfl⟩:∃ j,k=j+1:=⟨k-1,by omega⟩
  have w1:wrap64 (i-1)=i-1:=Yw
  have w2:wrap64 (i+1)=i+1:=Yw
  have hne:¬ rd l i=rd l (i-1):=by
   have ha:i.toNat<l.length:=by omega
   have hb:(i-1).toNat<l.length:=by omega
   have:=List.pairwise_iff_getElem.mp h (i-1).toNat i.toNat hb ha Om
   unfold rd
   rw[List.getD_eq_getElem?_getD,List.getD_eq_getElem?_getD,List.getElem?_eq_getElem ha,List.getElem?_eq_getElem hb]
   simp only[Option.getD_some]
   omega
  rw[slices_Compact_int_int.l0,if_pos Om,if_pos Om,w1,if_pos Om,if_pos Om,if_neg hne,w2]
  exact ih (i+1) Om Om k Om
theorem ZY (l:List Int) (hl:l.length<=100) (h:l.Pairwise (· < ·)) (k:Nat) (hk:l.length<k):slices_Compact_int_int.f k l=some l:=by
 unfold slices_Compact_int_int.f
 split
 ·rfl
 ·exact ZOa l hl h (l.length-1) 1 Om Om k Om
theorem Zqa (a:Int) (k:Nat) (hk:10<k):slices_Compact_int_int.f k [a,a]=some [a]:=by
 obtain⟨k,rfl⟩:∃ j,k=j+10:=⟨k-10,by omega⟩
 have w0:wrap64 0=0:=Yw
 have w2:wrap64 2=2:=Yw
 unfold slices_Compact_int_int.f
 simp[slices_Compact_int_int.l0,slices_Compact_int_int.l1,rd,rs,w0,w2]
theorem Zdb (a b:Int) (hab:a≠b) (k:Nat) (hk:10<k):slices_Compact_int_int.f k [a,a,b,b]=some [a,b]:=by
 obtain⟨k,rfl⟩:∃ j,k=j+10:=⟨k-10,by omega⟩
 have w0:wrap64 0=0:=Yw
 have w1:wrap64 1=1:=Yw
 have w2:wrap64 2=2:=Yw
 have w3:wrap64 3=3:=Yw
 unfold slices_Compact_int_int.f
 simp[slices_Compact_int_int.l0,slices_Compact_int_int.l1,rd,rs,w0,w1,w2,w3,hab,Ne.symm hab]
theorem Zha {W H:Int} {xs:List Int} (L:LandOk W H xs) (n:Int) (hn:0<=n/\n<(xs.length:Int)) (k:Nat) (hk:100<k):impl_Near.f k W H xs n=some (Zc W xs n):=by
 have hw:=L.w
 have:=L.le
 have e1:wrap64 (n-W)=n-W:=Yw
 have e2:wrap64 (n-1)=n-1:=Yw
 have e3:wrap64 (n+1)=n+1:=Yw
 have e4:wrap64 (n+W)=n+W:=Yw
 unfold impl_Near.f
 simp only[(Zr L n k Om).1,hn,and_self,decide_true,Ob,if_true,e1,e2,e3,e4]
 refine Zkb L n hn [n-W,n-1,n+1,n+W] rfl 90 Om (Zc W xs n) 4 0 [] Om (by simp) (by simp) (fun k hk=>?_) k Om
 simp only[Int.toNat_zero,List.drop_zero,List.nil_append]
 by_cases h1:W=1
 ·subst h1
  have o1:ap 1 n (n-1)=1:=by unfold ap ab mx;split <;> split <;> omega
  have o2:ap 1 n (n+1)=1:=by unfold ap ab mx;split <;> split <;> omega
  unfold Zc
  by_cases c1:opn xs (n-1)=true <;> by_cases c2:opn xs (n+1)=true <;> simp only[List.filter_cons,Zm,o1,o2,c1,c2,decide_true,Bool.and_self,Bool.and_true,Bool.true_and,if_true,Bool.false_eq_true,if_false,List.filter_nil]
  ·have c1':=c1
   have c2':=c2
   unfold opn at c1' c2'
   simp only[Bool.and_eq_true,decide_eq_true_eq,bne_iff_ne] at c1' c2'
   rw[Zdb (n-1) (n+1) Om k Om,if_pos ⟨by omega,c1'.2⟩,if_neg Om,if_neg Om,if_pos ⟨by omega,c2'.2⟩]
   rfl
  ·have c1':=c1
   have c2':=c2
   unfold opn at c1' c2'
   simp only[Bool.and_eq_true,decide_eq_true_eq,bne_iff_ne] at c1' c2'
   rw[Zqa (n-1) k Om,if_pos ⟨by omega,c1'.2⟩,if_neg Om,if_neg Om,if_neg (fun h=>c2' ⟨⟨by omega,h.1⟩,h.2⟩)]
   rfl
  ·have c1':=c1
   have c2':=c2
   unfold opn at c1' c2'
   simp only[Bool.and_eq_true,decide_eq_true_eq,bne_iff_ne] at c1' c2'
   rw[Zqa (n+1) k Om,if_neg (fun h=>c1' ⟨⟨by omega,by omega⟩,h.2⟩),if_neg Om,if_neg Om,if_pos ⟨by omega,c2'.2⟩]
   rfl
  ·have c1':=c1
   have c2':=c2
   unfold opn at c1' c2'
   simp only[Bool.and_eq_true,decide_eq_true_eq,bne_iff_ne] at c1' c2'
   rw[ZY [] (by simp) (by simp) k (by simp;omega),if_neg (fun h=>c1' ⟨⟨by omega,by omega⟩,h.2⟩),if_neg Om,if_neg Om,if_neg (fun h=>c2' ⟨⟨by omega,h.1⟩,h.2⟩)]
   rfl
 ·have hW:2<=W/\W<=8:=by omega
  have hl:=L.len
  have hasc:((([n-W,n-1,n+1,n+W]:List Int)).filter (Zm W xs n)).Pairwise (· < ·):=by
   refine List.Pairwise.filter _ ?_
   simp only[List.pairwise_cons,List.mem_cons,List.not_mem_nil,or_false]
   refine⟨fun a h=>by omega,fun a h=>by omega,fun a h=>by omega,fun a h=>h.elim,List.Pairwise.nil⟩
  have hlen:((([n-W,n-1,n+1,n+W]:List Int)).filter (Zm W xs n)).length<=4:=by
   have:=List.length_filter_le (Zm W xs n) [n-W,n-1,n+1,n+W]
   simpa using this
  rw[ZY _ Om hasc k Om]
  congr 1
  have hbq:∀ a:Int,(a==2)=decide (a=2):=fun a=>rfl
  have m1:Zm W xs n (n-W)=decide (W<=n/\rd xs (n-W)≠2):=by
   have:0<=n-W->ap W n (n-W)=1:=fun h=>by
    unfold ap ab mx
    rcases Zn hw with e|e|e|e|e|e|e|e <;> subst e <;> split <;> split <;> omega
   unfold Zm opn
   by_cases c:W<=n
   ·have c0:0<=n-W:=by omega
    have c1:n-W<(xs.length:Int):=by omega
    rw[this c0]
    simp[c,c0,c1,bne,hbq]
   ·have c0:¬ 0<=n-W:=by omega
    simp[c,c0]
  have m2:Zm W xs n (n-1)=decide (0<n % W/\rd xs (n-1)≠2):=by
   have a1:0<n % W->ap W n (n-1)=1/\0<=n-1:=fun h=>by
    unfold ap ab mx
    rcases Zn hw with e|e|e|e|e|e|e|e <;> subst e <;> constructor <;> (try split) <;> (try split) <;> omega
   have a2:¬ 0<n % W->0<=n-1->¬ ap W n (n-1)=1:=fun h h2=>by
    unfold ap ab mx
    rcases Zn hw with e|e|e|e|e|e|e|e <;> subst e <;> split <;> split <;> omega
   unfold Zm opn
   by_cases c:0<n % W
   ·have c1:n-1<(xs.length:Int):=by omega
    have c0:=(a1 c).2
    rw[(a1 c).1]
    simp only[c0,c1,c,and_self,true_and,decide_true,Bool.true_and,bne,hbq,Bool.and_true,ne_eq,decide_not]
   ·by_cases c0:0<=n-1
    ·simp only[c,a2 c c0,decide_false,Bool.and_false,false_and]
    ·simp only[c,c0,false_and,decide_false,Bool.false_and]
  have m3:Zm W xs n (n+1)=decide (n % W<W-1/\rd xs (n+1)≠2):=by
   have a1:n % W<W-1->ap W n (n+1)=1:=fun h=>by
    unfold ap ab mx
    rcases Zn hw with e|e|e|e|e|e|e|e <;> subst e <;> split <;> split <;> omega
   have a2:¬ n % W<W-1->¬ ap W n (n+1)=1:=fun h=>by
    unfold ap ab mx
    rcases Zn hw with e|e|e|e|e|e|e|e <;> subst e <;> split <;> split <;> omega
   unfold Zm opn
   by_cases c:n % W<W-1
   ·have c1:=Zba hw hl hn.2 hn.1 c
    have c0:0<=n+1:=by omega
    rw[a1 c]
    simp[c,c0,c1,bne,hbq]
   ·simp[c,a2 c]
  have m4:Zm W xs n (n+W)=decide (n+W<(xs.length:Int)/\rd xs (n+W)≠2):=by
   have:ap W n (n+W)=1:=by
    unfold ap ab mx
    rcases Zn hw with e|e|e|e|e|e|e|e <;> subst e <;> split <;> split <;> omega
   unfold Zm opn
   rw[this]
   by_cases c:n+W<(xs.length:Int)
   ·have c0:0<=n+W:=by omega
    simp[c,c0,bne,hbq]
   ·simp[c]
  unfold Zc
  simp only[List.filter_cons,m1,m2,m3,m4,decide_eq_true_eq,List.filter_nil]
  split <;> split <;> split <;> split <;> rfl
def Zu (k:Nat) (W H:Int) (xs:List Int) (n:Int):Option (List Int):=(spec_IsCell.f k W H xs n).bind fun t=>(if t=true then((spec_l4Near.f k W H xs n).bind fun s=>(some s)) else(some (([]:List Int))))
theorem ZYa {W H:Int} {xs:List Int} (n:Int) (k:Nat) (h:impl_IsCell.f k W H xs n=some false/\spec_IsCell.f k W H xs n=some false):impl_Near.f k W H xs n=some []/\Zu k W H xs n=some []:=by
 unfold impl_Near.f Zu
 simp only[h.1,h.2,Ob,Bool.false_eq_true,if_false,and_self]
theorem ZAb {c:Prop} [Decidable c] {a v:Int}:v∈(if c then [a] else [])↔c/\v=a:=by
 split <;> simp_all
theorem Z3 {W n v:Int} {xs:List Int}:v∈Zc W xs n↔((((W<=n/\rd xs (n-W)≠2)/\v=n-W)\/((0<n % W/\rd xs (n-1)≠2)/\v=n-1))\/((n % W<W-1/\rd xs (n+1)≠2)/\v=n+1))\/((n+W<(xs.length:Int)/\rd xs (n+W)≠2)/\v=n+W):=by
 unfold Zc
 simp only[List.mem_append,ZAb]
theorem ZP (W n:Int) (xs:List Int):(Zc W xs n).length<=4:=by
 unfold Zc
 have h:∀ (c:Prop) [Decidable c] (a:Int),(if c then [a] else([]:List Int)).length<=1:=fun c _ a=>by split <;> simp
 simp only[List.length_append]
 have:=h (W<=n/\rd xs (n-W)≠2) (n-W)
 have:=h (0<n % W/\rd xs (n-1)≠2) (n-1)
 have:=h (n % W<W-1/\rd xs (n+1)≠2) (n+1)
 have:=h (n+W<(xs.length:Int)/\rd xs (n+W)≠2) (n+W)
 omega
theorem Zaa {xs:List Int} {m:Int}:opn xs m=true↔(0<=m/\m<(xs.length:Int))/\rd xs m≠2:=by
 unfold opn
 rw[Bool.and_eq_true,decide_eq_true_eq,bne_iff_ne]
theorem Zp {W H n:Int} {xs:List Int} (L:LandOk W H xs) (hn:0<=n/\n<(xs.length:Int)):∀ v∈Zc W xs n,opn xs v=true:=by
 intro v hv
 have hw:=L.w
 rw[Zaa]
 rcases Z3.mp hv with ((⟨⟨h1,h2⟩,h3⟩|⟨⟨h1,h2⟩,h3⟩)|⟨⟨h1,h2⟩,h3⟩)|⟨⟨h1,h2⟩,h3⟩ <;> subst h3
 ·exact⟨by omega,h2⟩
 ·refine⟨⟨?_,by omega⟩,h2⟩
  by_cases h0:n=0
  ·subst h0;simp at h1
  ·omega
 ·have:=Zba hw L.len hn.2 hn.1 h1
  exact⟨by omega,h2⟩
 ·exact⟨by omega,h2⟩
theorem Z1 {W H n v:Int} {xs:List Int} (L:LandOk W H xs) (hn:opn xs n=true) (hv:v∈Zc W xs n):n∈Zc W xs v:=by
 have hw:=L.w
 obtain⟨hr,hx⟩:=Zaa.mp hn
 have hvo:=Zp L hr v hv
 obtain⟨hvr,hvx⟩:=Zaa.mp hvo
 rw[Z3]
 rcases Z3.mp hv with ((⟨⟨h1,h2⟩,h3⟩|⟨⟨h1,h2⟩,h3⟩)|⟨⟨h1,h2⟩,h3⟩)|⟨⟨h1,h2⟩,h3⟩ <;> subst h3
 ·exact Or.inr ⟨⟨by omega,by rw[Int.sub_add_cancel];exact hx⟩,by omega⟩
 ·refine Or.inl (Or.inr ⟨⟨?_,by rw[Int.sub_add_cancel];exact hx⟩,by omega⟩)
  rcases Zn hw with e|e|e|e|e|e|e|e <;> subst e <;> omega
 ·refine Or.inl (Or.inl (Or.inr ⟨⟨?_,by rw[Int.add_sub_cancel];exact hx⟩,by omega⟩))
  rcases Zn hw with e|e|e|e|e|e|e|e <;> subst e <;> omega
 ·exact Or.inl (Or.inl (Or.inl ⟨⟨by omega,by rw[Int.add_sub_cancel];exact hx⟩,by omega⟩))
structure Good (n:Nat) (d q:List Int):Prop where
 len:d.length=n
 bnd:∀ v,0<=v->rd d v+(Zj d:Int)+1<=(n:Int)
 mem:∀ x∈q,0<=x/\x<(n:Int)/\0<=rd d x
theorem Zfa {n:Nat} {d:List Int} {own b:Int} (hl:d.length=n) (hb:∀ v,0<=v->rd d v+(Zj d:Int)+1<=(n:Int)) (ho:0<=own) (h0:0<=rd d own) (b0:0<=b) (b1:b<(n:Int)) (c:rd d b<0) :
  ∀ v,0<=v->rd (d.set b.toNat (rd d own+1)) v+(Zj (d.set b.toNat (rd d own+1)):Int)+1<=(n:Int):=by
 intro v hv
 have h1:=Zv d b.toNat (rd d own+1) Om c Om
 have h2:=hb v hv
 have h3:=hb own ho
 rw[Zw d b v (rd d own+1) b0 Om hv]
 split <;> omega
theorem ZT (n:Nat) (own:Int) (ho:0<=own):∀ (bs d q:List Int),d.length=n->(∀ v,0<=v->rd d v+(Zj d:Int)+1<=(n:Int))->0<=rd d own->(∀ b∈bs,0<=b/\b<(n:Int)) ->
  ∀ v,0<=v->rd (Zf d q own bs).1 v+(Zj (Zf d q own bs).1:Int)+1<=(n:Int)
 |[],d,q,hl,hb,h0,hr=>hb
 |b :: bs,d,q,hl,hb,h0,hr=>by
  have hbb:=hr b List.mem_cons_self
  unfold Zf
  by_cases c:rd d b<0
  ·rw[if_pos c]
   have hne:own≠b:=fun e=>by rw[e] at h0;omega
   have h2:rd (d.set b.toNat (rd d own+1)) own=rd d own:=by rw[Zw d b own _ hbb.1 Om ho,if_neg hne]
   exact ZT n own ho bs _ _ (by simpa using hl) (Zfa hl hb ho h0 hbb.1 hbb.2 c) (by rw[h2];exact h0) (fun x hx=>hr x (List.mem_cons_of_mem _ hx))
  ·rw[if_neg c]
   exact ZT n own ho bs d q hl hb h0 (fun x hx=>hr x (List.mem_cons_of_mem _ hx))
theorem ZI {n:Nat} {d rest bs:List Int} {own:Int} (G:Good n d (own :: rest)) (hr:∀ b∈bs,0<=b/\b<(n:Int)):Good n (Zf d rest own bs).1 (Zf d rest own bs).2/\(Zf d rest own bs).2.length+Zj (Zf d rest own bs).1=rest.length+Zj d:=by
 obtain⟨o1,o2,o3⟩:=G.mem own List.mem_cons_self
 obtain⟨v1,v2,v3,v4,ns,v5,v6,v7,v8⟩:=Zy n own o1 bs d rest G.len o3 hr
 refine⟨⟨by rw[v1];exact G.len,ZT n own o1 bs d rest G.len G.bnd o3 hr,fun x hx=>?_⟩,by rw[v5,List.length_append];omega⟩
 rw[v5] at hx
 rcases List.mem_append.mp hx with h|h
 ·obtain⟨x1,x2,x3⟩:=G.mem x (List.mem_cons_of_mem _ h)
  exact⟨x1,x2,by rw[v2 x x1 x3];exact x3⟩
 ·obtain⟨h1,h2⟩:=v7 x h
  exact⟨(hr x h1).1,(hr x h1).2,by omega⟩
theorem ZH (own:Int) (j:Nat):∀ (bs d q:List Int),j<=q.length->(Zf d q own bs).1=(Zf d (q.drop j) own bs).1/\(Zf d q own bs).2.drop j=(Zf d (q.drop j) own bs).2/\q.length<=(Zf d q own bs).2.length
 |[],d,q,h=>⟨rfl,rfl,Nat.le_refl _⟩
 |b :: bs,d,q,h=>by
  unfold Zf
  by_cases c:rd d b<0
  ·rw[if_pos c,if_pos c]
   have h1:=ZH own j bs (d.set b.toNat (rd d own+1)) (q++[b]) (by simp;omega)
   rw[List.drop_append_of_le_length h] at h1
   refine⟨h1.1,h1.2.1,?_⟩
   have:=h1.2.2
   simp only[List.length_append,List.length_cons,List.length_nil] at this
   omega
  ·rw[if_neg c,if_neg c]
   exact ZH own j bs d q h
theorem ZQb (W H:Int) (xs:List Int) (n:Nat) (hn:n<=64) (own:Int) (ho:0<=own) (bs:List Int) (hb4:bs.length<=4) (hr:∀ b∈bs,0<=b/\b<(n:Int)) (hon:own<(n:Int)) (K:Nat) (r:List Int) :
  ∀ (e:Nat) (i:Int) (d q:List Int),0<=i->(bs.length:Int)-i=e->d.length=n->(∀ v,0<=v->rd d v+(Zj d:Int)+1<=(n:Int))->0<=rd d own->q.length+Zj d<=200 ->
  (∀ k,K<k->impl_distances.l2 k (Zf d q own (bs.drop i.toNat)).1 (Zf d q own (bs.drop i.toNat)).2 W H xs=some r) ->
  ∀ k,K+e+1<k->impl_distances.l3 k d q own bs (bs.length:Int) i W H xs=some r:=by
 intro e
 induction e with
 |zero =>
  intro i d q h0 hd hl hb hown hq hk2 k hk
  obtain⟨k,rfl⟩:∃ j,k=j+1:=⟨k-1,by omega⟩
  have hlt:¬ i<(bs.length:Int):=by omega
  rw[List.drop_eq_nil_of_le Om] at hk2
  rw[impl_distances.l3,if_neg hlt]
  exact hk2 k Om
 |succ e ih =>
  intro i d q h0 hd hl hb hown hq hk2 k hk
  obtain⟨k,rfl⟩:∃ j,k=j+1:=⟨k-1,by omega⟩
  have hlt:i<(bs.length:Int):=by omega
  have hw:wrap64 (i+1)=i+1:=Yw
  have hmem:rd bs i∈bs:=by
   have h1:i.toNat<bs.length:=by omega
   unfold rd
   rw[List.getD_eq_getElem?_getD,List.getElem?_eq_getElem h1]
   exact List.getElem_mem h1
  obtain⟨b0,b1⟩:=hr _ hmem
  rw[Zo 0 bs i h0 hlt,show bs.getD i.toNat 0=rd bs i from rfl] at hk2
  unfold Zf at hk2
  have hd1:rd bs i<(d.length:Int):=by omega
  have hd2:own<(d.length:Int):=by omega
  have hq1:q.length<17592186044416:=by omega
  have hbo:=hb own ho
  have hw2:wrap64 (rd d own+1)=rd d own+1:=Yw
  simp only[impl_distances.l3,if_pos hlt,if_pos h0,if_pos b0,if_pos hd1,if_pos ho,if_pos hd2,if_pos hq1,hw,hw2]
  by_cases c:rd d (rd bs i)<0
  ·rw[if_pos c]
   rw[if_pos c] at hk2
   have hne:own≠rd bs i:=fun e=>by rw[e] at hown;omega
   have h2:rd (d.set (rd bs i).toNat (rd d own+1)) own=rd d own:=by rw[Zw d _ own _ b0 Om ho,if_neg hne]
   have h3:=Zv d (rd bs i).toNat (rd d own+1) Om c Om
   exact ih (i+1) _ _ Om Om (by simpa using hl) (Zfa hl hb ho hown b0 b1 c) (by rw[h2];exact hown) (by simp only[List.length_append,List.length_cons,List.length_nil];omega) hk2 k Om
  ·rw[if_neg c]
   rw[if_neg c] at hk2
   exact ih (i+1) d q Om Om hl hb hown hq hk2 k Om
theorem ZIb (W H:Int) (xs:List Int) (n:Nat) (hn:n<=64) (own:Int) (ho:0<=own) (bs:List Int) (hb4:bs.length<=4) (hr:∀ b∈bs,0<=b/\b<(n:Int)) (hon:own<(n:Int)) (K:Nat) (r:List Int) (p:Int) (hp0:0<=p) (hp1:p<=200) :
  ∀ (e:Nat) (i:Int) (d Q:List Int),0<=i->(bs.length:Int)-i=e->d.length=n->(∀ v,0<=v->rd d v+(Zj d:Int)+1<=(n:Int))->0<=rd d own->Q.length+Zj d<=200->p<(Q.length:Int)->rd Q p=own ->
  (∀ k,K<k->spec_l5From.l1 k (Zf d Q own (bs.drop i.toNat)).1 (Zf d Q own (bs.drop i.toNat)).2 (p+1) W H xs=some r) ->
  ∀ k,K+e+1<k->spec_l5From.l2 k d Q p bs i W H xs=some r:=by
 intro e
 induction e with
 |zero =>
  intro i d q h0 hd hl hb hown hq hpq hpo hk2 k hk
  obtain⟨k,rfl⟩:∃ j,k=j+1:=⟨k-1,by omega⟩
  have hlt:¬ i<(bs.length:Int):=by omega
  rw[List.drop_eq_nil_of_le Om] at hk2
  rw[spec_l5From.l2,if_neg hlt,show wrap64 (p+1)=p+1 by unfold wrap64;omega]
  exact hk2 k Om
 |succ e ih =>
  intro i d q h0 hd hl hb hown hq hpq hpo hk2 k hk
  obtain⟨k,rfl⟩:∃ j,k=j+1:=⟨k-1,by omega⟩
  have hlt:i<(bs.length:Int):=by omega
  have hw:wrap64 (i+1)=i+1:=Yw
  have hmem:rd bs i∈bs:=by
   have h1:i.toNat<bs.length:=by omega
   unfold rd
   rw[List.getD_eq_getElem?_getD,List.getElem?_eq_getElem h1]
   exact List.getElem_mem h1
  obtain⟨b0,b1⟩:=hr _ hmem
  rw[Zo 0 bs i h0 hlt,show bs.getD i.toNat 0=rd bs i from rfl] at hk2
  unfold Zf at hk2
  have hd1:rd bs i<(d.length:Int):=by omega
  have hd2:own<(d.length:Int):=by omega
  have hq1:q.length<17592186044416:=by omega
  have hbo:=hb own ho
  have hw2:wrap64 (rd d own+1)=rd d own+1:=Yw
  simp only[spec_l5From.l2,if_pos hlt,if_pos h0,if_pos b0,if_pos hd1,if_pos hp0,if_pos hpq,hpo,if_pos ho,if_pos hd2,if_pos hq1,hw,hw2]
  by_cases c:rd d (rd bs i)<0
  ·rw[if_pos c]
   rw[if_pos c] at hk2
   have hne:own≠rd bs i:=fun e=>by rw[e] at hown;omega
   have h2:rd (d.set (rd bs i).toNat (rd d own+1)) own=rd d own:=by rw[Zw d _ own _ b0 Om ho,if_neg hne]
   have h3:=Zv d (rd bs i).toNat (rd d own+1) Om c Om
   refine ih (i+1) _ _ Om Om (by simpa using hl) (Zfa hl hb ho hown b0 b1 c) (by rw[h2];exact hown) (by simp only[List.length_append,List.length_cons,List.length_nil];omega) (by simp only[List.length_append,List.length_cons,List.length_nil];omega) ?_ hk2 k Om
   have h4:p.toNat<q.length:=by omega
   unfold rd at hpo ⊢
   rw[List.getD_eq_getElem?_getD,List.getElem?_append_left h4,<-List.getD_eq_getElem?_getD]
   exact hpo
  ·rw[if_neg c]
   rw[if_neg c] at hk2
   exact ih (i+1) d q Om Om hl hb hown hq hpq hpo hk2 k Om
theorem Zvb {W H:Int} {xs:List Int} (L:LandOk W H xs):∀ (f:Nat) (d q:List Int),Good xs.length d q->q.length+Zj d<=f->f<=64->∀ k,110+8 * f<k->impl_distances.l2 k d q W H xs=some (bfs (Zc W xs) f d q):=by
 intro f
 induction f with
 |zero =>
  intro d q G hf _ k hk
  obtain⟨k,rfl⟩:∃ j,k=j+1:=⟨k-1,by omega⟩
  have:q=[]:=List.eq_nil_of_length_eq_zero Om
  subst this
  simp[impl_distances.l2,bfs]
 |succ f ih =>
  intro d q G hf hf6 k hk
  obtain⟨k,rfl⟩:∃ j,k=j+1:=⟨k-1,by omega⟩
  cases q with
  |nil=>simp[impl_distances.l2,bfs]
  |cons own rest =>
   obtain⟨o1,o2,o3⟩:=G.mem own List.mem_cons_self
   have hle:=L.le
   have hr:∀ b∈Zc W xs own,0<=b/\b<(xs.length:Int):=fun b hb=>Za (Zp L ⟨o1,o2⟩ b hb)
   have g:=ZI G hr
   have hlen:(own :: rest).length=rest.length+1:=rfl
   have c1:((own :: rest).length:Int)>0:=by omega
   have c2:(1:Int)<=((own :: rest).length:Int):=by omega
   have e1:rd (own :: rest) 0=own:=rfl
   have e2:(own :: rest).drop (1:Int).toNat=rest:=rfl
   rw[impl_distances.l2,if_pos c1,if_pos c1,if_pos c2,e1,e2,Zha L own ⟨o1,o2⟩ k Om,Ob]
   have h4:=ZP W own xs
   refine ZQb W H xs xs.length hle own o1 (Zc W xs own) h4 hr o2 (110+8 * f) _ (Zc W xs own).length 0 d rest Om Om G.len G.bnd o3 Om (fun k hk=>?_) k Om
   rw[Int.toNat_zero,List.drop_zero]
   rw[ih _ _ g.1 Om Om k hk]
   rfl
theorem ZDb {W H:Int} {xs:List Int} (L:LandOk W H xs):∀ (f:Nat) (d Q:List Int) (p:Int),0<=p->p<=(Q.length:Int)->Q.length+Zj d<=64->Good xs.length d (Q.drop p.toNat)->(Q.drop p.toNat).length+Zj d<=f->f<=64->∀ k,110+8 * f<k->spec_l5From.l1 k d Q p W H xs=some (bfs (Zc W xs) f d (Q.drop p.toNat)):=by
 intro f
 induction f with
 |zero =>
  intro d Q p hp0 hp1 hQ G hf _ k hk
  obtain⟨k,rfl⟩:∃ j,k=j+1:=⟨k-1,by omega⟩
  rw[List.length_drop] at hf
  have c:¬ p<(Q.length:Int):=by omega
  rw[spec_l5From.l1,if_neg c]
  rfl
 |succ f ih =>
  intro d Q p hp0 hp1 hQ G hf hf6 k hk
  obtain⟨k,rfl⟩:∃ j,k=j+1:=⟨k-1,by omega⟩
  by_cases c:p<(Q.length:Int)
  ·have hcons:=Zo 0 Q p hp0 c
   obtain⟨own,hown⟩:∃ own,own=rd Q p:=⟨_,rfl⟩
   rw[show Q.getD p.toNat 0=own from hown.symm] at hcons
   rw[hcons] at G hf ⊢
   obtain⟨rest,hrest⟩:∃ rest,rest=Q.drop (p+1).toNat:=⟨_,rfl⟩
   rw[<-hrest] at G hf ⊢
   obtain⟨o1,o2,o3⟩:=G.mem own List.mem_cons_self
   have hle:=L.le
   have hr:∀ b∈Zc W xs own,0<=b/\b<(xs.length:Int):=fun b hb=>Za (Zp L ⟨o1,o2⟩ b hb)
   have g:=ZI G hr
   have hlen:(own :: rest).length=rest.length+1:=rfl
   have h4:=ZP W own xs
   have vd:=ZH own (p+1).toNat (Zc W xs own) d Q Om
   rw[<-hrest] at vd
   rw[spec_l5From.l1,if_pos c,if_pos hp0,<-hown,ZR L own ⟨o1,o2⟩ k Om,Ob]
   refine ZIb W H xs xs.length hle own o1 (Zc W xs own) h4 hr o2 (110+8 * f) _ p hp0 Om (Zc W xs own).length 0 d Q Om Om G.len G.bnd o3 Om c hown.symm (fun k hk=>?_) k Om
   rw[Int.toNat_zero,List.drop_zero]
   have v6:(Zf d Q own (Zc W xs own)).2.length+Zj (Zf d Q own (Zc W xs own)).1=Q.length+Zj d:=by
    have e1:=g.2
    rw[<-vd.2.1,<-vd.1,List.length_drop] at e1
    rw[hrest,List.length_drop] at e1
    have:=vd.2.2
    omega
   rw[ih _ _ (p+1) Om (by have:=vd.2.2;omega) Om (by rw[vd.1,vd.2.1];exact g.1) (by rw[vd.1,vd.2.1];omega) Om k hk,vd.1,vd.2.1]
   rfl
  ·rw[spec_l5From.l1,if_neg c,List.drop_eq_nil_of_le Om]
   rfl
theorem ZMa:∀ n:Nat,Zj (List.replicate n (-1))=n
 |0=>rfl
 |n+1=>by
  rw[List.replicate_succ,Zj,ZMa n]
  simp
  omega
theorem ZCa (n:Nat) (v:Int) (hv:0<=v):rd (List.replicate n (-1)) v=if v<(n:Int) then -1 else 0:=by
 unfold rd
 rw[List.getD_eq_getElem?_getD,List.getElem?_replicate]
 by_cases h:v<(n:Int)
 ·rw[if_pos h,if_pos Om];rfl
 ·rw[if_neg h,if_neg Om];rfl
def Zb (W:Int) (xs:List Int) (a:Int):List Int:=bfs (Zc W xs) xs.length ((List.replicate xs.length (-1)).set a.toNat 0) [a]
theorem ZU {n:Nat} {a:Int} (ha:0<=a/\a<(n:Int)):Good n ((List.replicate n (-1)).set a.toNat 0) [a]/\Zj ((List.replicate n (-1)).set a.toNat 0)+1=n/\∀ v,0<=v->rd ((List.replicate n (-1)).set a.toNat 0) v=if v=a then 0 else if v<(n:Int) then -1 else 0:=by
 have h1:=Zv (List.replicate n (-1)) a.toNat 0 (by simp;omega) (by have:=ZCa n a ha.1;unfold rd at this;rw[this,if_pos ha.2];omega) Om
 rw[ZMa] at h1
 have hr:∀ v,0<=v->rd ((List.replicate n (-1)).set a.toNat 0) v=if v=a then 0 else if v<(n:Int) then -1 else 0:=fun v hv=>by
  rw[Zw _ a v 0 ha.1 (by simp;omega) hv,ZCa n v hv]
 refine⟨⟨by simp,fun v hv=>?_,fun x hx=>?_⟩,h1,hr⟩
 ·rw[hr v hv];split
  ·omega
  ·split <;> omega
 ·rw[List.mem_singleton] at hx
  subst hx
  rw[hr x ha.1,if_pos rfl]
  exact⟨ha.1,ha.2,by omega⟩
theorem Zl {W H a:Int} {xs:List Int} (L:LandOk W H xs) (ha:0<=a/\a<(xs.length:Int)):BEnd (Zc W xs) xs.length a (Zb W xs a):=by
 obtain⟨g,g2,hr⟩:=ZU ha
 refine Zxb (Zc W xs) xs.length a ha.1 ha.2 (fun u h0 h1 v hv=>Za (Zp L ⟨h0,h1⟩ v hv)) xs.length _ [a] 0 ⟨g.len,by omega,by rw[hr a ha.1,if_pos rfl],fun v hv h1 h2=>?_,⟨[a],[],rfl,fun x hx=>?_,fun x hx=>(by cases hx)⟩,fun v hv=>?_,fun v hv h1 h2 h3=>?_,fun u hu h1 h2 h3=>?_⟩ (by simp only[List.length_cons,List.length_nil];omega)
 ·rw[hr v hv] at h2
  by_cases e:v=a
  ·exact e
  ·rw[if_neg e,if_pos h1] at h2;omega
 ·rw[List.mem_singleton] at hx
  subst hx
  exact⟨ha.1,ha.2,by rw[hr x ha.1,if_pos rfl]⟩
 ·rw[hr v hv];split
  ·omega
  ·split <;> omega
 ·rw[hr v hv,if_neg h3,if_pos h1] at h2;omega
 ·have:u≠a:=fun e=>h3 (by rw[e];exact List.mem_singleton.mpr rfl)
  rw[hr u hu,if_neg this,if_pos h1] at h2;omega
theorem ZZa {W H:Int} {xs:List Int} (L:LandOk W H xs):∀ (f:Nat) (d q:List Int),Good xs.length d q->∀ v,0<=v->rd (bfs (Zc W xs) f d q) v+1<=(xs.length:Int)
 |0,d,q,G,v,hv=>by have:=G.bnd v hv;simp only[bfs];omega
 |f+1,d,[],G,v,hv=>by have:=G.bnd v hv;simp only[bfs];omega
 |f+1,d,own :: rest,G,v,hv=>by
  obtain⟨o1,o2,o3⟩:=G.mem own List.mem_cons_self
  exact ZZa L f _ _ (ZI G (fun b hb=>Za (Zp L ⟨o1,o2⟩ b hb))).1 v hv
theorem ZLa {W H a:Int} {xs:List Int} (L:LandOk W H xs) (ha:0<=a/\a<(xs.length:Int)) (v:Int) (hv:0<=v):rd (Zb W xs a) v<=63:=by
 have:=ZZa L xs.length _ _ (ZU ha).1 v hv
 have:=L.le
 unfold Zb;omega
theorem ZG {W H:Int} {xs:List Int} (L:LandOk W H xs) (a:Int) (ha:opn xs a=true) (k:Nat) (hk:1000<k):impl_distances.f k W H xs [a]=some (Zb W xs a)/\spec_l5From.f k W H xs a=some (Zb W xs a):=by
 obtain⟨a0,a1⟩:=Za ha
 have hle:=L.le
 obtain⟨g,g2,hr⟩:=ZU (n:=xs.length) ⟨a0,a1⟩
 have build:∀ (e:Nat) (i:Int),0<=i->(xs.length:Int)-i=e->(∀ k,800+e<k->impl_distances.l0 k [a] (List.replicate i.toNat (-1)) (xs.length:Int) i W H xs=some (Zb W xs a))/\(∀ k,800+e<k->spec_l5From.l0 k a (List.replicate i.toNat (-1)) i W H xs=some (Zb W xs a)):=by
  intro e
  induction e with
  |zero =>
   intro i h0 hd
   have hlt:¬ i<(xs.length:Int):=by omega
   have hi:i.toNat=xs.length:=by omega
   have r1:rd (List.replicate xs.length (-1)) a<0:=by rw[ZCa _ a a0,if_pos a1];omega
   have hlen:((List.replicate xs.length (-1:Int)).length:Int)=xs.length:=by simp
   constructor
   ·intro k hk
    obtain⟨k,rfl⟩:∃ j,k=j+3:=⟨k-3,by omega⟩
    have w1:wrap64 (0+1)=1:=Yw
    have q1:([]:List Int).length<17592186044416:=by simp
    have q2:(0:Int)<(([a]:List Int).length:Int):=by simp
    have q3:¬ (1:Int)<(([a]:List Int).length:Int):=by simp
    have e1:rd [a] 0=a:=rfl
    have hlt2:a<((List.replicate xs.length (-1:Int)).length:Int):=by omega
    rw[impl_distances.l0,if_neg hlt,hi,impl_distances.l1,if_pos q2,if_pos (show (0:Int)<=0 by omega),if_pos q2,e1,(Zk L a (k+1) Om).1,Ob,if_pos ha,if_pos a0,if_pos hlt2,if_pos r1,if_pos q1,w1,impl_distances.l1,if_neg q3]
    exact Zvb L xs.length _ [a] g (by simp only[List.length_cons,List.length_nil];omega) hle k Om
   ·intro k hk
    obtain⟨k,rfl⟩:∃ j,k=j+1:=⟨k-1,by omega⟩
    have hlt2:a<((List.replicate xs.length (-1:Int)).length:Int):=by omega
    rw[spec_l5From.l0,if_neg hlt,hi,if_pos a0,if_pos hlt2]
    exact ZDb L xs.length _ [a] 0 Om (by simp) (by simp only[List.length_cons,List.length_nil];omega) g (by simp only[Int.toNat_zero,List.drop_zero,List.length_cons,List.length_nil];omega) hle k Om
  |succ e ih =>
   intro i h0 hd
   obtain⟨i1,i2⟩:=ih (i+1) Om Om
   have hlt:i<(xs.length:Int):=by omega
   have hw:wrap64 (i+1)=i+1:=Yw
   have hrep:List.replicate i.toNat (-1:Int)++[-1]=List.replicate (i+1).toNat (-1):=by
    rw[show (i+1).toNat=i.toNat+1 by omega,List.replicate_succ']
   have q1:(List.replicate i.toNat (-1:Int)).length<17592186044416:=by simp;omega
   constructor
   ·intro k hk
    obtain⟨k,rfl⟩:∃ j,k=j+1:=⟨k-1,by omega⟩
    rw[impl_distances.l0,if_pos hlt,if_pos q1,hw,hrep]
    exact i1 k Om
   ·intro k hk
    obtain⟨k,rfl⟩:∃ j,k=j+1:=⟨k-1,by omega⟩
    rw[spec_l5From.l0,if_pos hlt,if_pos q1,hw,hrep]
    exact i2 k Om
 obtain⟨b1,b2⟩:=build xs.length 0 Om Om
 unfold impl_distances.f spec_l5From.f
 exact⟨b1 k Om,b2 k Om⟩
theorem Z1a {W H:Int} {xs:List Int} (L:LandOk W H xs) (a b:Int) (k:Nat) (hk:1000<k):impl_Days.f k W H xs a b=some (if opn xs a=true/\opn xs b=true then rd (Zb W xs a) b else -1)/\Yg.f k W H xs a b=some (if opn xs a=true/\opn xs b=true then rd (Zb W xs a) b else -1):=by
 unfold impl_Days.f Yg.f
 simp only[(Zk L a k Om).1,(Zk L a k Om).2,(Zk L b k Om).1,(Zk L b k Om).2,Ob]
 by_cases ha:opn xs a=true
 ·by_cases hb:opn xs b=true
  ·have hbr:=Za hb
   have hl:b<((Zb W xs a).length:Int):=by rw[(Zl L (Za ha)).len];exact hbr.2
   simp only[ha,hb,if_true,(ZG L a ha k hk).1,(ZG L a ha k hk).2,Ob,if_pos hbr.1,if_pos hl,and_self]
  ·simp only[ha,hb,if_true,if_false,and_false]
   exact⟨rfl,rfl⟩
 ·simp only[ha,if_false,false_and]
  exact⟨rfl,rfl⟩
def ZJa (W:Int) (xs d:List Int) (m now:Int):Int:=((Zc W xs now).find? (fun c=>rd d c==m)).getD now
def ZK (W:Int) (xs d:List Int):Nat->Int->List Int
 |0,now=>[now]
 |m+1,now=>now :: ZK W xs d m (ZJa W xs d (m:Int) now)
theorem Z4 (W:Int) (xs d:List Int):∀ (m:Nat) (now:Int),(ZK W xs d m now).length=m+1
 |0,now=>rfl
 |m+1,now=>by rw[ZK,List.length_cons,Z4 W xs d m]
theorem ZM {W H b now:Int} {xs:List Int} (L:LandOk W H xs) (hb:opn xs b=true) (hn:opn xs now=true) (h0:0<=rd (Zb W xs b) now):∀ c∈Zc W xs now,opn xs c=true/\rd (Zb W xs b) now-1<=rd (Zb W xs b) c/\0<=rd (Zb W xs b) c:=by
 intro c hc
 have B:=Zl L (Za hb)
 have hco:=Zp L (Za hn) c hc
 obtain⟨h1,h2⟩:=B.done now (Za hn).1 (Za hn).2 h0 c hc
 obtain⟨h3,h4⟩:=B.done c (Za hco).1 (Za hco).2 h1 now (Z1 L hn hc)
 exact⟨hco,by omega,h1⟩
theorem Zia {W H b now:Int} {xs:List Int} (L:LandOk W H xs) (hb:opn xs b=true) (hn:opn xs now=true) (m:Nat) (hm:rd (Zb W xs b) now=(m:Int)+1) :
  ∃ c,(Zc W xs now).find? (fun c=>rd (Zb W xs b) c==(m:Int))=some c/\ZJa W xs (Zb W xs b) m now=c/\c∈Zc W xs now/\opn xs c=true/\rd (Zb W xs b) c=m:=by
 have B:=Zl L (Za hb)
 have hne:now≠b:=fun e=>by rw[e,B.src0] at hm;omega
 obtain⟨u,u0,u1,u2,u3,u4⟩:=B.from_ now (Za hn).1 (Za hn).2 Om hne
 have huo:opn xs u=true:=by
  by_cases e:u=b
  ·rw[e];exact hb
  ·obtain⟨t,t0,t1,t2,_⟩:=B.from_ u u0 u1 u3 e
   exact Zp L ⟨t0,t1⟩ u t2
 have hu:=Z1 L huo u2
 cases hf:(Zc W xs now).find? (fun c=>rd (Zb W xs b) c==(m:Int)) with
 |none =>
  exfalso
  have:=List.find?_eq_none.mp hf u hu
  simp only[beq_iff_eq] at this
  omega
 |some c =>
  have h1:=List.find?_some hf
  simp only[beq_iff_eq] at h1
  have h2:=List.mem_of_find?_eq_some hf
  exact⟨c,rfl,by unfold ZJa;rw[hf];rfl,h2,Zp L (Za hn) c h2,h1⟩
theorem ZJb {W H:Int} {xs d:List Int} (b now m:Int) (out bs:List Int) (hout:out.length<=1000) (hb4:bs.length<=4) (hn0:0<=now/\now<(d.length:Int)) (hm:rd d now=m+1) (hbs:∀ c∈bs,(0<=c/\c<(d.length:Int))/\m<=rd d c) (c:Int) (K:Nat) (r:List Int) (hr:∀ k,K<k->impl_WayTo.l0 k b d (out++[c]) c W H xs=some r) :
  ∀ (e:Nat) (i:Int),0<=i->(bs.length:Int)-i=e->(bs.drop i.toNat).find? (fun c=>rd d c==m)=some c->∀ k,K+e+1<k->impl_WayTo.l1 k b d out now bs (bs.length:Int) i W H xs=some r:=by
 intro e
 induction e with
 |zero =>
  intro i h0 hd hf k hk
  rw[List.drop_eq_nil_of_le Om] at hf
  cases hf
 |succ e ih =>
  intro i h0 hd hf k hk
  obtain⟨k,rfl⟩:∃ j,k=j+1:=⟨k-1,by omega⟩
  have hlt:i<(bs.length:Int):=by omega
  have hw:wrap64 (i+1)=i+1:=Yw
  have hmem:rd bs i∈bs:=by
   have h1:i.toNat<bs.length:=by omega
   unfold rd
   rw[List.getD_eq_getElem?_getD,List.getElem?_eq_getElem h1]
   exact List.getElem_mem h1
  obtain⟨⟨b0,b1⟩,b2⟩:=hbs _ hmem
  have q1:out.length<17592186044416:=by omega
  rw[Zo 0 bs i h0 hlt,show bs.getD i.toNat 0=rd bs i from rfl,List.find?_cons] at hf
  simp only[impl_WayTo.l1,if_pos hlt,if_pos h0,if_pos b0,if_pos b1,if_pos hn0.1,if_pos hn0.2,if_pos q1,hw]
  by_cases e2:rd d (rd bs i)=m
  ·have:(rd d (rd bs i)==m)=true:=by simp[e2]
   rw[this] at hf
   simp only[Option.some.injEq] at hf
   rw[if_pos Om,hf]
   exact hr k Om
  ·have:(rd d (rd bs i)==m)=false:=by simp[e2]
   rw[this] at hf
   rw[if_neg Om]
   exact ih (i+1) Om Om hf k Om
theorem Zjb {W H:Int} {xs d:List Int} (b now m:Int) (out bs:List Int) (hout:out.length<=1000) (hout0:1<=out.length) (hlast:rd out ((out.length:Int)-1)=now) (hb4:bs.length<=4) (hn0:0<=now/\now<(d.length:Int)) (hm:rd d now=m+1) (hmb:0<=m/\m<=1000) (hbs:∀ c∈bs,0<=c/\c<(d.length:Int)) (c:Int) (hc:bs.find? (fun c=>rd d c==m)=some c) (K:Nat) (r:List Int) (hr:∀ k,K<k->Yo.l0 k c b (out++[c]) d W H xs=some r) :
  ∀ (e:Nat) (cur:Int),e<=bs.length->cur=((bs.drop e).find? (fun c=>rd d c==m)).getD now->∀ k,K+e+1<k->Yo.l1 k cur b out d bs ((e:Int)-1) W H xs=some r:=by
 have q1:out.length<17592186044416:=by omega
 intro e
 induction e with
 |zero =>
  intro cur he hcur k hk
  obtain⟨k,rfl⟩:∃ j,k=j+1:=⟨k-1,by omega⟩
  rw[List.drop_zero,hc] at hcur
  have hcur2:cur=c:=hcur
  have hlt:¬ ((0:Nat):Int)-1>=0:=by omega
  rw[Yo.l1,if_neg hlt,if_pos q1,hcur2]
  exact hr k Om
 |succ e ih =>
  intro cur he hcur k hk
  obtain⟨k,rfl⟩:∃ j,k=j+1:=⟨k-1,by omega⟩
  have ee:((e+1:Nat):Int)-1=(e:Int):=by omega
  rw[ee]
  have h0:(e:Int)>=0:=by omega
  have h0':0<=(e:Int):=by omega
  have hlt:(e:Int)<(bs.length:Int):=by omega
  have hw:wrap64 ((e:Int)-1)=(e:Int)-1:=Yw
  have hw2:wrap64 ((out.length:Int)-1)=(out.length:Int)-1:=Yw
  have hw3:wrap64 (rd d now-1)=m:=Yw
  have hmem:rd bs (e:Int)∈bs:=by
   have h1:((e:Int)).toNat<bs.length:=by omega
   unfold rd
   rw[List.getD_eq_getElem?_getD,List.getElem?_eq_getElem h1]
   exact List.getElem_mem h1
  obtain⟨b0,b1⟩:=hbs _ hmem
  have l0:0<=(out.length:Int)-1:=by omega
  have l1:(out.length:Int)-1<(out.length:Int):=by omega
  have hdrop:((bs.drop e).find? (fun c=>rd d c==m))=if rd d (rd bs (e:Int))=m then some (rd bs (e:Int)) else(bs.drop (e+1)).find? (fun c=>rd d c==m):=by
   have:=Zo 0 bs (e:Int) Om hlt
   rw[show ((e:Int)).toNat=e by omega,show ((e:Int)+1).toNat=e+1 by omega] at this
   rw[this,List.find?_cons,show bs.getD e 0=rd bs (e:Int) from rfl]
   by_cases e2:rd d (rd bs (e:Int))=m
   ·simp[e2]
   ·have e3:(rd d (rd bs (e:Int))==m)=false:=by simp[e2]
    rw[e3,if_neg e2]
  simp only[Yo.l1,if_pos h0,if_pos h0',if_pos hlt,if_pos b0,if_pos b1,hw2,if_pos l0,if_pos l1,hlast,if_pos hn0.1,if_pos hn0.2,hw3,hw]
  by_cases e2:rd d (rd bs (e:Int))=m
  ·rw[if_pos e2]
   exact ih _ Om (by rw[hdrop,if_pos e2];rfl) k Om
  ·rw[if_neg e2]
   exact ih _ Om (by rw[hdrop,if_neg e2];exact hcur) k Om
theorem Zub {W H b:Int} {xs:List Int} (L:LandOk W H xs) (hb:opn xs b=true):∀ (m:Nat) (now:Int) (init:List Int),opn xs now=true->rd (Zb W xs b) now=(m:Int)->init.length+m<=200 ->
  ∀ k,200+10 * m<k->impl_WayTo.l0 k b (Zb W xs b) (init++[now]) now W H xs=some (init++ZK W xs (Zb W xs b) m now)/\Yo.l0 k now b (init++[now]) (Zb W xs b) W H xs=some (init++ZK W xs (Zb W xs b) m now):=by
 have B:=Zl L (Za hb)
 intro m
 induction m with
 |zero =>
  intro now init hn hm hl k hk
  obtain⟨k,rfl⟩:∃ j,k=j+1:=⟨k-1,by omega⟩
  have e:now=b:=B.zero now (Za hn).1 (Za hn).2 Om
  rw[impl_WayTo.l0,Yo.l0,if_pos e,if_pos e]
  exact⟨rfl,rfl⟩
 |succ m ih =>
  intro now init hn hm hl k hk
  obtain⟨k,rfl⟩:∃ j,k=j+1:=⟨k-1,by omega⟩
  have hm':rd (Zb W xs b) now=(m:Int)+1:=by omega
  obtain⟨c,c1,c2,c3,c4,c5⟩:=Zia L hb hn m hm'
  have hne:¬ now=b:=fun e=>by rw[e,B.src0] at hm;omega
  have hsub:=ZM L hb hn Om
  have hlen:=B.len
  have hnr:=Za hn
  have h4:=ZP W now xs
  have ihc:=fun k hk=>ih c (init++[now]) c4 c5 (by simp only[List.length_append,List.length_cons,List.length_nil];omega) k hk
  rw[ZK,c2]
  rw[show init++now :: ZK W xs (Zb W xs b) m c=(init++[now])++ZK W xs (Zb W xs b) m c by simp]
  constructor
  ·rw[impl_WayTo.l0,if_neg hne,Zha L now hnr k Om,Ob]
   exact ZJb b now (m:Int) (init++[now]) (Zc W xs now) (by simp only[List.length_append,List.length_cons,List.length_nil];omega) h4 ⟨hnr.1,by rw[hlen];exact hnr.2⟩ hm' (fun x hx=>⟨⟨(Za (hsub x hx).1).1,by rw[hlen];exact(Za (hsub x hx).1).2⟩,by have:=(hsub x hx).2.1;omega⟩) c (200+10 * m) _ (fun k hk=>(ihc k hk).1) (Zc W xs now).length 0 Om Om (by rw[Int.toNat_zero,List.drop_zero];exact c1) k Om
  ·rw[Yo.l0,if_neg hne,ZR L now hnr k Om,Ob,show wrap64 (((Zc W xs now).length:Int)-1)=((Zc W xs now).length:Int)-1 by unfold wrap64;omega]
   exact Zjb b now (m:Int) (init++[now]) (Zc W xs now) (by simp only[List.length_append,List.length_cons,List.length_nil];omega) (by simp) (by simp[rd]) h4 ⟨hnr.1,by rw[hlen];exact hnr.2⟩ hm' ⟨by omega,by omega⟩ (fun x hx=>⟨(Za (hsub x hx).1).1,by rw[hlen];exact(Za (hsub x hx).1).2⟩) c c1 (200+10 * m) _ (fun k hk=>(ihc k hk).2) (Zc W xs now).length now Om (by simp) k Om
def ZD (W:Int) (xs:List Int) (a b:Int):List Int:=if (opn xs a=true/\opn xs b=true)/\0<=rd (Zb W xs a) b then ZK W xs (Zb W xs b) (rd (Zb W xs b) a).toNat a else []
theorem Zbb {W H a b:Int} {xs:List Int} (L:LandOk W H xs) (ha:opn xs a=true) (hb:opn xs b=true):∀ (m:Nat) (v:Int),opn xs v=true->rd (Zb W xs a) v=(m:Int)->0<=rd (Zb W xs b) v->0<=rd (Zb W xs b) a:=by
 intro m
 induction m with
 |zero =>
  intro v hv hm h
  rw[<-(Zl L (Za ha)).zero v (Za hv).1 (Za hv).2 Om]
  exact h
 |succ m ih =>
  intro v hv hm h
  obtain⟨c,c1,c2,c3,c4,c5⟩:=Zia L ha hv m Om
  exact ih c c4 c5 ((ZM L hb hv h c c3).2.2)
theorem ZS {W H a b:Int} {xs:List Int} (L:LandOk W H xs) (ha:opn xs a=true) (hb:opn xs b=true) (h:0<=rd (Zb W xs a) b):0<=rd (Zb W xs b) a:=by
 refine Zbb L ha hb (rd (Zb W xs a) b).toNat b hb Om ?_
 rw[(Zl L (Za hb)).src0];omega
theorem ZIa {W H:Int} {xs:List Int} (L:LandOk W H xs) (a b:Int) (k:Nat) (hk:1000<k):impl_WayTo.f k W H xs a b=some (ZD W xs a b)/\Yo.f k W H xs a b=some (ZD W xs a b):=by
 obtain⟨d1,d2⟩:=Z1a L a b k hk
 unfold impl_WayTo.f Yo.f ZD
 rw[d1,d2]
 by_cases h:opn xs a=true/\opn xs b=true
 ·simp only[Ob,if_pos h]
  by_cases h0:0<=rd (Zb W xs a) b
  ·have h1:¬ rd (Zb W xs a) b<0:=by omega
   have h2:=ZS L h.1 h.2 h0
   have h3:=ZLa L (Za h.2) a (Za h.1).1
   have q:([]:List Int).length<17592186044416:=by simp
   obtain⟨w1,w2⟩:=Zub L h.2 (rd (Zb W xs b) a).toNat a [] h.1 Om (by simp only[List.length_nil];omega) k Om
   rw[if_neg h1,if_neg h1,(ZG L b h.2 k hk).1,(ZG L b h.2 k hk).2,Ob,Ob,if_pos q,if_pos ⟨h,h0⟩]
   exact⟨w1,w2⟩
  ·have h1:rd (Zb W xs a) b<0:=by omega
   rw[if_pos h1,if_pos h1,if_neg (fun h2=>h0 h2.2)]
   exact⟨rfl,rfl⟩
 ·simp only[Ob,if_neg h]
  have h1:(-1:Int)<0:=by omega
  rw[if_pos h1,if_pos h1,if_neg (fun h2=>h h2.1)]
  exact⟨rfl,rfl⟩
theorem ZNa {W H:Int} {xs:List Int} (a b:Int) (k:Nat) (h:impl_IsLand.f k W H xs=some false/\spec_IsLand.f k W H xs=some false):impl_WayTo.f k W H xs a b=some []/\Yo.f k W H xs a b=some []:=by
 obtain⟨o1,o2⟩:=ZC a k h
 unfold impl_WayTo.f Yo.f impl_Days.f Yg.f
 rw[o1,o2]
 simp only[Ob,Bool.false_eq_true,if_false]
 have h1:(-1:Int)<0:=by omega
 rw[if_pos h1,if_pos h1]
 exact⟨rfl,rfl⟩
theorem Zja {W H a b:Int} {xs:List Int} (L:LandOk W H xs):(ZD W xs a b).length<=64:=by
 unfold ZD
 split
 ·rename_i h
  have:=ZLa L (Za h.1.2) a (Za h.1.1).1
  rw[Z4];omega
 ·simp
theorem Z2 (l:List Bool) (hl:l.length<=1048576):∀ (e:Nat) (i a:Int),0<=i->(l.length:Int)-i=e->0<=a->a<=i->∃ c,∀ k,e<k->impl_CountStorms.l0 k a l (l.length:Int) i=some c/\spec_CountStorms.l0 k l a i=some c:=by
 intro e
 induction e with
 |zero =>
  intro i a h0 hd _ _
  have hlt:¬ i<(l.length:Int):=by omega
  refine⟨a,fun k hk=>?_⟩
  obtain⟨k,rfl⟩:∃ j,k=j+1:=⟨k-1,by omega⟩
  rw[impl_CountStorms.l0,spec_CountStorms.l0,if_neg hlt,if_neg hlt]
  exact⟨rfl,rfl⟩
 |succ e ih =>
  intro i a h0 hd h1 h2
  have hlt:i<(l.length:Int):=by omega
  have hw:wrap64 (i+1)=i+1:=Yw
  have hw2:wrap64 (a+1)=a+1:=Yw
  by_cases c:rdOf false l i=true
  ·obtain⟨v,hv⟩:=ih (i+1) (a+1) Om Om Om Om
   refine⟨v,fun k hk=>?_⟩
   obtain⟨k,rfl⟩:∃ j,k=j+1:=⟨k-1,by omega⟩
   rw[impl_CountStorms.l0,spec_CountStorms.l0,if_pos hlt,if_pos hlt,if_pos h0,if_pos h0,if_pos hlt,if_pos c,if_pos c,hw,hw2]
   exact hv k Om
  ·obtain⟨v,hv⟩:=ih (i+1) a Om Om Om Om
   refine⟨v,fun k hk=>?_⟩
   obtain⟨k,rfl⟩:∃ j,k=j+1:=⟨k-1,by omega⟩
   rw[impl_CountStorms.l0,spec_CountStorms.l0,if_pos hlt,if_pos hlt,if_pos h0,if_pos h0,if_pos hlt,if_neg c,if_neg c,hw]
   exact hv k Om
theorem Zca (l:List Bool) (hl:l.length<=1048576):∃ c,∀ k,l.length<k->impl_CountStorms.f k l=some c/\spec_CountStorms.f k l=some c:=by
 obtain⟨c,h⟩:=Z2 l hl l.length 0 0 Om Om Om Om
 exact⟨c,h⟩
def ZQ (M W:Int):Bool:=decide (1<=W/\W<=10) && decide (0<=M/\M<=W-1)
theorem Zra (M W:Int):impl_IsRule.f M W=some (ZQ M W)/\spec_IsRule.f M W=some (ZQ M W):=by
 unfold impl_IsRule.f spec_IsRule.f ZQ
 rw[Ze,Zh]
 by_cases h:1<=W/\W<=10
 ·have e:wrap64 (W-1)=W-1:=Yw
  simp only[h,and_self,decide_true,Ob,if_true,Ze,Zh,e,Bool.true_and]
 ·simp only[h,decide_false,Ob,Bool.false_eq_true,if_false,Bool.false_and,and_self]
theorem ZW (M W:Int) (l:List Bool) (hl:l.length<=1048576):∃ s,∀ k,l.length<k->impl_MayStorm.f k M W l=some s/\spec_MayStorm.f k M W l=some s:=by
 obtain⟨r1,r2⟩:=Zra M W
 by_cases h:ZQ M W=true
 ·have hW:1<=W/\W<=10:=by
   unfold ZQ at h
   rw[Bool.and_eq_true,decide_eq_true_eq] at h
   exact h.1
  obtain⟨t,ht⟩:∃ t,t=mx ((l.length:Int)-(W-1)) 0:=⟨_,rfl⟩
  have ht0:0<=t/\t<=(l.length:Int):=by rw[ht];unfold mx;split <;> omega
  obtain⟨c,hc⟩:=Zca (l.drop t.toNat) (by rw[List.length_drop];omega)
  have e1:wrap64 (W-1)=W-1:=Yw
  have e2:wrap64 ((l.length:Int)-(W-1))=(l.length:Int)-(W-1):=Yw
  have e3:wrap64 ((l.length:Int)+1)=(l.length:Int)+1:=Yw
  have e4:wrap64 ((l.length:Int)+1-W)=(l.length:Int)+1-W:=Yw
  have e5:spec_Max.f 0 ((l.length:Int)+1-W)=some t:=by
   unfold spec_Max.f;rw[ht];unfold mx
   split <;> split <;> first|rfl|(congr 1;omega)|(exfalso;omega)
  refine⟨decide (c<M),fun k hk=>?_⟩
  obtain⟨c1,c2⟩:=hc k (by rw[List.length_drop];omega)
  unfold impl_MayStorm.f spec_MayStorm.f impl_last.f
  rw[r1,r2]
  simp only[h,Ob,if_true,e1,e2,e3,e4,e5,<-ht,if_pos ht0.1,if_pos ht0.2,c1,c2,and_self]
 ·refine⟨false,fun k hk=>?_⟩
  unfold impl_MayStorm.f spec_MayStorm.f
  rw[r1,r2]
  simp only[h,Ob,Bool.false_eq_true,if_false,and_self]
def Zg (l:List Bool) (s:Bool):List Bool:=(l++[s]).drop (l.length+1-10)
theorem Zt (l:List Bool) (s:Bool):(Zg l s).length<=10:=by
 unfold Zg;simp;omega
theorem Zma (l:List Bool) (s:Bool) (hl:l.length<=1048576):impl_AddDay.f l s=some (Zg l s)/\Yc.f l s=some (Zg l s):=by
 have e1:([]:List Bool).length+l.length<140737488355328:=by simp;omega
 have e2:l.length<140737488355328:=by omega
 have e3:((l++[s]:List Bool).length:Int)=(l.length:Int)+1:=by simp
 have e4:wrap64 ((l.length:Int)+1-10)=(l.length:Int)+1-10:=Yw
 obtain⟨t,ht⟩:∃ t,t=mx ((l.length:Int)+1-10) 0:=⟨_,rfl⟩
 have ht0:0<=t/\t<=(l.length:Int)+1/\t.toNat=l.length+1-10:=by rw[ht];unfold mx;split <;> omega
 have e5:spec_Max.f 0 ((l.length:Int)+1-10)=some t:=by
  unfold spec_Max.f;rw[ht];unfold mx
  split <;> split <;> first|rfl|(congr 1;omega)|(exfalso;omega)
 have e6:([]:List Bool).length+((l++[s]:List Bool).drop t.toNat).length<140737488355328:=by
  rw[List.length_drop];simp;omega
 rw[ht0.2.2] at e6
 unfold impl_AddDay.f Yc.f impl_last.f Zg
 simp only[List.nil_append,Ob,if_pos e1,if_pos e2,e3,e4,<-ht,e5,if_pos ht0.1,if_pos ht0.2.1,if_pos e6,if_pos ht0.2.1,if_pos e6,ht0.2.2,and_self]
theorem ZUa (l:List S106) (hl:l.length<=1048576) (c:Int):∀ (e:Nat) (i:Int),0<=i->(l.length:Int)-i=e->∃ n,∀ k,e<k->impl_FoodAt.l0 k c l (l.length:Int) i=some n/\spec_FoodAt.l0 k l c i=some n:=by
 intro e
 induction e with
 |zero =>
  intro i h0 hd
  have hlt:¬ i<(l.length:Int):=by omega
  refine⟨0,fun k hk=>?_⟩
  obtain⟨k,rfl⟩:∃ j,k=j+1:=⟨k-1,by omega⟩
  rw[impl_FoodAt.l0,spec_FoodAt.l0,if_neg hlt,if_neg hlt]
  exact⟨rfl,rfl⟩
 |succ e ih =>
  intro i h0 hd
  have hlt:i<(l.length:Int):=by omega
  have hw:wrap64 (i+1)=i+1:=Yw
  by_cases q:(rd_T106 l i).f0=c
  ·refine⟨(rd_T106 l i).f1,fun k hk=>?_⟩
   obtain⟨k,rfl⟩:∃ j,k=j+1:=⟨k-1,by omega⟩
   rw[impl_FoodAt.l0,spec_FoodAt.l0,if_pos hlt,if_pos hlt,if_pos h0,if_pos h0,if_pos hlt,if_pos q,if_pos q]
   exact⟨rfl,rfl⟩
  ·obtain⟨v,hv⟩:=ih (i+1) Om Om
   refine⟨v,fun k hk=>?_⟩
   obtain⟨k,rfl⟩:∃ j,k=j+1:=⟨k-1,by omega⟩
   rw[impl_FoodAt.l0,spec_FoodAt.l0,if_pos hlt,if_pos hlt,if_pos h0,if_pos h0,if_pos hlt,if_neg q,if_neg q,hw]
   exact hv k Om
theorem Zna (l:List S106) (hl:l.length<=1048576) (c:Int):∃ n,∀ k,l.length<k->impl_FoodAt.f k l c=some n/\spec_FoodAt.f k l c=some n:=by
 obtain⟨n,h⟩:=ZUa l hl c l.length 0 Om Om
 exact⟨n,h⟩
theorem ZGb (a b:Int) (l:List S69) (h:List Bool) (hl:l.length<=1048576) (hh:h.length<=1048576) (hb:0<=b/\b<=1000000000) (hc:∀ k,l.length<k->impl_AreCrew.f k l=some true):∃ b' o,(o=true->0<=b'/\b'+1<=b)/\∀ k,2 * l.length+3<k->impl_Eat.f k a b l h=some (a,b',l,h,o)/\Yh.f k a b l h=some (a,b',l,h,o):=by
 obtain⟨c,N,hcc,ht,hz,hneed⟩:=Zpa l hl
 obtain⟨c1,c2⟩:=Zq a b l h hl hh
 cases c with
 |true =>
  obtain⟨_,_,_,_,hN1,hN2⟩:=ht rfl
  have hNz:¬ N=0:=by omega
  by_cases hb:b<N
  ·refine⟨b,false,fun e=>(by cases e),fun k hk=>?_⟩
   unfold impl_Eat.f Yh.f
   simp only[c1,c2,Ob,(hcc k Om).1,(hneed k hk).1,(hneed k hk).2,if_true,if_neg hNz,if_pos hb,and_self]
  ·have hw:wrap64 (b-N)=b-N:=Yw
   refine⟨b-N,true,fun _=>by omega,fun k hk=>?_⟩
   unfold impl_Eat.f Yh.f
   simp only[c1,c2,Ob,(hcc k Om).1,(hneed k hk).1,(hneed k hk).2,if_true,if_neg hNz,if_neg hb,hw,and_self]
 |false =>
  have h1:=(hcc (l.length+1) Om).1
  rw[hc (l.length+1) Om] at h1
  cases h1
theorem ZN (a b n:Int) (l:List S69) (h:List Bool) (hl:l.length<=1048576) (hh:h.length<=1048576) (hb0:0<=b/\b<=1000000000):∃ b' o,(b<=b'/\b'<=b+800)/\∀ k,3 * l.length+3<k->impl_PickUp.f k a b l h n=some (a,b',l,h,o)/\Ym.f k a b l h n=some (a,b',l,h,o):=by
 have hb:wrap64 b=b:=Yw
 obtain⟨C,hC,hcap⟩:=Z8a l hl
 obtain⟨c1,c2⟩:=Zq a b l h hl hh
 obtain⟨R,hR,hroom⟩:∃ R,(0<=R/\R<=800)/\∀ k,3 * l.length+3<k->impl_RoomFor.f k a b l h=some R/\Yn.f k a b l h=some R:=by
  have h1:¬ b<0:=by omega
  by_cases h2:b>=C
  ·refine⟨0,by omega,fun k hk=>?_⟩
   unfold impl_RoomFor.f Yn.f
   simp only[(hcap k hk).1,(hcap k hk).2,Ob,if_neg h1,if_pos h2,and_self]
  ·refine⟨wrap64 (C-b),by unfold wrap64;omega,fun k hk=>?_⟩
   unfold impl_RoomFor.f Yn.f
   simp only[(hcap k hk).1,(hcap k hk).2,Ob,if_neg h1,if_neg h2,and_self]
 have hmax:∀ x,spec_Max.f 0 x=some (mx 0 x):=fun x=>by
  unfold spec_Max.f mx;split <;> rfl
 by_cases hn:n<0
 ·refine⟨b,0,by omega,fun k hk=>?_⟩
  have e:mx 0 (mn n R)=0:=by unfold mx mn;split <;> split <;> omega
  unfold impl_PickUp.f Ym.f
  simp only[c1,c2,Ob,if_pos hn,(hroom k hk).2,Z6,hmax,e,Int.add_zero,hb,and_self]
 ·have e0:0<=mn n R/\mn n R<=800:=by unfold mn;split <;> omega
  refine⟨wrap64 (b+mn n R),mn n R,by unfold wrap64;omega,fun k hk=>?_⟩
  have e:mx 0 (mn n R)=mn n R:=by unfold mx mn;split <;> split <;> omega
  unfold impl_PickUp.f Ym.f
  simp only[c1,c2,Ob,if_neg hn,(hroom k hk).1,(hroom k hk).2,Z6,hmax,e,and_self]
theorem Z3a (ws:List Int) (hws:ws.length<=64) (ds:List S106) (hds:ds.length<=20) (M W:Int) (l:List S69) (hl:l.length<=8) (hc:∀ k,l.length<k->impl_AreCrew.f k l=some true) :
  ∀ (F:Nat) (i at_ b:Int) (h days:List Bool),0<=i->i<64->h.length<=10->0<=b->(64-i) * 30000+b+1<=(F:Int)->F<=1000000000->days.length+F<=2000000000 ->
  ∃ v ok ys,(ok=true->0<=v)/\(∀ k,100+F<k->impl_worst.l0 k ws ds days i M W at_ b l h=some (v,ys,ok))/\(∀ k,100+F<k->Yp.l0 k ds ws (i+1) M W at_ b l h=some (if ok=true then v else -1)):=by
 intro F
 induction F with
 |zero=>intro i at_ b h days h0 h1 hh hb hF _ _;omega
 |succ F ih =>
  intro i at_ b h days h0 h1 hh hb hF hF2 hdays
  have hw:wrap64 (i+1)=i+1:=Yw
  by_cases hlt:i+1<(ws.length:Int)
  ·obtain⟨b',o,ho,he⟩:=ZGb at_ b l h Om Om ⟨hb,by omega⟩ hc
   cases o with
   |false =>
    refine⟨0,false,days,fun e=>(by cases e),fun k hk=>?_,fun k hk=>?_⟩
    ·obtain⟨k,rfl⟩:∃ j,k=j+1:=⟨k-1,by omega⟩
     simp only[impl_worst.l0,hw,if_pos hlt,(he k Om).1,Ob,Bool.false_eq_true,if_false]
    ·obtain⟨k,rfl⟩:∃ j,k=j+1:=⟨k-1,by omega⟩
     simp only[Yp.l0,if_pos hlt,(he k Om).2,Ob,Bool.false_eq_true,if_false]
   |true =>
    obtain⟨hb'0,hb'1⟩:=ho rfl
    obtain⟨s,hs⟩:=ZW M W h Om
    obtain⟨a1,a2⟩:=Zma h s Om
    have q1:days.length<140737488355328:=by omega
    cases s with
    |true =>
     obtain⟨v,ok,ys,hv,i1,i2⟩:=ih i at_ b' (Zg h true) (days++[true]) h0 h1 (Zt h true) hb'0 Om Om (by simp only[List.length_append,List.length_cons,List.length_nil];omega)
     refine⟨v,ok,ys,hv,fun k hk=>?_,fun k hk=>?_⟩
     ·obtain⟨k,rfl⟩:∃ j,k=j+1:=⟨k-1,by omega⟩
      simp only[impl_worst.l0,hw,if_pos hlt,(he k Om).1,Ob,if_true,(hs k Om).1,a1,if_pos q1]
      exact i1 k Om
     ·obtain⟨k,rfl⟩:∃ j,k=j+1:=⟨k-1,by omega⟩
      simp only[Yp.l0,if_pos hlt,(he k Om).2,Ob,if_true,(hs k Om).2,a2]
      exact i2 k Om
    |false =>
     obtain⟨n,hn⟩:=Zna ds Om (rd ws (i+1))
     have hi0:0<=i+1:=by omega
     have hw2:wrap64 (i+1+1)=i+1+1:=Yw
     obtain⟨b1,o1,hb1,hp1⟩:=ZN (rd ws (i+1)) b' n l h Om Om ⟨hb'0,by omega⟩
     obtain⟨b2,o2,hb2,hp2⟩:=ZN (rd ws (i+1)) b' n l (Zg h false) Om (by have:=Zt h false;omega) ⟨hb'0,by omega⟩
     have hbe:b1=b2:=by
      have x1:=(hp1 (3 * l.length+4) Om).1
      have x2:=(hp2 (3 * l.length+4) Om).1
      obtain⟨y1,_⟩:=Zq (rd ws (i+1)) b' l h Om Om
      obtain⟨y2,_⟩:=Zq (rd ws (i+1)) b' l (Zg h false) Om (by have:=Zt h false;omega)
      unfold impl_PickUp.f at x1 x2
      rw[y1] at x1
      rw[y2] at x2
      have hroomEq:impl_RoomFor.f (3 * l.length+4) (rd ws (i+1)) b' l h=impl_RoomFor.f (3 * l.length+4) (rd ws (i+1)) b' l (Zg h false):=rfl
      simp only[Ob] at x1 x2
      rw[hroomEq] at x1
      by_cases hn0:n<0
      ·rw[if_pos hn0] at x1 x2
       simp only[Option.some.injEq,Prod.mk.injEq] at x1 x2
       omega
      ·rw[if_neg hn0] at x1 x2
       cases hq:impl_RoomFor.f (3 * l.length+4) (rd ws (i+1)) b' l (Zg h false) with
       |none=>rw[hq] at x1;cases x1
       |some z =>
        rw[hq] at x1 x2
        simp only[Ob,Option.some.injEq,Prod.mk.injEq] at x1 x2
        omega
     have hb1':0<=b1:=by omega
     have hdays2:(days++[false]).length+F<=2000000000:=by rw[List.length_append];simp only[List.length_cons,List.length_nil];omega
     obtain⟨v,ok,ys,hv,i1,i2⟩:=ih (i+1) (rd ws (i+1)) b1 (Zg h false) (days++[false]) hi0 Om (Zt h false) hb1' Om Om hdays2
     refine⟨v,ok,ys,hv,fun k hk=>?_,fun k hk=>?_⟩
     ·obtain⟨k,rfl⟩:∃ j,k=j+1:=⟨k-1,by omega⟩
      simp only[impl_worst.l0,hw,if_pos hlt,(he k Om).1,Ob,if_true,(hs k Om).1,Bool.false_eq_true,if_false,if_pos hi0,(hn k Om).1,(hp1 k Om).1,a1,if_pos q1]
      exact i1 k Om
     ·obtain⟨k,rfl⟩:∃ j,k=j+1:=⟨k-1,by omega⟩
      simp only[Yp.l0,if_pos hlt,(he k Om).2,Ob,if_true,(hs k Om).2,a2,Bool.false_eq_true,if_false,if_pos hi0,(hn k Om).2,(hp2 k Om).2,hw2,<-hbe]
      exact i2 k Om
  ·refine⟨b,true,days,fun _=>hb,fun k hk=>?_,fun k hk=>?_⟩
   ·obtain⟨k,rfl⟩:∃ j,k=j+1:=⟨k-1,by omega⟩
    simp only[impl_worst.l0,hw,if_neg hlt]
   ·obtain⟨k,rfl⟩:∃ j,k=j+1:=⟨k-1,by omega⟩
    simp only[Yp.l0,if_neg hlt,if_true]
structure LandEv (W H:Int) (xs:List Int) (K:Nat) (lb:Bool) (oc:Int->Bool):Prop where
 land:∀ k,K<k->impl_IsLand.f k W H xs=some lb/\spec_IsLand.f k W H xs=some lb
 open_:∀ m k,K<k->impl_IsOpen.f k W H xs m=some (oc m)/\spec_IsOpen.f k W H xs m=some (oc m)
def okD (oc:Int->Bool) (ds:List S106) (i:Int):Prop:=(oc (rd_T106 ds i).f0=true/\1<=(rd_T106 ds i).f1/\(rd_T106 ds i).f1<=10000)/\(i>0->(rd_T106 ds (i-1)).f0<(rd_T106 ds i).f0)
theorem ZE {W H:Int} {xs:List Int} {K:Nat} {lb:Bool} {oc:Int->Bool} (E:LandEv W H xs K lb oc) (ds:List S106) (hds:ds.length<=1048576):∀ (e:Nat) (i:Int),0<=i->(ds.length:Int)-i=e ->
  ∃ b,(b=true->ds.length<=20/\∀ j,i<=j->j<(ds.length:Int)->okD oc ds j)/\∀ k,K+e+1<k->impl_AreDepots.l0 k ds ds (ds.length:Int) i W H xs=some b/\spec_AreDepots.l0 k ds i W H xs=some b:=by
 intro e
 induction e with
 |zero =>
  intro i h0 hd
  have hlt:¬ i<(ds.length:Int):=by omega
  cases lb with
  |false =>
   refine⟨false,fun h=>(by cases h),fun k hk=>?_⟩
   obtain⟨k,rfl⟩:∃ j,k=j+1:=⟨k-1,by omega⟩
   simp only[impl_AreDepots.l0,spec_AreDepots.l0,if_neg hlt]
   obtain⟨e1,e2⟩:=E.land (k+1) Om
   by_cases hk2:K<k
   ·simp only[(E.land k hk2).1,(E.land k hk2).2,Ob,Bool.false_eq_true,if_false,and_self]
   ·exfalso;omega
  |true =>
   refine⟨decide ((ds.length:Int)<=20),fun h=>⟨by have:=of_decide_eq_true h;omega,fun j h1 h2=>by omega⟩,fun k hk=>?_⟩
   obtain⟨k,rfl⟩:∃ j,k=j+1:=⟨k-1,by omega⟩
   by_cases hk2:K<k
   ·simp only[impl_AreDepots.l0,spec_AreDepots.l0,if_neg hlt,(E.land k hk2).1,(E.land k hk2).2,Ob,if_true,and_self]
   ·exfalso;omega
 |succ e ih =>
  intro i h0 hd
  have hlt:i<(ds.length:Int):=by omega
  obtain⟨b,hb,hp⟩:=ih (i+1) Om Om
  have hw:wrap64 (i-1)=i-1:=Yw
  have hw2:wrap64 (i+1)=i+1:=Yw
  by_cases ok:(oc (rd_T106 ds i).f0=true/\1<=(rd_T106 ds i).f1/\(rd_T106 ds i).f1<=10000)/\(i>0->(rd_T106 ds (i-1)).f0<(rd_T106 ds i).f0)
  ·refine⟨b,fun e_=>⟨(hb e_).1,fun j h1 h2=>by
    by_cases hj:j=i
    ·rw[hj];exact ok
    ·exact(hb e_).2 j Om h2⟩,fun k hk=>?_⟩
   obtain⟨k,rfl⟩:∃ j,k=j+1:=⟨k-1,by omega⟩
   obtain⟨b1,b2⟩:=hp k Om
   obtain⟨o1,o2⟩:=E.open_ (rd_T106 ds i).f0 k Om
   have e2:1<=(rd_T106 ds i).f1/\(rd_T106 ds i).f1<=10000:=ok.1.2
   simp only[impl_AreDepots.l0,spec_AreDepots.l0,if_pos hlt,if_pos h0,o1,o2,ok.1.1,Zh,Ze,Ob,decide_eq_true_eq,if_true,if_pos e2,hw,hw2]
   by_cases hi:i>0
   ·have h1:0<=i-1:=by omega
    have h2:i-1<(ds.length:Int):=by omega
    have h3:=ok.2 hi
    have h4:¬ (rd_T106 ds i).f0<=(rd_T106 ds (i-1)).f0:=by omega
    have h5:¬ (rd_T106 ds (i-1)).f0>=(rd_T106 ds i).f0:=by omega
    simp only[if_pos hi,if_pos h1,if_pos h2,if_neg h4,if_neg h5]
    exact⟨b1,b2⟩
   ·simp only[if_neg hi]
    exact⟨b1,b2⟩
  ·refine⟨false,fun h=>(by cases h),fun k hk=>?_⟩
   obtain⟨k,rfl⟩:∃ j,k=j+1:=⟨k-1,by omega⟩
   obtain⟨o1,o2⟩:=E.open_ (rd_T106 ds i).f0 k Om
   simp only[impl_AreDepots.l0,spec_AreDepots.l0,if_pos hlt,if_pos h0,o1,o2,Zh,Ze,Ob,decide_eq_true_eq,hw]
   by_cases c1:oc (rd_T106 ds i).f0=true
   ·have ok':¬ ((1<=(rd_T106 ds i).f1/\(rd_T106 ds i).f1<=10000)/\(i>0->(rd_T106 ds (i-1)).f0<(rd_T106 ds i).f0)):=fun h=>ok ⟨⟨c1,h.1⟩,h.2⟩
    simp only[c1,if_true]
    constructor
    ·repeat' split
     all_goals first|rfl|(exfalso;omega)
    ·repeat' split
     all_goals first|rfl|(exfalso;omega)
   ·simp only[c1,Bool.false_eq_true,if_false,and_self]
theorem Znb {W H:Int} {xs:List Int} {K:Nat} {lb:Bool} {oc:Int->Bool} (E:LandEv W H xs K lb oc) (a b:Int) (l:List S69) (h:List Bool) (hl:l.length<=1048576):∃ p,(p=true->oc a=true/\l.length<=8/\(0<=b/\b<=10000)/\h.length<=10/\∀ k,l.length<k->impl_AreCrew.f k l=some true)/\∀ k,K+l.length<k->impl_IsParty.f k W H xs a b l h=some p/\Yi.f k W H xs a b l h=some p:=by
 obtain⟨c,hc,hf⟩:=ZJ l hl
 refine⟨oc a && (c && (decide (0<=b/\b<=10000) && decide ((h.length:Int)<=10))),fun e=>?_,fun k hk=>?_⟩
 ·simp only[Bool.and_eq_true,decide_eq_true_eq] at e
  obtain⟨e1,e2,e3,e4⟩:=e
  subst e2
  exact⟨e1,(hf rfl).1.2,e3,by omega,fun k hk=>(hc k hk).1⟩
 ·unfold impl_IsParty.f Yi.f
  obtain⟨o1,o2⟩:=E.open_ a k Om
  simp only[o1,o2,(hc k Om).1,(hc k Om).2,Ob,Ze,Zh]
  cases oc a <;> cases c <;> simp only[Bool.false_eq_true,if_false,if_true,Bool.false_and,Bool.true_and,and_self]
  by_cases q:0<=b/\b<=10000
  ·simp only[q,and_self,decide_true,if_true,Bool.true_and]
  ·simp only[q,decide_false,Bool.false_eq_true,if_false,Bool.false_and,and_self]
structure LandAll (W H:Int) (xs:List Int) (K:Nat) (lb:Bool) (oc:Int->Bool):Prop extends LandEv W H xs K lb oc where
 way:∀ a b,∃ ws:List Int,ws.length<=64/\∀ k,K<k->impl_WayTo.f k W H xs a b=some ws/\Yo.f k W H xs a b=some ws
 near:∀ a,∃ ns:List Int,ns.length<=4/\∀ k,K<k->impl_Near.f k W H xs a=some ns/\Zu k W H xs a=some ns
theorem Z5 (W H:Int) (xs:List Int) (hn:xs.length<=1048576):∃ lb oc,LandAll W H xs (xs.length+1000) lb oc:=by
 rcases ZL W H xs hn with L|h
 ·refine⟨true,opn xs,⟨⟨fun k hk=>L.ev k Om,fun m k hk=>Zk L m k Om⟩,fun a b=>⟨ZD W xs a b,Zja L,fun k hk=>ZIa L a b k Om⟩,fun a=>?_⟩⟩
  by_cases ha:0<=a/\a<(xs.length:Int)
  ·refine⟨Zc W xs a,ZP W a xs,fun k hk=>⟨Zha L a ha k Om,?_⟩⟩
   unfold Zu
   simp only[(Zr L a k Om).2,ha,and_self,decide_true,Ob,if_true,ZR L a ha k Om]
  ·refine⟨[],by simp,fun k hk=>ZYa a k ?_⟩
   have:=Zr L a k Om
   simp only[ha,decide_false] at this
   exact this
 ·refine⟨false,fun _=>false,⟨⟨fun k hk=>h k Om,fun m k hk=>ZC m k (h k Om)⟩,fun a b=>⟨[],by simp,fun k hk=>ZNa a b k (h k Om)⟩,fun a=>⟨[],by simp,fun k hk=>ZYa a k (Zoa a k (h k Om))⟩⟩⟩
theorem Zpb {W H:Int} {xs:List Int} {K:Nat} {lb:Bool} {oc:Int->Bool} (A:LandAll W H xs K lb oc) (base M Wi:Int) (ds:List S106) (hds:ds.length<=1048576) (a b:Int) (l:List S69) (hl:l.length<=1048576) (h:List Bool) :
  ∃ v,∀ k,K+ds.length+l.length+3000000<k->impl_LeftAtHome.f k W H xs base M Wi ds a b l h=some v/\Yp.f k W H xs base M Wi ds a b l h=some v:=by
 obtain⟨ws,hws,hway⟩:=A.way a base
 obtain⟨r1,r2⟩:=Zra M Wi
 obtain⟨d,hd,hdk⟩:=ZE A.toLandEv ds hds ds.length 0 Om Om
 obtain⟨p,hp,hpk⟩:=Znb A.toLandEv a b l h hl
 by_cases bad:ZQ M Wi=true/\d=true/\p=true
 ·obtain⟨rt,rfl,rfl⟩:=bad
  obtain⟨_,hl8,hb,hh,hc⟩:=hp rfl
  have hd20:=(hd rfl).1
  by_cases hw0:ws=[]
  ·subst hw0
   refine⟨-1,fun k hk=>?_⟩
   obtain⟨k,rfl⟩:∃ j,k=j+1:=⟨k-1,by omega⟩
   have hk0:=hdk (k+1) Om
   have hk1:=hpk (k+1) Om
   have hk2:=hway (k+1) Om
   unfold impl_LeftAtHome.f impl_home.f Yp.f impl_AreDepots.f spec_AreDepots.f
   simp only[hk0.1,hk0.2,hk1.1,hk1.2,hk2.1,hk2.2,r1,r2,rt,Ob,if_true,List.length_nil,Yp.j0]
   exact⟨rfl,rfl⟩
  ·have hwl:¬ (ws.length:Int)=0:=by
    intro e
    exact hw0 (List.eq_nil_of_length_eq_zero Om)
   obtain⟨n,hn⟩:=Zna ds hds a
   obtain⟨b',o,hb',hpu⟩:=ZN a b n l h hl Om ⟨hb.1,by omega⟩
   obtain⟨v,ok,ys,hv,w1,w2⟩:=Z3a ws hws ds hd20 M Wi l hl8 hc 2000000 0 a b' h [] Om Om hh Om Om Om (by simp)
   refine⟨if ok=true then v else -1,fun k hk=>?_⟩
   obtain⟨k,rfl⟩:∃ j,k=j+1:=⟨k-1,by omega⟩
   have hk0:=hdk (k+1) Om
   have hk1:=hpk (k+1) Om
   have hk2:=hway (k+1) Om
   have w2':=w2 k Om
   have w1':=w1 (k+1) Om
   have hbq:((ws.length:Int)==0)=false:=beq_eq_false_iff_ne.mpr hwl
   rw[show (0:Int)+1=1 from rfl] at w2'
   unfold impl_LeftAtHome.f impl_home.f Yp.f impl_AreDepots.f spec_AreDepots.f impl_worst.f
   simp only[hk0.1,hk0.2,hk1.1,hk1.2,hk2.1,hk2.2,r1,r2,rt,Ob,if_true,if_neg hwl,hbq,Yp.j0,Bool.false_eq_true,if_false,(hn (k+1) Om).1,(hn k Om).2,(hpu (k+1) Om).1,(hpu k Om).2,w1',w2',and_true]
   cases ok <;> rfl
 ·refine⟨-1,fun k hk=>?_⟩
  obtain⟨k,rfl⟩:∃ j,k=j+1:=⟨k-1,by omega⟩
  have hk0:=hdk (k+1) Om
  have hk1:=hpk (k+1) Om
  have hk2:=hway (k+1) Om
  unfold impl_LeftAtHome.f impl_home.f Yp.f impl_AreDepots.f spec_AreDepots.f
  simp only[hk0.1,hk0.2,hk1.1,hk1.2,hk2.1,hk2.2,r1,r2,Ob,Yp.j0]
  by_cases c1:ZQ M Wi=true
  ·cases d with
   |false=>simp[c1]
   |true =>
    cases p with
    |false=>simp[c1]
    |true=>exact absurd ⟨c1,rfl,rfl⟩ bad
  ·simp[c1]
theorem ZGa {W H:Int} {xs:List Int} {K:Nat} {lb:Bool} {oc:Int->Bool} (A:LandAll W H xs K lb oc) (base M Wi:Int) (ds:List S106) (hds:ds.length<=1048576) (a b:Int) (l:List S69) (hl:l.length<=1048576) (h:List Bool) :
  ∃ c,∀ k,K+ds.length+l.length+3000000<k->impl_CanReturn.f k W H xs base M Wi ds a b l h=some c/\Ye.f k W H xs base M Wi ds a b l h=some c:=by
 obtain⟨v,hv⟩:=Zpb A base M Wi ds hds a b l hl h
 refine⟨decide (v>=0),fun k hk=>?_⟩
 unfold impl_CanReturn.f Ye.f
 rw[(hv k hk).1,(hv k hk).2]
 exact⟨rfl,rfl⟩
theorem ZHa (l:List Int) (a:Int) (hn:l.length<=1048576):∀ (d k:Nat) (i:Int),0<=i->(l.length:Int)-i=d->d<k->∃ r,impl_placeOf.l0 k a l (l.length:Int) i=some r/\(decide (r>=0)=decide (a∈l.drop i.toNat)):=by
 intro d
 induction d with
 |zero =>
  intro k i h0 hd hk
  obtain⟨k,rfl⟩:=Yk k
  simp only[impl_placeOf.l0]
  rw[if_neg Om,List.drop_eq_nil_of_le Om]
  exact⟨_,rfl,by simp⟩
 |succ d ih =>
  intro k i h0 hd hk
  obtain⟨k,rfl⟩:=Yk k
  have hlt:i<(l.length:Int):=by omega
  simp only[impl_placeOf.l0]
  rw[if_pos hlt,if_pos h0,if_pos hlt,Zi (n:=l.length) h0 hlt hn,Zo 0 l i h0 hlt,show l.getD i.toNat 0=rd l i from rfl]
  by_cases e:rd l i=a
  ·rw[if_pos e];exact⟨_,rfl,by simp[e,h0]⟩
  ·rw[if_neg e]
   obtain⟨r,hr,hd'⟩:=ih k (i+1) Om Om Om
   refine⟨r,hr,?_⟩
   have e2:¬ a=rd l i:=fun h=>e h.symm
   rw[hd'];simp[e2]
theorem ZKb (l:List Int) (a:Int) (hn:l.length<=1048576) (k:Nat) (hk:l.length<k):impl_has.f k l a=some (decide (a∈l)):=by
 obtain⟨r,hr,hd⟩:=ZHa l a hn l.length k 0 Om Om hk
 unfold impl_has.f
 have h2:impl_placeOf.f k l a=some r:=hr
 rw[h2];simp only[Ob]
 rw[hd];simp
theorem Zzb (l:List S69) (hl:l.length<=1048576):∃ (N:Int) (c:Bool),(∀ k,2 * l.length+3<k->impl_NeedOf.f k l=some N)/\∀ a b h k,h.length<=1048576->2 * l.length+3<k->impl_Eat.f k a b l h=some (if (c && decide (¬ b<N))=true then(a,wrap64 (b-N),l,h,true) else(a,b,l,h,false)):=by
 obtain⟨c,N,hcc,ht,hz,hneed⟩:=Zpa l hl
 refine⟨N,c,fun k hk=>(hneed k hk).1,fun a b h k hh hk=>?_⟩
 have c1:=(Zq a b l h hl hh).1
 unfold impl_Eat.f
 simp only[c1,Ob,(hcc k Om).1,(hneed k hk).1]
 cases c with
 |false=>simp only[Bool.false_eq_true,if_false,Bool.false_and]
 |true =>
  by_cases e:b<N
  ·simp only[if_true,if_pos e,not_true_eq_false,decide_false,Bool.and_false,Bool.false_eq_true,if_false,e]
  ·simp only[if_true]
   rw[if_neg e,if_pos (by simp[e])]
structure Ev (W H:Int) (xs:List Int) (base M Wi:Int) (ds:List S106) (l:List S69) (K:Nat) (CR:Int × Int × List Bool->Bool) (ns:Int->List Int) (N:Int) (E:Int->Bool) (MS:List Bool->Bool):Prop where
 cr:∀ a b h k,K<k->impl_CanReturn.f k W H xs base M Wi ds a b l h=some (CR (a,b,h))
 near:∀ a k,K<k->impl_Near.f k W H xs a=some (ns a)
 nlen:∀ a,(ns a).length<=4
 need:∀ k,K<k->impl_NeedOf.f k l=some N
 eat:∀ a b h k,h.length<=20->K<k->impl_Eat.f k a b l h=some (if E b=true then(a,wrap64 (b-N),l,h,true) else(a,b,l,h,false))
 ms:∀ h k,h.length<=20->K<k->impl_MayStorm.f k M Wi h=some (MS h)
theorem ZFa (W H:Int) (xs:List Int) (hx:xs.length<=64) (base M Wi:Int) (ds:List S106) (hds:ds.length<=100) (l:List S69) (hl:l.length<=100):∃ CR ns N E MS,Ev W H xs base M Wi ds l 3100000 CR ns N E MS:=by
 obtain⟨lb,oc,A⟩:=Z5 W H xs Om
 obtain⟨CR,hCR⟩:=Classical.axiomOfChoice (fun p:Int × Int × List Bool=>ZGa A base M Wi ds Om p.1 p.2.1 l Om p.2.2)
 obtain⟨ns,hns⟩:=Classical.axiomOfChoice (fun a:Int=>A.near a)
 obtain⟨N,c,hN,hE⟩:=Zzb l Om
 have hms:∀ h:List Bool,∃ s,h.length<=20->∀ k,3100000<k->impl_MayStorm.f k M Wi h=some s:=by
  intro h
  by_cases e:h.length<=20
  ·obtain⟨s,hs⟩:=ZW M Wi h Om
   exact⟨s,fun _ k hk=>(hs k Om).1⟩
  ·exact⟨false,fun e2=>absurd e2 e⟩
 obtain⟨MS,hMS⟩:=Classical.axiomOfChoice hms
 exact⟨CR,ns,N,fun b=>c && decide (¬ b<N),MS,⟨fun a b h k hk=>(hCR (a,b,h) k Om).1,fun a k hk=>((hns a).2 k Om).1,fun a=>(hns a).1,fun k hk=>hN k Om,fun a b h k hh hk=>hE a b h k Om Om,fun h k hh hk=>hMS h hh k hk⟩⟩
section
variable {W H:Int} {xs:List Int} {base M Wi:Int} {ds:List S106} {l:List S69} {K:Nat} {CR:Int × Int × List Bool->Bool} {ns:Int->List Int} {N:Int} {E:Int->Bool} {MS:List Bool->Bool}
theorem Z6a (h:List Bool) (s:Bool) (hh:h.length<=20):impl_AddDay.f h s=some (Zg h s):=(Zma h s Om).1
theorem Zz (V:Ev W H xs base M Wi ds l K CR ns N E MS) (a b:Int) (h:List Bool) (hh:h.length<=20) (dst:Int) (s:Bool) (k:Nat) (hk:K<k):impl_passed.f k a b l h dst s=some (if E b=true then(dst,wrap64 (b-N),l,Zg h s,true) else(a,b,l,h,false)):=by
 unfold impl_passed.f
 rw[V.eat a b h k hh hk,Z6a h s hh]
 by_cases e:E b=true
 ·simp only[if_pos e,Ob,if_true]
 ·simp only[if_neg e,Ob,Bool.false_eq_true,if_false]
def mb (CR:Int × Int × List Bool->Bool) (N:Int) (E:Int->Bool) (b:Int) (h:List Bool) (dst:Int) (s:Bool):Bool:=E b && CR (dst,wrap64 (b-N),Zg h s)
theorem ZB (V:Ev W H xs base M Wi ds l K CR ns N E MS) (a b:Int) (h:List Bool) (hh:h.length<=20) (dst:Int) (s:Bool) (k:Nat) (hk:K<k):impl_mayBe.f k W H xs base M Wi ds a b l h dst s=some (mb CR N E b h dst s):=by
 unfold impl_mayBe.f mb
 rw[Zz V a b h hh dst s k hk]
 by_cases e:E b=true
 ·simp only[if_pos e,Ob,if_true,V.cr dst (wrap64 (b-N)) (Zg h s) k hk,e,Bool.true_and]
 ·simp only[if_neg e,Ob,Bool.false_eq_true,if_false,Bool.eq_false_iff.mpr e,Bool.false_and]
def mg (CR:Int × Int × List Bool->Bool) (ns:Int->List Int) (N:Int) (E:Int->Bool) (MS:List Bool->Bool) (a b:Int) (h:List Bool) (dst:Int):Bool:=CR (a,b,h) && (decide (dst∈ns a) && (mb CR N E b h dst false && (!MS h || mb CR N E b h a true)))
theorem ZA (V:Ev W H xs base M Wi ds l K CR ns N E MS) (a b:Int) (h:List Bool) (hh:h.length<=20) (dst:Int) (k:Nat) (hk:K+10<k):impl_MayGo.f k W H xs base M Wi ds a b l h dst=some (mg CR ns N E MS a b h dst):=by
 obtain⟨k,rfl⟩:=Yk k
 have h4:=V.nlen a
 unfold impl_MayGo.f mg
 simp only[V.cr a b h (k+1) Om,Ob,V.near a (k+1) Om,ZKb (ns a) dst Om (k+1) Om,ZB V a b h hh dst false (k+1) Om,impl_MayGo.j0,V.ms h k hh Om,ZB V a b h hh a true k Om]
 cases CR (a,b,h) <;> cases decide (dst∈ns a) <;> cases mb CR N E b h dst false <;> cases MS h <;> simp
theorem ZO (V:Ev W H xs base M Wi ds l K CR ns N E MS) (a b:Int) (h:List Bool) (hh:h.length<=20) (hl:l.length<=100) (dst:Int) (s:Bool) (k:Nat) (hk:K+20<k) :
  impl_GoStep.f k W H xs base M Wi ds a b l h dst s=some (if (mg CR ns N E MS a b h dst && (!s || MS h))=true then(if s=true then a else dst,wrap64 (b-N),l,Zg h s,true) else(a,b,l,h,false)):=by
 obtain⟨k,rfl⟩:=Yk k
 have c1:=(Zq a b l h Om Om).1
 unfold impl_GoStep.f
 simp only[ZA V a b h hh dst (k+1) Om,Ob,V.ms h (k+1) hh Om,impl_GoStep.j0,c1,Zz V a b h hh dst s k Om,Zz V a b h hh a s k Om]
 have hE:mg CR ns N E MS a b h dst=true->E b=true:=by
  intro e
  unfold mg mb at e
  simp only[Bool.and_eq_true] at e
  exact e.2.2.1.1
 cases e:mg CR ns N E MS a b h dst
 ·simp
 ·have he:=hE e
  cases s <;> cases MS h <;> simp[he]
theorem Zsa (V:Ev W H xs base M Wi ds l K CR ns N E MS) (a b:Int) (h:List Bool) (hh:h.length<=20) (js:List Int) (hj:js.length<=4):∀ (e:Nat) (i:Int) (out:List Int),0<=i->(js.length:Int)=i+e->(out.length:Int)<=i ->
  ∀ k,K+20+e<k->impl_ChoicesOf.l0 k base ds out js (js.length:Int) i W H xs M Wi a b l h=some (out++(js.drop i.toNat).filter (mg CR ns N E MS a b h)):=by
 intro e
 induction e with
 |zero =>
  intro i out h0 hd ho k hk
  obtain⟨k,rfl⟩:=Yk k
  rw[impl_ChoicesOf.l0,if_neg Om,List.drop_eq_nil_of_le Om]
  simp
 |succ e ih =>
  intro i out h0 hd ho k hk
  obtain⟨k,rfl⟩:=Yk k
  have hlt:i<(js.length:Int):=by omega
  have hw:wrap64 (i+1)=i+1:=Yw
  have q1:out.length<17592186044416:=by omega
  have hlt2:i.toNat<js.length:=by omega
  have hrd:rd js i=js[i.toNat]'hlt2:=by unfold rd;rw[List.getD_eq_getElem?_getD,List.getElem?_eq_getElem hlt2];rfl
  have e1:(i+1).toNat=i.toNat+1:=by omega
  rw[impl_ChoicesOf.l0,if_pos hlt,if_pos h0,if_pos hlt,ZA V a b h hh (rd js i) k Om,Ob,hw,List.drop_eq_getElem_cons hlt2,List.filter_cons,<-hrd]
  by_cases c:mg CR ns N E MS a b h (rd js i)=true
  ·rw[if_pos c,if_pos q1,if_pos c,ih (i+1) (out++[rd js i]) Om Om (by simp;omega) k Om,e1]
   simp
  ·rw[if_neg c,if_neg c,ih (i+1) out Om Om Om k Om,e1]
theorem ZRa (V:Ev W H xs base M Wi ds l K CR ns N E MS) (a b:Int) (h:List Bool) (hh:h.length<=20) (k:Nat) (hk:K+100<k):impl_ChoicesOf.f k W H xs base M Wi ds a b l h=some ((ns a).filter (mg CR ns N E MS a b h)):=by
 have h4:=V.nlen a
 unfold impl_ChoicesOf.f
 rw[V.near a k Om,Ob,Zsa V a b h hh (ns a) h4 (ns a).length 0 [] Om Om (by simp) k Om]
 simp
def mw (CR:Int × Int × List Bool->Bool) (N:Int) (E:Int->Bool) (MS:List Bool->Bool) (a b:Int) (h:List Bool):Bool:=CR (a,b,h) && (mb CR N E b h a false && (!MS h || mb CR N E b h a true))
theorem ZVa (V:Ev W H xs base M Wi ds l K CR ns N E MS) (hl:l.length<=100) (ws:List Int) (hws:ws.length<=1000):∀ (e:Nat) (i a b:Int) (h:List Bool),h.length<=20->1<=i->(ws.length:Int)=i+e ->
  ∃ v,(i-1<=v/\v<=(ws.length:Int)-1)/\(i-1<v->CR (a,b,h)=true)/\∀ k,K+30+e<k->impl_stepsAlong.l0 k base ds ws i W H xs M Wi a b l h=some v:=by
 intro e
 induction e with
 |zero =>
  intro i a b h hh hi hd
  refine⟨(ws.length:Int)-1,by omega,fun g=>by omega,fun k hk=>?_⟩
  obtain⟨k,rfl⟩:=Yk k
  have hw:wrap64 ((ws.length:Int)-1)=(ws.length:Int)-1:=Yw
  rw[impl_stepsAlong.l0,if_neg Om,hw]
  unfold mx
  split
  ·congr 1;omega
  ·congr 1;try omega
 |succ e ih =>
  intro i a b h hh hi hd
  have hlt:i<(ws.length:Int):=by omega
  have h0:0<=i:=by omega
  have hw:wrap64 (i+1)=i+1:=Yw
  have hw2:wrap64 (i-1)=i-1:=Yw
  by_cases c:mg CR ns N E MS a b h (rd ws i)=true
  ·obtain⟨v,hv1,_,hv⟩:=ih (i+1) (rd ws i) (wrap64 (b-N)) (Zg h false) (by have:=Zt h false;omega) Om Om
   refine⟨v,by omega,fun _=>?_,fun k hk=>?_⟩
   ·unfold mg at c
    simp only[Bool.and_eq_true] at c
    exact c.1
   ·obtain⟨k,rfl⟩:=Yk k
    rw[impl_stepsAlong.l0,if_pos hlt,if_pos h0,ZO V a b h hh hl (rd ws i) false k Om,c]
    simp only[Bool.not_false,Bool.true_or,Bool.and_self,if_true,Ob,Bool.false_eq_true,if_false,hw]
    exact hv k Om
  ·refine⟨i-1,by omega,fun g=>by omega,fun k hk=>?_⟩
   obtain⟨k,rfl⟩:=Yk k
   rw[impl_stepsAlong.l0,if_pos hlt,if_pos h0,ZO V a b h hh hl (rd ws i) false k Om,Bool.eq_false_iff.mpr c]
   simp only[Bool.false_and,Bool.false_eq_true,if_false,Ob,hw2]
theorem ZX (V:Ev W H xs base M Wi ds l K CR ns N E MS) (a b:Int) (h:List Bool) (hh:h.length<=20) (k:Nat) (hk:K<k):impl_MayWait.f k W H xs base M Wi ds a b l h=some (mw CR N E MS a b h):=by
 unfold impl_MayWait.f mw
 simp only[V.cr a b h k hk,Ob,ZB V a b h hh a false k hk,V.ms h k hh hk,ZB V a b h hh a true k hk]
 cases CR (a,b,h) <;> cases mb CR N E b h a false <;> cases MS h <;> simp
theorem ZKa (V:Ev W H xs base M Wi ds l K CR ns N E MS) (a b:Int) (h:List Bool) (hh:h.length<=20) (hl:l.length<=100) (s:Bool) (k:Nat) (hk:K+20<k) :
  impl_WaitStep.f k W H xs base M Wi ds a b l h s=some (if (mw CR N E MS a b h && (!s || MS h))=true then(a,wrap64 (b-N),l,Zg h s,true) else(a,b,l,h,false)):=by
 obtain⟨k,rfl⟩:=Yk k
 have c1:=(Zq a b l h Om Om).1
 unfold impl_WaitStep.f
 simp only[ZX V a b h hh (k+1) Om,Ob,V.ms h (k+1) hh Om,impl_WaitStep.j0,c1,Zz V a b h hh a s k Om]
 have hE:mw CR N E MS a b h=true->E b=true:=by
  intro e
  unfold mw mb at e
  simp only[Bool.and_eq_true] at e
  exact e.2.1.1
 cases e:mw CR N E MS a b h
 ·simp
 ·have he:=hE e
  cases s <;> cases MS h <;> simp[he]
end
theorem Zab {W H a b:Int} {xs:List Int} (L:LandOk W H xs) (ha:opn xs a=true) (hb:opn xs b=true):∀ (m:Nat) (v:Int),opn xs v=true->rd (Zb W xs b) v=(m:Int)->0<=rd (Zb W xs a) v->rd (Zb W xs a) b<=rd (Zb W xs a) v+m:=by
 intro m
 induction m with
 |zero =>
  intro v hv hm h
  rw[<-(Zl L (Za hb)).zero v (Za hv).1 (Za hv).2 Om]
  omega
 |succ m ih =>
  intro v hv hm h
  obtain⟨c,c1,c2,c3,c4,c5⟩:=Zia L hb hv m Om
  obtain⟨_,n1,n2⟩:=ZM L ha hv h c c3
  obtain⟨_,n3,_⟩:=ZM L ha c4 n2 v (Z1 L hv c3)
  have:=ih c c4 c5 n2
  omega
theorem Zqb {W H a b:Int} {xs:List Int} (L:LandOk W H xs) (ha:opn xs a=true) (hb:opn xs b=true) (h:0<=rd (Zb W xs a) b):rd (Zb W xs a) b=rd (Zb W xs b) a:=by
 have h2:=ZS L ha hb h
 have sa:=(Zl L (Za ha)).src0
 have sb:=(Zl L (Za hb)).src0
 have l1:=Zab L ha hb (rd (Zb W xs b) a).toNat a ha Om Om
 have l2:=Zab L hb ha (rd (Zb W xs a) b).toNat b hb Om Om
 omega
theorem Z5a (W H:Int) (xs:List Int) (hx:xs.length<=1048576) (a b:Int):∃ (ws:List Int) (d:Int),ws.length<=64/\(0<ws.length->d=(ws.length:Int)-1)/\∀ k,xs.length+1000<k->impl_WayTo.f k W H xs a b=some ws/\impl_Days.f k W H xs a b=some d:=by
 rcases ZL W H xs hx with L|no
 ·refine⟨ZD W xs a b,_,Zja L,?_,fun k hk=>⟨(ZIa L a b k Om).1,(Z1a L a b k Om).1⟩⟩
  intro h
  unfold ZD at h ⊢
  by_cases c:(opn xs a=true/\opn xs b=true)/\0<=rd (Zb W xs a) b
  ·rw[if_pos c,Z4,if_pos c.1,Zqb L c.1.1 c.1.2 c.2]
   have:=ZS L c.1.1 c.1.2 c.2
   omega
  ·rw[if_neg c] at h
   simp at h
 ·refine⟨[],-1,by simp,fun h=>by simp at h,fun k hk=>⟨(ZNa a b k (no k Om)).1,?_⟩⟩
  have o:=(ZC a k (no k Om)).1
  unfold impl_Days.f
  rw[o]
  simp only[Ob,Bool.false_eq_true,if_false]
theorem ZBb (ds:List S106) (i:Nat) (h:i<ds.length):ds.take (i+1)=ds.take i++[rd_T106 ds (i:Int)]:=by
 rw[List.take_succ_eq_append_getElem h]
 unfold rd_T106
 rw[Int.toNat_natCast,List.getD_eq_getElem?_getD,List.getElem?_eq_getElem h];rfl
theorem Z2a (ds:List S106) (i:Nat) (h:i<ds.length):ds.drop i=rd_T106 ds (i:Int) :: ds.drop (i+1):=by
 rw[List.drop_eq_getElem_cons h]
 unfold rd_T106
 rw[Int.toNat_natCast,List.getD_eq_getElem?_getD,List.getElem?_eq_getElem h];rfl
theorem Ztb (ds:List S106) (cell:Int):∀ (e i:Nat),ds.length=i+e->(∀ j:Nat,j<i->(rd_T106 ds j).f0<cell) ->
  ∃ p:Nat,p<=ds.length/\(∀ j:Nat,j<p->(rd_T106 ds j).f0<cell)/\(p<ds.length->cell<=(rd_T106 ds (p:Int)).f0)
 |0,i,h,hi=>⟨i,by omega,hi,fun h2=>by omega⟩
 |e+1,i,h,hi=>by
  by_cases c:(rd_T106 ds (i:Int)).f0<cell
  ·exact Ztb ds cell e (i+1) Om (fun j hj=>by
    by_cases q:j=i
    ·rw[q];exact c
    ·exact hi j Om)
  ·exact⟨i,by omega,hi,fun _=>by omega⟩
theorem Z7 {oc:Int->Bool} {ds:List S106} (h:∀ j,0<=j->j<(ds.length:Int)->okD oc ds j) (i:Nat):∀ e:Nat,i+e+1<ds.length->(rd_T106 ds (i:Int)).f0<(rd_T106 ds ((i+e+1:Nat):Int)).f0
 |0,hl=>by
  have:=(h ((i+1:Nat):Int) Om Om).2 Om
  rwa [show (((i+1:Nat):Int)-1)=(i:Int) by omega] at this
 |e+1,hl=>by
  have h1:=Z7 h i e Om
  have h2:=(h ((i+(e+1)+1:Nat):Int) Om Om).2 Om
  rw[show (((i+(e+1)+1:Nat):Int)-1)=((i+e+1:Nat):Int) by omega] at h2
  omega
theorem Z7a (ds:List S106) (hds:ds.length<=1048576) (cell n W H:Int) (xs:List Int) (p:Nat) (hp:p<=ds.length) (h1:∀ j:Nat,j<p->(rd_T106 ds j).f0<cell) (h2:p<ds.length->cell<=(rd_T106 ds (p:Int)).f0) (k:Nat) :
  ∀ (e i:Nat),p=i+e->Ya.l0 (k+e+1) ds cell n ds (i:Int) W H xs=Ya.j2 k ds cell n ds (p:Int) W H xs
 |0,i,h=>by
  obtain rfl:p=i:=h
  have h0:(0:Int)<=(p:Int):=by omega
  by_cases c:(p:Int)<(ds.length:Int)
  ·have h3:¬ (rd_T106 ds (p:Int)).f0<cell:=by have:=h2 Om;omega
   simp only[Ya.l0,if_pos c,if_pos h0,if_neg h3]
  ·simp only[Ya.l0,if_neg c]
 |e+1,i,h=>by
  have c:(i:Int)<(ds.length:Int):=by omega
  have h0:(0:Int)<=(i:Int):=by omega
  have hw:wrap64 ((i:Int)+1)=((i+1:Nat):Int):=Yw
  rw[show k+(e+1)+1=(k+e+1)+1 by omega,Ya.l0,if_pos c,if_pos h0,if_pos (h1 i Om),hw]
  exact Z7a ds hds cell n W H xs p hp h1 h2 k e (i+1) Om
theorem ZBa (ds:List S106) (hds:ds.length<=1048576) (cell n:Int) (p:Nat) (hp:p<=ds.length) (h1:∀ j:Nat,j<p->(rd_T106 ds j).f0<cell) (k:Nat) :
  ∀ (e i:Nat),p=i+e->spec_l8Set.l0 (k+2 * e) ds cell n (ds.take i) false (i:Int)=spec_l8Set.l0 k ds cell n (ds.take p) false (p:Int)
 |0,i,h=>by obtain rfl:p=i:=h;rfl
 |e+1,i,h=>by
  have c:(i:Int)<(ds.length:Int):=by omega
  have h0:(0:Int)<=(i:Int):=by omega
  have hw:wrap64 ((i:Int)+1)=((i+1:Nat):Int):=Yw
  have h3:=h1 i Om
  have h4:¬ (rd_T106 ds (i:Int)).f0>=cell:=by omega
  have h5:¬ (rd_T106 ds (i:Int)).f0=cell:=by omega
  have h6:(ds.take i).length<8796093022208:=by rw[List.length_take];omega
  rw[show k+2 * (e+1)=(k+2 * e)+1+1 by omega,spec_l8Set.l0,if_pos c,if_neg (by decide),if_pos h0,spec_l8Set.j1,decide_eq_false h4,if_neg (by decide),if_pos h0,if_pos c,if_neg h5,if_pos h6,hw]
  have e2:=ZBa ds hds cell n p hp h1 k e (i+1) Om
  rw[ZBb ds i Om] at e2
  exact e2
theorem Z0 (ds:List S106) (hds:ds.length<=1048576) (cell n:Int) (k:Nat) :
  ∀ (e i:Nat) (Y:List S106),ds.length=i+e->(∀ j:Nat,i<=j->j<ds.length->(rd_T106 ds j).f0≠cell)->Y.length+e<=4000000->spec_l8Set.l0 (k+2 * e+1) ds cell n Y true (i:Int)=some (Y++ds.drop i)
 |0,i,Y,h,_,_=>by
  have c:¬ (i:Int)<(ds.length:Int):=by omega
  rw[show k+2 * 0+1=k+1 by omega,spec_l8Set.l0,if_neg c,if_pos rfl,List.drop_eq_nil_of_le Om,List.append_nil]
 |e+1,i,Y,h,h1,hY=>by
  have c:(i:Int)<(ds.length:Int):=by omega
  have h0:(0:Int)<=(i:Int):=by omega
  have hw:wrap64 ((i:Int)+1)=((i+1:Nat):Int):=Yw
  have h5:=h1 i Om Om
  have h6:Y.length<8796093022208:=by omega
  rw[show k+2 * (e+1)+1=(k+2 * e+1)+1+1 by omega,spec_l8Set.l0,if_pos c,if_pos rfl,spec_l8Set.j1,if_neg (by decide),if_pos h0,if_pos c,if_neg h5,if_pos h6,hw]
  rw[Z0 ds hds cell n k e (i+1) _ Om (fun j a b=>h1 j Om b) (by simp;omega),Z2a ds i Om,List.append_assoc]
  rfl
theorem Zda (ds:List S106) (hds:ds.length<=1048576) (cell:Int) (p:Nat) (hp:p<=ds.length) (h1:∀ j:Nat,j<p->(rd_T106 ds j).f0≠cell) (k:Nat) :
  ∀ (e i:Nat),p=i+e->spec_FoodAt.l0 (k+e) ds cell (i:Int)=spec_FoodAt.l0 k ds cell (p:Int)
 |0,i,h=>by obtain rfl:p=i:=h;rfl
 |e+1,i,h=>by
  have c:(i:Int)<(ds.length:Int):=by omega
  have h0:(0:Int)<=(i:Int):=by omega
  have hw:wrap64 ((i:Int)+1)=((i+1:Nat):Int):=Yw
  rw[show k+(e+1)=(k+e)+1 by omega,spec_FoodAt.l0,if_pos c,if_pos h0,if_neg (h1 i Om),hw]
  exact Zda ds hds cell p hp h1 k e (i+1) Om
theorem ZEb (ds:List S106) (p:Nat) (hp:p<=ds.length) (v z:S106):(shf (ds++[z]) p).set p v=ds.take p++v :: ds.drop p:=by
 have e1:(ds++[z]).drop p=ds.drop p++[z]:=by rw[List.drop_append_of_le_length hp]
 have e2:(ds++[z]).length-(p+1)=(ds.drop p).length:=by simp
 unfold shf
 rw[e1,e2,List.take_left,List.set_append_left _ _ (by rw[List.length_take];simp;omega),List.set_eq_take_append_cons_drop]
 rw[if_pos (by rw[List.length_take];simp;omega),List.take_take,show min p (p+1)=p by omega,List.take_append_of_le_length hp,List.drop_take]
 simp
theorem Zva (ds:List S106) (hds:ds.length<=4000000):Yb.f ds=some ds:=by
 unfold Yb.f
 rw[Ob,if_pos (by simp;omega)];rfl
theorem ZNb {W H:Int} {xs:List Int} {K:Nat} {lb:Bool} {oc:Int->Bool} (E:LandEv W H xs K lb oc) (ds:List S106) (hds:ds.length<=1048576) (cell n:Int) :
  ∃ d o,(o=true->d.length<=20/\∀ k,K+d.length+1<k->impl_AreDepots.f k W H xs d=some true/\spec_AreDepots.f k W H xs d=some true)/\d.length<=ds.length+1/\∀ k,K+4 * ds.length+110<k->Ya.f k W H xs ds cell n=some (d,o)/\spec_Lay.f k W H xs ds cell n=some (d,o):=by
 obtain⟨v,hv,hvk⟩:=ZE E ds hds ds.length 0 Om Om
 have hl0:([]:List S106).length+ds.length<8796093022208:=by simp;omega
 by_cases g:(1<=n/\n<=10000)/\v=true
 ·obtain⟨gn,rfl⟩:=g
  obtain⟨hl,hok⟩:=hv rfl
  obtain⟨p,hp,h1,h2⟩:=Ztb ds cell ds.length 0 Om (fun j hj=>by omega)
  have asc:=fun i e=>Z7 (fun j a b=>hok j a b) i e
  obtain⟨D,f,hD,hDl,hf,hS,hI⟩:∃ (D:List S106) (f:Int),D.length<=ds.length+1/\D.length<=30/\(∀ k,30<k->spec_FoodAt.f k ds cell=some f) /\
    (∀ k,100<k->spec_l8Set.f k ds cell (wrap64 (f+n))=some D)/\(∀ k,40<k->Ya.j2 (k+3) ds cell n ds (p:Int) W H xs=Ya.j4 (k+1) ds D W H xs):=by
   have h0:(0:Int)<=(p:Int):=by omega
   have hne:∀ j:Nat,j<p->(rd_T106 ds j).f0≠cell:=fun j hj=>by have:=h1 j hj;omega
   by_cases hit:p<ds.length/\(rd_T106 ds (p:Int)).f0=cell
   ·obtain⟨hpl,hc⟩:=hit
    have hpi:(p:Int)<(ds.length:Int):=by omega
    have hfb:=(hok (p:Int) Om Om).1.2
    have hw:wrap64 ((rd_T106 ds (p:Int)).f1+n)=(rd_T106 ds (p:Int)).f1+n:=Yw
    refine⟨ds.take p++(⟨cell,(rd_T106 ds (p:Int)).f1+n⟩:S106) :: ds.drop (p+1),(rd_T106 ds (p:Int)).f1,by simp;omega,by simp;omega,fun k hk=>?_,fun k hk=>?_,fun k hk=>?_⟩
    ·obtain⟨k,rfl⟩:∃ j,k=j+1+p:=⟨k-1-p,by omega⟩
     unfold spec_FoodAt.f
     rw[show ((0:Int))=((0:Nat):Int) from rfl,Zda ds hds cell p hp hne (k+1) p 0 Om,spec_FoodAt.l0,if_pos hpi,if_pos h0,if_pos hc]
    ·obtain⟨k,rfl⟩:∃ j,k=j+2 * (ds.length-(p+1))+1+1+1+2 * p:=⟨k-(2 * (ds.length-(p+1))+3+2 * p),by omega⟩
     unfold spec_l8Set.f
     have hq:(wrap64 ((rd_T106 ds (p:Int)).f1+n)==0)=false:=beq_eq_false_iff_ne.mpr (by rw[hw];omega)
     have hge:(rd_T106 ds (p:Int)).f0>=cell:=by omega
     have ht:(ds.take p).length<8796093022208:=by rw[List.length_take];omega
     have e0:=ZBa ds hds cell (wrap64 ((rd_T106 ds (p:Int)).f1+n)) p hp h1 (k+2 * (ds.length-(p+1))+1+1+1) p 0 Om
     rw[List.take_zero] at e0
     rw[hq,show ((0:Int))=((0:Nat):Int) from rfl,e0,spec_l8Set.l0,if_pos hpi,if_neg (by decide),if_pos h0,spec_l8Set.j1,decide_eq_true hge,if_pos rfl,if_pos ht,Ob,if_pos h0,if_pos hpi,if_pos hc]
     rw[show wrap64 ((p:Int)+1)=((p+1:Nat):Int) from by clear hw hq;unfold wrap64;omega,Z0 ds hds cell _ k (ds.length-(p+1)) (p+1) _ Om (fun j a b=>?_) (by simp;omega),hw]
     ·simp only[List.append_assoc,List.cons_append,List.nil_append]
     ·have:=asc p (j-p-1) Om
      rw[show p+(j-p-1)+1=j by omega] at this
      omega
    ·have hce:((rd_T106 ds (p:Int)).f0==cell)=true:=beq_iff_eq.mpr hc
     rw[show k+3=k+2+1 by omega,Ya.j2,if_pos hpi,if_pos h0,hce,Ya.j3,if_pos rfl,if_pos h0,if_pos hpi,hw,Int.toNat_natCast,hc,List.set_eq_take_append_cons_drop,if_pos hpl]
   ·have hgt:∀ j:Nat,p<=j->j<ds.length->(rd_T106 ds j).f0≠cell:=fun j a b=>by
     have q1:=h2 Om
     have q2:(rd_T106 ds (p:Int)).f0≠cell:=fun e=>hit ⟨by omega,e⟩
     by_cases q:j=p
     ·rw[q];exact q2
     ·have:=asc p (j-p-1) Om
      rw[show p+(j-p-1)+1=j by omega] at this
      omega
    have hw:wrap64 (0+n)=n:=Yw
    refine⟨ds.take p++(⟨cell,n⟩:S106) :: ds.drop p,0,by simp;omega,by simp;omega,fun k hk=>?_,fun k hk=>?_,fun k hk=>?_⟩
    ·obtain⟨k,rfl⟩:∃ j,k=j+1+ds.length:=⟨k-1-ds.length,by omega⟩
     unfold spec_FoodAt.f
     have c:¬ ((ds.length:Nat):Int)<(ds.length:Int):=by omega
     rw[show ((0:Int))=((0:Nat):Int) from rfl,Zda ds hds cell ds.length Om (fun j hj=>by
      by_cases q:j<p
      ·exact hne j q
      ·exact hgt j Om hj) (k+1) ds.length 0 Om,spec_FoodAt.l0,if_neg c];rfl
    ·obtain⟨k,rfl⟩:∃ j,k=j+2 * (ds.length-(p+1))+1+1+1+2 * p:=⟨k-(2 * (ds.length-(p+1))+3+2 * p),by omega⟩
     unfold spec_l8Set.f
     have hq:(wrap64 (0+n)==0)=false:=beq_eq_false_iff_ne.mpr (by rw[hw];omega)
     have ht:(ds.take p).length<8796093022208:=by rw[List.length_take];omega
     obtain⟨w0,hw0⟩:∃ w,w=wrap64 (0+n):=⟨_,rfl⟩
     rw[<-hw0] at hq ⊢
     have e0:=ZBa ds hds cell w0 p hp h1 (k+2 * (ds.length-(p+1))+1+1+1) p 0 Om
     rw[List.take_zero] at e0
     rw[hq,show ((0:Int))=((0:Nat):Int) from rfl,e0]
     by_cases hpl:p<ds.length
     ·have hpi:(p:Int)<(ds.length:Int):=by omega
      have hge:(rd_T106 ds (p:Int)).f0>=cell:=by have:=h2 hpl;omega
      have ht2:(ds.take p++[(⟨cell,w0⟩:S106)]).length<8796093022208:=by simp;omega
      have hw':w0=n:=hw0.trans hw
      rw[spec_l8Set.l0,if_pos hpi,if_neg (by decide),if_pos h0,spec_l8Set.j1,decide_eq_true hge,if_pos rfl,if_pos ht,Ob,if_pos h0,if_pos hpi,if_neg (hgt p Om hpl),if_pos ht2,show wrap64 ((p:Int)+1)=((p+1:Nat):Int) from by clear hw hw' hw0 hq;unfold wrap64;omega]
      rw[Z0 ds hds cell _ k (ds.length-(p+1)) (p+1) _ Om (fun j a b=>hgt j Om b) (by simp;omega),Z2a ds p hpl]
      simp only[hw',List.append_assoc,List.cons_append,List.nil_append]
     ·obtain rfl:p=ds.length:=by omega
      have c:¬ ((ds.length:Nat):Int)<(ds.length:Int):=by omega
      have hw':w0=n:=hw0.trans hw
      rw[spec_l8Set.l0,if_neg c,if_neg (by decide),if_pos ht,hw',List.drop_eq_nil_of_le Om]
    ·have hj3:Ya.j2 (k+3) ds cell n ds (p:Int) W H xs=Ya.j3 (k+2) ds cell n ds (p:Int) false W H xs:=by
      rw[show k+3=k+2+1 by omega,Ya.j2]
      by_cases hpl:p<ds.length
      ·have hce:((rd_T106 ds (p:Int)).f0==cell)=false:=beq_eq_false_iff_ne.mpr (hgt p Om hpl)
       rw[if_pos (show (p:Int)<(ds.length:Int) by omega),if_pos h0,hce]
      ·rw[if_neg (show ¬ (p:Int)<(ds.length:Int) by omega)]
     rw[hj3,Ya.j3,if_neg (by decide),if_pos (show ds.length<8796093022208 by omega),Ob,if_pos h0,if_pos (show (p:Int)<((ds++[(⟨0,0⟩:S106)]).length:Int) by simp;omega),Int.toNat_natCast,ZEb ds p hp]
  obtain⟨d1,hd1t,hd1⟩:=ZE E D Om D.length 0 Om Om
  refine⟨if d1=true then D else ds,d1,fun e=>by subst e;exact⟨(hd1t rfl).1,hd1⟩,by split <;> omega,fun k hk=>⟨?_,?_⟩⟩
  ·obtain⟨k,rfl⟩:∃ j,k=j+3+p+1+1:=⟨k-5-p,by omega⟩
   have q1:impl_AreDepots.f (k+3+p+1+1) W H xs ds=some true:=(hvk _ Om).1
   have q2:impl_AreDepots.f k W H xs D=some d1:=(hd1 _ Om).1
   unfold Ya.f
   rw[Ze,Ob,decide_eq_true gn,if_pos rfl,q1,Ob,Ya.j0,if_neg (by decide),Zva ds Om,Ob]
   rw[show ((0:Int))=((0:Nat):Int) from rfl,Z7a ds hds cell n W H xs p hp h1 h2 (k+3) p 0 Om,hI k Om,Ya.j4,q2,Ob]
   cases d1
   ·rw[if_neg (by decide),Zva ds Om];rfl
   ·rfl
  ·obtain⟨k,rfl⟩:∃ j,k=j+1:=⟨k-1,by omega⟩
   have q1:spec_AreDepots.f (k+1) W H xs ds=some true:=(hvk _ Om).2
   have q2:spec_AreDepots.f k W H xs D=some d1:=(hd1 _ Om).2
   unfold spec_Lay.f
   rw[Ob,if_pos hl0,Ob,q1,Ob,if_pos rfl,Zh,Ob,decide_eq_true gn,spec_Lay.j0,if_neg (by decide),hf k Om,Ob,hS k Om,Ob,q2,Ob]
   cases d1 <;> rfl
 ·refine⟨ds,false,fun e=>(by cases e),by omega,fun k hk=>⟨?_,?_⟩⟩
  ·obtain⟨k,rfl⟩:∃ j,k=j+1:=⟨k-1,by omega⟩
   have q1:impl_AreDepots.f (k+1) W H xs ds=some v:=(hvk _ Om).1
   unfold Ya.f
   rw[Ze,Ob,q1,Ob]
   by_cases gn:1<=n/\n<=10000
   ·have gv:v=false:=by cases v;rfl;exact absurd ⟨gn,rfl⟩ g
    rw[decide_eq_true gn,if_pos rfl,gv,Ya.j0,Bool.not_false,if_pos rfl,Zva ds Om];rfl
   ·rw[decide_eq_false gn,if_neg (by decide),Ya.j0,if_pos rfl,Zva ds Om];rfl
  ·obtain⟨k,rfl⟩:∃ j,k=j+1:=⟨k-1,by omega⟩
   have q1:spec_AreDepots.f (k+1) W H xs ds=some v:=(hvk _ Om).2
   unfold spec_Lay.f
   rw[Ob,if_pos hl0,Ob,q1,Ob,Zh,Ob]
   by_cases gn:1<=n/\n<=10000
   ·have gv:v=false:=by cases v;rfl;exact absurd ⟨gn,rfl⟩ g
    rw[gv,if_neg (by decide),spec_Lay.j0,if_pos rfl,List.nil_append]
   ·cases v
    ·rw[if_neg (by decide),spec_Lay.j0,if_pos rfl,List.nil_append]
    ·rw[if_pos rfl,decide_eq_false gn,spec_Lay.j0,Bool.not_false,if_pos rfl,List.nil_append]
theorem Zwb (n:Nat) (h:n<=1073741823):Go.IntKind.wrap .i64 (n:Int)=(n:Int):=by
 have e1:(Go.IntKind.i64).bits=64:=rfl
 have e2:(Go.IntKind.i64).signed=true:=rfl
 unfold Go.IntKind.wrap
 simp only[e1,e2,Bool.true_and,decide_eq_true_eq]
 have e3:(2:Int) ^ 64=18446744073709551616:=by decide
 have e4:(2:Int) ^ (64-1)=9223372036854775808:=by decide
 rw[e3,e4,if_neg Om];omega
theorem Zcb (x:Int):0<=Go.bits .and .i64 x 255/\Go.bits .and .i64 x 255<=255:=by
 have h:(BitVec.ofInt 64 x &&& BitVec.ofInt 64 255).toNat<=255:=by
  rw[BitVec.toNat_and];exact Nat.le_trans Nat.and_le_right (by decide)
 show 0<=Go.IntKind.wrap .i64 ((BitVec.ofInt 64 x &&& BitVec.ofInt 64 255).toNat:Int)/\Go.IntKind.wrap .i64 ((BitVec.ofInt 64 x &&& BitVec.ofInt 64 255).toNat:Int)<=255
 generalize (BitVec.ofInt 64 x &&& BitVec.ofInt 64 255).toNat=n at h ⊢
 rw[Zwb n Om];omega
theorem ZV (d:List Int) (p s:Int) (hd:d.length<=1048576) (hp:0<=p) (hp2:p<=d.length):∃ v p' s',spec_l1Byte.f d p s=some (v,p',s')/\(0<=v/\v<=255)/\0<=p'/\p'<=d.length:=by
 unfold spec_l1Byte.f
 by_cases h:p<(d.length:Int)
 ·rw[if_pos h,if_pos hp]
  exact⟨_,_,_,rfl,Zcb _,by unfold wrap64;omega,by unfold wrap64;omega⟩
 ·rw[if_neg h]
  exact⟨_,_,_,rfl,Zcb _,hp,hp2⟩
theorem Z8 (x n:Int) (hx:0<=x) (hn:0<n):0<=Int.tmod x n/\Int.tmod x n<n:=by
 rw[Int.tmod_eq_emod_of_nonneg hx]
 exact⟨Int.emod_nonneg _ Om,Int.emod_lt_of_pos _ hn⟩
theorem Zd (d:List Int) (p s n:Int) (hd:d.length<=1048576) (hp:0<=p) (hp2:p<=d.length):∃ v p' s',spec_l1Below.f d p s n=some (v,p',s')/\(0<=v/\(0<n->v<n)/\(n<=0->v=0))/\0<=p'/\p'<=d.length:=by
 unfold spec_l1Below.f
 by_cases h:n<=0
 ·rw[if_pos h];exact⟨0,p,s,rfl,⟨by omega,by omega,by omega⟩,hp,hp2⟩
 ·have hz:¬ n=0:=by omega
  rw[if_neg h]
  by_cases h2:n<=256
  ·rw[if_pos h2]
   obtain⟨v,p',s',hb,hv,hp',hp2'⟩:=ZV d p s hd hp hp2
   rw[hb];simp only[Ob,if_neg hz]
   have:=Z8 v n hv.1 Om
   exact⟨_,_,_,rfl,⟨this.1,fun _=>this.2,by omega⟩,hp',hp2'⟩
  ·rw[if_neg h2]
   obtain⟨v,p',s',hb,hv,hp',hp2'⟩:=ZV d p s hd hp hp2
   rw[hb];simp only[Ob]
   obtain⟨v2,p2,s2,hb2,hv2,hq,hq2⟩:=ZV d p' s' hd hp' hp2'
   rw[hb2];simp only[Ob]
   obtain⟨v3,p3,s3,hb3,hv3,hr,hr2⟩:=ZV d p2 s2 hd hq hq2
   rw[hb3];simp only[Ob,if_neg hz]
   have:=Z8 (wrap64 (wrap64 (wrap64 (v * 65536)+wrap64 (v2 * 256))+v3)) n (by unfold wrap64;omega) Om
   exact⟨_,_,_,rfl,⟨this.1,fun _=>this.2,by omega⟩,hr,hr2⟩
theorem ZEa (d:List Int) (p s:Int) (l:List Int) (hl:0<l.length) (hd:d.length<=1048576) (hp:0<=p) (hp2:p<=d.length):∃ v p' s',spec_l1Int.f d p s l=some (v,p',s')/\v∈l/\0<=p'/\p'<=d.length:=by
 unfold spec_l1Int.f
 obtain⟨v,p',s',hb,hv,hp',hp2'⟩:=Zd d p s (l.length:Int) hd hp hp2
 have h2:=hv.2.1 Om
 rw[hb];simp only[Ob,if_pos hv.1,if_pos h2]
 refine⟨_,_,_,rfl,?_,hp',hp2'⟩
 have h3:v.toNat<l.length:=by omega
 unfold rd
 simp[List.getD_eq_getElem?_getD,List.getElem?_eq_getElem h3]
theorem Zib (d:List Int) (hd:d.length<=1048576):∀ (e:Nat) (s i:Int),0<=i->(d.length:Int)-i<=e->∃ s',∀ k,e<k->spec_l1New.l0 k d s i=some (d,0,s'):=by
 intro e
 induction e with
 |zero =>
  intro s i h0 he
  refine⟨s,fun k hk=>?_⟩
  obtain⟨k,rfl⟩:=Yk k
  simp only[spec_l1New.l0]
  rw[if_neg Om]
 |succ e ih =>
  intro s i h0 he
  by_cases h:i<(d.length:Int)/\i<4000
  ·obtain⟨s',hs⟩:=ih (Go.bits .and .i64 (wrap64 ((wrap64 ((wrap64 (s * 137))+(wrap64 (rd d i))))+11)) 1073741823) (i+1) Om Om
   refine⟨s',fun k hk=>?_⟩
   obtain⟨k,rfl⟩:=Yk k
   simp only[spec_l1New.l0,if_pos h.1,if_pos h.2,if_pos h0,Zi (n:=d.length) h0 h.1 hd]
   exact hs k Om
  ·refine⟨s,fun k hk=>?_⟩
   obtain⟨k,rfl⟩:=Yk k
   simp only[spec_l1New.l0]
   by_cases h1:i<(d.length:Int)
   ·rw[if_pos h1,if_neg (fun h2=>h ⟨h1,h2⟩)]
   ·rw[if_neg h1]
theorem ZAa (d:List Int) (hd:d.length<=1048576):∃ s,∀ k,d.length<k->spec_l1New.f k d=some (d,0,s) :=
 Zib d hd d.length _ 0 Om Om
theorem ZF (d:List Int) (p s n:Int) (hd:d.length<=1048576) (hp:0<=p) (hp2:p<=d.length):∃ v p' s',spec_l1Once.f d p s n=some (v,p',s')/\0<=p'/\p'<=d.length:=by
 obtain⟨a,p',s',h,_,h1,h2⟩:=Zd d p s n hd hp hp2
 exact⟨a==0,p',s',by unfold spec_l1Once.f;rw[h];rfl,h1,h2⟩
theorem Zua (d:List Int) (hd:d.length<=1048576):∀ (e:Nat) (l:List S69) (i p s:Int),1<=i->5-i<=e->(l.length:Int)+1=i->i<=6->0<=p->p<=d.length ->
  ∃ q p' s',1<=q.length/\q.length<=6/\0<=p'/\p'<=(d.length:Int)/\∀ k,e<k->spec_l7Draw.l0 k l i d p s=some (q,p',s'):=by
 intro e
 induction e with
 |zero =>
  intro l i p s h1 he hl h7 hp hp2
  obtain⟨a,p1,s1,e1,⟨ha0,ha1,_⟩,hp1,hp1'⟩:=Zd d p s 4 hd hp hp2
  have:=ha1 Om
  have hw:wrap64 (1+a)=1+a:=Yw
  have hc:¬ i<=1+a:=by omega
  refine⟨l,p1,s1,by omega,by omega,hp1,hp1',fun k hk=>?_⟩
  obtain⟨k,rfl⟩:=Yk k
  simp only[spec_l7Draw.l0,e1,Ob,hw,if_neg hc]
 |succ e ih =>
  intro l i p s h1 he hl h7 hp hp2
  obtain⟨a,p1,s1,e1,⟨ha0,ha1,_⟩,hp1,hp1'⟩:=Zd d p s 4 hd hp hp2
  have:=ha1 Om
  have hw:wrap64 (1+a)=1+a:=Yw
  by_cases hc:i<=1+a
  ·obtain⟨b,p2,s2,e2,_,hp2a,hp2b⟩:=Zd d p1 s1 20 hd hp1 hp1'
   obtain⟨c,p3,s3,e3,_,hp3,hp3'⟩:=Zd d p2 s2 3 hd hp2a hp2b
   obtain⟨f,p4,s4,e4,hp4,hp4'⟩:=ZF d p3 s3 8 hd hp3 hp3'
   obtain⟨q,p',s',hq1,hq,hp',hp'',hk2⟩:=ih (l++[⟨wrap64 (2 * i),wrap64 (5+b),wrap64 (1+c),f⟩]) (i+1) p4 s4 Om Om (by simp;omega) Om hp4 hp4'
   refine⟨q,p',s',hq1,hq,hp',hp'',fun k hk=>?_⟩
   obtain⟨k,rfl⟩:=Yk k
   have hlen:l.length<4398046511104:=by omega
   have hw2:wrap64 (i+1)=i+1:=Yw
   simp only[spec_l7Draw.l0,e1,Ob,hw,if_pos hc,e2,e3,e4,if_pos hlen,hw2]
   exact hk2 k Om
  ·refine⟨l,p1,s1,by omega,by omega,hp1,hp1',fun k hk=>?_⟩
   obtain⟨k,rfl⟩:=Yk k
   simp only[spec_l7Draw.l0,e1,Ob,hw,if_neg hc]
theorem Z4a (n:Int) (ds:List Int) (hn:ds.length<=64):∀ (e:Nat) (i:Int) (acc:List Int),0<=i->(ds.length:Int)-i=e->(acc.length:Int)<=i ->
  ∃ r,r.length<=64/\∀ k,e<k->spec_Reach.l0 k n acc ds i=some r:=by
 intro e
 induction e with
 |zero =>
  intro i acc h0 he ha
  refine⟨acc,by omega,fun k hk=>?_⟩
  obtain⟨k,rfl⟩:=Yk k
  rw[spec_Reach.l0,if_neg Om]
 |succ e ih =>
  intro i acc h0 he ha
  have hlt:i<(ds.length:Int):=by omega
  have hw:wrap64 (i+1)=i+1:=Yw
  have q1:acc.length<17592186044416:=by omega
  by_cases c:rd ds i>=0/\rd ds i<=n
  ·obtain⟨r,hr,hk2⟩:=ih (i+1) (acc++[i]) Om Om (by simp;omega)
   refine⟨r,hr,fun k hk=>?_⟩
   obtain⟨k,rfl⟩:=Yk k
   rw[spec_Reach.l0,if_pos hlt,if_pos h0,if_pos c.1,if_pos c.2,if_pos q1,hw]
   exact hk2 k Om
  ·obtain⟨r,hr,hk2⟩:=ih (i+1) acc Om Om Om
   refine⟨r,hr,fun k hk=>?_⟩
   obtain⟨k,rfl⟩:=Yk k
   rw[spec_Reach.l0,if_pos hlt,if_pos h0,hw]
   by_cases c1:rd ds i>=0
   ·rw[if_pos c1,if_neg (fun c2=>c ⟨c1,c2⟩)]
    exact hk2 k Om
   ·rw[if_neg c1]
    exact hk2 k Om
theorem Zrb (W H:Int) (xs:List Int) (hn:xs.length<=64) (a n:Int):∃ r,r.length<=64/\∀ k,1100<k->spec_Reach.f k W H xs a n=some r:=by
 rcases ZL W H xs Om with L|no
 ·by_cases ha:opn xs a=true
  ·have hl:=(Zl L (Za ha)).len
   obtain⟨r,hr,hk2⟩:=Z4a n (Zb W xs a) Om xs.length 0 [] Om Om (by simp)
   refine⟨r,hr,fun k hk=>?_⟩
   unfold spec_Reach.f
   simp only[Ob,(Zk L a k Om).2,if_pos ha,(ZG L a ha k Om).2]
   exact hk2 k Om
  ·refine⟨[],by simp,fun k hk=>?_⟩
   unfold spec_Reach.f
   simp only[Ob,(Zk L a k Om).2,if_neg ha]
 ·refine⟨[],by simp,fun k hk=>?_⟩
  unfold spec_Reach.f
  simp only[Ob,(ZC a k (no k Om)).2,Bool.false_eq_true,if_false]
theorem ZXa (d:List Int) (hd:d.length<=1048576) (W H n:Int) (hn:wrap64 (W * H)=n) (h1:1<=n) (h2:n<=64):∀ (e:Nat) (i:Int) (acc:List Int) (p s:Int),0<=i->n-i=e->(acc.length:Int)=i->0<=p->p<=d.length ->
  ∃ xs p' s',(xs.length:Int)=n/\0<=p'/\p'<=(d.length:Int)/\∀ k,e<k->spec_l4Draw.l0 k i d p s W H acc=some (W,H,xs,p',s'):=by
 intro e
 induction e with
 |zero =>
  intro i acc p s h0 he ha hp hp2
  refine⟨acc.set (0:Int).toNat 0,p,s,by rw[List.length_set];omega,hp,hp2,fun k hk=>?_⟩
  obtain⟨k,rfl⟩:=Yk k
  rw[spec_l4Draw.l0,hn,if_neg Om,if_pos Om]
 |succ e ih =>
  intro i acc p s h0 he ha hp hp2
  obtain⟨v,p1,s1,e1,_,hp1,hp1'⟩:=ZEa d p s [0,0,0,0,1,2] (by simp) hd hp hp2
  obtain⟨xs,p',s',hx,hp',hp'',hk2⟩:=ih (i+1) (acc++[v]) p1 s1 Om Om (by simp;omega) hp1 hp1'
  refine⟨xs,p',s',hx,hp',hp'',fun k hk=>?_⟩
  obtain⟨k,rfl⟩:=Yk k
  have hw:wrap64 (i+1)=i+1:=Yw
  have q1:acc.length<17592186044416:=by omega
  rw[spec_l4Draw.l0,hn,if_pos Om,e1,Ob,if_pos q1,hw]
  exact hk2 k Om
theorem Zla (d:List Int) (p s:Int) (hd:d.length<=1048576) (hp:0<=p) (hp2:p<=d.length):∃ W H xs p' s',(1<=xs.length/\xs.length<=64)/\0<=p'/\p'<=(d.length:Int)/\∀ k,70<k->spec_l4Draw.f k d p s=some (W,H,xs,p',s'):=by
 obtain⟨a,p1,s1,e1,⟨a0,a1,_⟩,hp1,hp1'⟩:=Zd d p s 5 hd hp hp2
 obtain⟨b,p2,s2,e2,⟨b0,b1,_⟩,hp2a,hp2b⟩:=Zd d p1 s1 4 hd hp1 hp1'
 have:=a1 Om
 have:=b1 Om
 have w1:wrap64 (2+a)=2+a:=Yw
 have w2:wrap64 (2+b)=2+b:=Yw
 obtain⟨n,hn⟩:∃ n,n=(2+a) * (2+b):=⟨_,rfl⟩
 have m1:(2+a) * (2+b)<=6 * 5:=Int.mul_le_mul Om Om Om Om
 have m2:1 * 1<=(2+a) * (2+b):=Int.mul_le_mul Om Om Om Om
 have w3:wrap64 ((2+a) * (2+b))=n:=by rw[<-hn] at m1 m2 ⊢;unfold wrap64;omega
 obtain⟨xs,p',s',hx,hp',hp'',hk2⟩:=ZXa d hd (2+a) (2+b) n w3 Om Om n.toNat 0 [] p2 s2 Om Om (by simp) hp2a hp2b
 refine⟨2+a,2+b,xs,p',s',⟨by omega,by omega⟩,hp',hp'',fun k hk=>?_⟩
 unfold spec_l4Draw.f
 rw[e1,Ob,e2,Ob]
 simp only[w1,w2]
 exact hk2 k Om
theorem Zlb (d:List Int) (p s:Int) (hd:d.length<=1048576) (hp:0<=p) (hp2:p<=d.length):∃ v p' s',spec_l4Raw.f d p s=some (v,p',s')/\0<=p'/\p'<=(d.length:Int):=by
 obtain⟨v,p1,s1,e1,_,hp1,hp1'⟩:=ZEa d p s [(-1),0,8,9,64,9223372036854775807,(-9223372036854775808)] (by simp) hd hp hp2
 exact⟨v,p1,s1,by unfold spec_l4Raw.f;rw[e1];rfl,hp1,hp1'⟩
theorem Zsb (d:List Int) (p s:Int) (hd:d.length<=1048576) (hp:0<=p) (hp2:p<=d.length):∃ W H xs p' s',xs.length<=64/\0<=p'/\p'<=(d.length:Int)/\∀ k,70<k->spec_l4Any.f k d p s=some (W,H,xs,p',s'):=by
 obtain⟨W,H,xs,p1,s1,⟨x1,x2⟩,hp1,hp1',h1⟩:=Zla d p s hd hp hp2
 obtain⟨c,p2,s2,e2,_,hp2a,hp2b⟩:=Zd d p1 s1 14 hd hp1 hp1'
 obtain⟨v,p3,s3,e3,hp3,hp3'⟩:=Zlb d p2 s2 hd hp2a hp2b
 obtain⟨u,p4,s4,e4,_,hp4,hp4'⟩:=ZEa d p2 s2 [(-1),2,3] (by simp) hd hp2a hp2b
 have q0:0<(xs.length:Int):=by omega
 have q1:1<=(xs.length:Int):=by omega
 unfold spec_l4Any.f
 by_cases c0:c=0
 ·exact⟨v,H,xs,p3,s3,x2,hp3,hp3',fun k hk=>by simp only[h1 k hk,Ob,e2,if_pos c0,e3]⟩
 ·by_cases c1:c=1
  ·exact⟨W,v,xs,p3,s3,x2,hp3,hp3',fun k hk=>by simp only[h1 k hk,Ob,e2,if_neg c0,if_pos c1,e3]⟩
  ·by_cases c2:c=2
   ·exact⟨W,H,xs.set (0:Int).toNat u,p4,s4,by rw[List.length_set];exact x2,hp4,hp4',fun k hk=>by simp only[h1 k hk,Ob,e2,if_neg c0,if_neg c1,if_pos c2,e4,if_pos q0]⟩
   ·by_cases c3:c=3
    ·exact⟨W,H,xs.drop (1:Int).toNat,p2,s2,by rw[List.length_drop];omega,hp2a,hp2b,fun k hk=>by simp only[h1 k hk,Ob,e2,if_neg c0,if_neg c1,if_neg c2,if_pos c3,if_pos q1]⟩
    ·exact⟨W,H,xs,p2,s2,x2,hp2a,hp2b,fun k hk=>by simp only[h1 k hk,Ob,e2,if_neg c0,if_neg c1,if_neg c2,if_neg c3]⟩
theorem ZCb (d:List Int) (p s:Int) (hd:d.length<=1048576) (hp:0<=p) (hp2:p<=d.length):∃ v w p' s',spec_l6Rule.f d p s=some (v,w,p',s')/\(1<=w/\w<=10)/\0<=p'/\p'<=(d.length:Int):=by
 obtain⟨a,p1,s1,e1,⟨a0,a1,_⟩,hp1,hp1'⟩:=Zd d p s 6 hd hp hp2
 have:=a1 Om
 have w1:wrap64 (1+a)=1+a:=Yw
 obtain⟨b,p2,s2,e2,_,hp2a,hp2b⟩:=Zd d p1 s1 (1+a) hd hp1 hp1'
 exact⟨b,1+a,p2,s2,by unfold spec_l6Rule.f;rw[e1,Ob,w1,e2,Ob],by omega,hp2a,hp2b⟩
theorem ZSa (l:List Bool) (hl:l.length<=1048576):∀ (e:Nat) (i c:Int),0<=i->(l.length:Int)-i=e->∃ r,∀ k,e<k->spec_CountStorms.l0 k l c i=some r:=by
 intro e
 induction e with
 |zero =>
  intro i c h0 he
  refine⟨c,fun k hk=>?_⟩
  obtain⟨k,rfl⟩:=Yk k
  rw[spec_CountStorms.l0,if_neg Om]
 |succ e ih =>
  intro i c h0 he
  have hlt:i<(l.length:Int):=by omega
  by_cases b:rdOf false l i=true
  ·obtain⟨r,hr⟩:=ih (i+1) (wrap64 (c+1)) Om Om
   refine⟨r,fun k hk=>?_⟩
   obtain⟨k,rfl⟩:=Yk k
   rw[spec_CountStorms.l0,if_pos hlt,if_pos h0,if_pos b,Zi (n:=l.length) h0 hlt hl]
   exact hr k Om
  ·obtain⟨r,hr⟩:=ih (i+1) c Om Om
   refine⟨r,fun k hk=>?_⟩
   obtain⟨k,rfl⟩:=Yk k
   rw[spec_CountStorms.l0,if_pos hlt,if_pos h0,if_neg b,Zi (n:=l.length) h0 hlt hl]
   exact hr k Om
theorem ZDa (v w:Int) (l:List Bool) (hw:1<=w/\w<=10) (hl:l.length<=1048576):∃ t,∀ k,l.length<k->spec_MayStorm.f k v w l=some t:=by
 have e1:wrap64 ((l.length:Int)+1)=(l.length:Int)+1:=Yw
 have e2:wrap64 ((l.length:Int)+1-w)=(l.length:Int)+1-w:=Yw
 have e3:wrap64 (w-1)=w-1:=Yw
 obtain⟨t,ht⟩:∃ t,t=mx 0 ((l.length:Int)+1-w):=⟨_,rfl⟩
 have hm:spec_Max.f 0 ((l.length:Int)+1-w)=some t:=by subst ht;unfold spec_Max.f mx;split <;> rfl
 have h0:0<=t/\t<=(l.length:Int):=by subst ht;unfold mx;split <;> omega
 obtain⟨c,hc⟩:=ZSa (l.drop t.toNat) (by rw[List.length_drop];omega) (l.drop t.toNat).length 0 0 Om Om
 by_cases r:0<=v/\v<=w-1
 ·refine⟨decide (c<v),fun k hk=>?_⟩
  have hc2:=hc k (by rw[List.length_drop];omega)
  unfold spec_MayStorm.f spec_IsRule.f spec_CountStorms.f
  simp only[Zh,hw,and_self,decide_true,Ob,if_true,e3,r,e1,e2,hm,if_pos h0.1,if_pos h0.2,hc2]
 ·refine⟨false,fun k hk=>?_⟩
  unfold spec_MayStorm.f spec_IsRule.f
  simp only[Zh,hw,and_self,decide_true,Ob,if_true,e3,r,decide_false,Bool.false_eq_true,if_false]
theorem Zeb (d:List Int) (hd:d.length<=1048576) (n v w:Int) (hn:n<=10) (hw:1<=w/\w<=10):∀ (e:Nat) (i:Int) (acc:List Bool) (p s:Int),0<=i->n-i<=e->(acc.length:Int)=i->i<=10->0<=p->p<=d.length ->
  ∃ q p' s',q.length<=10/\0<=p'/\p'<=(d.length:Int)/\∀ k,11+e<k->spec_l6Past.l0 k n acc i d p s v w=some (q,p',s'):=by
 intro e
 induction e with
 |zero =>
  intro i acc p s h0 he ha hi hp hp2
  refine⟨acc,p,s,by omega,hp,hp2,fun k hk=>?_⟩
  obtain⟨k,rfl⟩:=Yk k
  rw[spec_l6Past.l0,if_neg Om]
 |succ e ih =>
  intro i acc p s h0 he ha hi hp hp2
  by_cases c:i<n
  ·obtain⟨t,ht⟩:=ZDa v w acc hw Om
   have wi:wrap64 (i+1)=i+1:=Yw
   have q1:acc.length<140737488355328:=by omega
   by_cases b:t=true
   ·obtain⟨f,p1,s1,e1,hp1,hp1'⟩:=ZF d p s 2 hd hp hp2
    obtain⟨q,p',s',hq,hp',hp'',hk2⟩:=ih (i+1) (acc++[f]) p1 s1 Om Om (by simp;omega) Om hp1 hp1'
    refine⟨q,p',s',hq,hp',hp'',fun k hk=>?_⟩
    obtain⟨k,rfl⟩:=Yk k
    rw[spec_l6Past.l0,if_pos c,ht k Om,Ob,if_pos b,e1,Ob,if_pos q1,wi]
    exact hk2 k Om
   ·obtain⟨q,p',s',hq,hp',hp'',hk2⟩:=ih (i+1) (acc++[false]) p s Om Om (by simp;omega) Om hp hp2
    refine⟨q,p',s',hq,hp',hp'',fun k hk=>?_⟩
    obtain⟨k,rfl⟩:=Yk k
    rw[spec_l6Past.l0,if_pos c,ht k Om,Ob,if_neg b,if_pos q1,wi]
    exact hk2 k Om
  ·refine⟨acc,p,s,by omega,hp,hp2,fun k hk=>?_⟩
   obtain⟨k,rfl⟩:=Yk k
   rw[spec_l6Past.l0,if_neg c]
theorem Z9a (d:List Int) (p s:Int) (hd:d.length<=1048576) (hp:0<=p) (hp2:p<=d.length) (W H:Int) (xs:List Int) (hx:xs.length<=64) (v w:Int) (hw:1<=w/\w<=10) :
  ∃ a b l h p' s',(0<=b/\b<60)/\l.length<=6/\h.length<=10/\0<=p'/\p'<=(d.length:Int)/\∀ k,1100<k->spec_l9Draw.f k d p s W H xs v w=some (a,b,l,h,p',s'):=by
 obtain⟨b,p1,s1,e1,⟨b0,b1,_⟩,hp1,hp1'⟩:=Zd d p s 60 hd hp hp2
 obtain⟨l,p2,s2,hl1,hl,hp2a,hp2b,hk2⟩:=Zua d hd 5 [] 1 p1 s1 Om Om (by simp) Om hp1 hp1'
 obtain⟨n,p3,s3,e3,⟨n0,n1,_⟩,hp3,hp3'⟩:=Zd d p2 s2 8 hd hp2a hp2b
 have:=n1 Om
 obtain⟨h,p4,s4,hh,hp4,hp4',hk4⟩:=Zeb d hd n v w Om hw 8 0 [] p3 s3 Om Om (by simp) Om hp3 hp3'
 obtain⟨r,hr,hk5⟩:=Zrb W H xs hx 0 99
 have f2:∀ k,1100<k->spec_l7Draw.f k d p1 s1=some (l,p2,s2):=fun k hk=>hk2 k Om
 have f4:∀ k,1100<k->spec_l6Past.f k d p3 s3 v w n=some (h,p4,s4):=fun k hk=>hk4 k Om
 unfold spec_l9Draw.f
 by_cases c:(r.length:Int)>0
 ·obtain⟨m,p5,s5,e5,⟨m0,m1,_⟩,hp5,hp5'⟩:=Zd d p4 s4 (r.length:Int) hd hp4 hp4'
  have m2:=m1 Om
  exact⟨rd r m,b,l,h,p5,s5,⟨b0,b1 Om⟩,hl,hh,hp5,hp5',fun k hk=>by simp only[e1,Ob,f2 k hk,e3,f4 k hk,hk5 k hk,if_pos c,e5,if_pos m0,if_pos m2]⟩
 ·exact⟨0,b,l,h,p4,s4,⟨b0,b1 Om⟩,hl,hh,hp4,hp4',fun k hk=>by simp only[e1,Ob,f2 k hk,e3,f4 k hk,hk5 k hk,if_neg c]⟩
theorem Zhb (k:Nat) (W H:Int) (xs:List Int) (n:Int):spec_Near.f k W H xs n=Zu k W H xs n:=rfl
theorem Zya (d:List Int) (hd:d.length<=1048576) (W H:Int) (xs:List Int) (hx:xs.length<=64):∀ (e:Nat) (i:Int) (ds:List S106) (p s:Int),i<=e->(ds.length:Int)+i<=3->ds.length<=3->0<=p->p<=d.length ->
  ∃ q p' s',q.length<=3/\0<=p'/\p'<=(d.length:Int)/\∀ k,1300+e<k->spec_l8Draw.l0 k ds i d p s W H xs=some (q,p',s'):=by
 obtain⟨lb,oc,A⟩:=Z5 W H xs Om
 intro e
 induction e with
 |zero =>
  intro i ds p s he hl hl3 hp hp2
  refine⟨ds,p,s,hl3,hp,hp2,fun k hk=>?_⟩
  obtain⟨k,rfl⟩:=Yk k
  rw[spec_l8Draw.l0,if_neg Om]
 |succ e ih =>
  intro i ds p s he hl hl3 hp hp2
  by_cases c:i>0
  ·obtain⟨u,p1,s1,e1,_,hp1,hp1'⟩:=Zd d p s 20 hd hp hp2
   obtain⟨v,p2,s2,e2,_,hp2a,hp2b⟩:=Zd d p1 s1 30 hd hp1 hp1'
   obtain⟨D,o,_,hD,hL⟩:=ZNb A.toLandEv ds Om u (wrap64 (1+v))
   have hw:wrap64 (i-1)=i-1:=by clear hL;unfold wrap64;omega
   obtain⟨q,p',s',hq,hp',hp'',hk2⟩:=ih (i-1) D p2 s2 Om Om Om hp2a hp2b
   refine⟨q,p',s',hq,hp',hp'',fun k hk=>?_⟩
   obtain⟨k,rfl⟩:=Yk k
   rw[spec_l8Draw.l0,if_pos c,e1,Ob,e2,Ob,(hL k Om).2,Ob,hw]
   exact hk2 k Om
  ·refine⟨ds,p,s,hl3,hp,hp2,fun k hk=>?_⟩
   obtain⟨k,rfl⟩:=Yk k
   rw[spec_l8Draw.l0,if_neg c]
theorem Zea (d:List Int) (p s:Int) (hd:d.length<=1048576) (hp:0<=p) (hp2:p<=d.length) :
  ∃ W H xs base M Wi ds a b l h p' s',xs.length<=64/\ds.length<=3/\l.length<=6/\h.length<=10/\0<=p'/\p'<=(d.length:Int)/\∀ k,1400<k->spec_l10Case.f k d p s=some (W,H,xs,base,M,Wi,ds,a,b,l,h,p',s'):=by
 obtain⟨W,H,xs,p1,s1,⟨_,hx⟩,hp1,hp1',h1⟩:=Zla d p s hd hp hp2
 obtain⟨v,w,p2,s2,e2,hw,hp2a,hp2b⟩:=ZCb d p1 s1 hd hp1 hp1'
 obtain⟨n,p3,s3,e3,⟨n0,n1,_⟩,hp3,hp3'⟩:=Zd d p2 s2 4 hd hp2a hp2b
 have n2:=n1 Om
 obtain⟨ds,p4,s4,hds,hp4,hp4',h4⟩:=Zya d hd W H xs hx 3 n [] p3 s3 Om (by simp;omega) (by simp) hp3 hp3'
 obtain⟨a,b,l,h,p5,s5,_,hl,hh,hp5,hp5',h5⟩:=Z9a d p4 s4 hd hp4 hp4' W H xs hx v w hw
 obtain⟨c,p6,s6,e6,_,hp6,hp6'⟩:=Zd d p5 s5 12 hd hp5 hp5'
 have g4:∀ k,1400<k->spec_l8Draw.f k d p2 s2 W H xs=some (ds,p4,s4):=fun k hk=>by
  unfold spec_l8Draw.f
  rw[e3,Ob]
  exact h4 k Om
 unfold spec_l10Case.f
 by_cases c0:c=0
 ·obtain⟨u,p7,s7,e7,_,hp7,hp7'⟩:=Zd d p6 s6 20 hd hp6 hp6'
  exact⟨W,H,xs,u,v,w,ds,a,b,l,h,p7,s7,hx,hds,hl,hh,hp7,hp7',fun k hk=>by simp only[h1 k Om,Ob,e2,g4 k hk,h5 k Om,e6,if_pos c0,e7]⟩
 ·by_cases c1:c=1
  ·obtain⟨W2,H2,ys,p7,s7,hy,hp7,hp7',h7⟩:=Zsb d p6 s6 hd hp6 hp6'
   exact⟨W2,H2,ys,0,v,w,ds,a,b,l,h,p7,s7,hy,hds,hl,hh,hp7,hp7',fun k hk=>by simp only[h1 k Om,Ob,e2,g4 k hk,h5 k Om,e6,if_neg c0,if_pos c1,h7 k Om]⟩
  ·by_cases c2:c=2
   ·exact⟨W,H,xs,0,w,w,ds,a,b,l,h,p6,s6,hx,hds,hl,hh,hp6,hp6',fun k hk=>by simp only[h1 k Om,Ob,e2,g4 k hk,h5 k Om,e6,if_neg c0,if_neg c1,if_pos c2]⟩
   ·by_cases c3:c=3
    ·exact⟨W,H,xs,0,v,w,ds,a,0,l,h,p6,s6,hx,hds,hl,hh,hp6,hp6',fun k hk=>by simp only[h1 k Om,Ob,e2,g4 k hk,h5 k Om,e6,if_neg c0,if_neg c1,if_neg c2,if_pos c3]⟩
    ·exact⟨W,H,xs,0,v,w,ds,a,b,l,h,p6,s6,hx,hds,hl,hh,hp6,hp6',fun k hk=>by simp only[h1 k Om,Ob,e2,g4 k hk,h5 k Om,e6,if_neg c0,if_neg c1,if_neg c2,if_neg c3]⟩
theorem ZFb (d:List Int) (p s:Int) (hd:d.length<=1048576) (hp:0<=p) (hp2:p<=d.length) (W H:Int) (xs:List Int) (hx:xs.length<=64) (a b:Int) (l:List S69) (h:List Bool) :
  ∃ t p' s',0<=p'/\p'<=(d.length:Int)/\∀ k,1400<k->spec_l11To.f k d p s W H xs a b l h=some (t,p',s'):=by
 obtain⟨lb,oc,A⟩:=Z5 W H xs Om
 obtain⟨ns,hns,hnk⟩:=A.near a
 have hn:∀ k,1300<k->spec_Near.f k W H xs a=some ns:=fun k hk=>by rw[Zhb];exact(hnk k Om).2
 obtain⟨u,p1,s1,e1,_,hp1,hp1'⟩:=Zd d p s 20 hd hp hp2
 unfold spec_l11To.f
 by_cases c:(ns.length:Int)=0
 ·refine⟨u,p1,s1,hp1,hp1',fun k hk=>?_⟩
  obtain⟨k,rfl⟩:=Yk k
  simp only[hn (k+1) Om,Ob,if_pos c,spec_l11To.j0,if_true,e1]
 ·obtain⟨f,p2,s2,e2,hp2a,hp2b⟩:=ZF d p s 6 hd hp hp2
  cases f with
  |true =>
   obtain⟨v,p3,s3,e3,_,hp3,hp3'⟩:=Zd d p2 s2 20 hd hp2a hp2b
   refine⟨v,p3,s3,hp3,hp3',fun k hk=>?_⟩
   obtain⟨k,rfl⟩:=Yk k
   simp only[hn (k+1) Om,Ob,if_neg c,e2,spec_l11To.j0,if_true,e3]
  |false =>
   obtain⟨v,p3,s3,e3,⟨v0,v1,_⟩,hp3,hp3'⟩:=Zd d p2 s2 (ns.length:Int) hd hp2a hp2b
   have v2:=v1 Om
   refine⟨rd ns v,p3,s3,hp3,hp3',fun k hk=>?_⟩
   obtain⟨k,rfl⟩:=Yk k
   simp only[hn (k+1) Om,Ob,if_neg c,e2,spec_l11To.j0,Bool.false_eq_true,if_false,e3,if_pos v0,if_pos v2]
theorem Zgb (d:List Int) (hd:d.length<=1048576):∃ W H xs base M Wi ds a b l h t f,xs.length<=64/\ds.length<=3/\l.length<=6/\h.length<=10/\∀ k,d.length+1400<k->spec_DrawGoStep.f k d=some (W,H,xs,base,M,Wi,ds,a,b,l,h,t,f):=by
 obtain⟨s,hs⟩:=ZAa d hd
 obtain⟨W,H,xs,base,M,Wi,ds,a,b,l,h,p1,s1,hx,hds,hl,hh,hp1,hp1',h1⟩:=Zea d 0 s hd Om Om
 obtain⟨t,p2,s2,hp2,hp2',h2⟩:=ZFb d p1 s1 hd hp1 hp1' W H xs hx a b l h
 obtain⟨f,p3,s3,e3,_,_⟩:=ZF d p2 s2 3 hd hp2 hp2'
 refine⟨W,H,xs,base,M,Wi,ds,a,b,l,h,t,f,hx,hds,hl,hh,fun k hk=>?_⟩
 unfold spec_DrawGoStep.f
 simp only[hs k Om,Ob,h1 k Om,h2 k Om,e3]
theorem ZWa (d:List Int) (hd:d.length<=1048576):∃ W H xs base M Wi ds a b l h f,xs.length<=64/\ds.length<=3/\l.length<=6/\h.length<=10/\∀ k,d.length+1400<k->spec_DrawWaitStep.f k d=some (W,H,xs,base,M,Wi,ds,a,b,l,h,f):=by
 obtain⟨s,hs⟩:=ZAa d hd
 obtain⟨W,H,xs,base,M,Wi,ds,a,b,l,h,p1,s1,hx,hds,hl,hh,hp1,hp1',h1⟩:=Zea d 0 s hd Om Om
 obtain⟨f,p3,s3,e3,_,_⟩:=ZF d p1 s1 2 hd hp1 hp1'
 refine⟨W,H,xs,base,M,Wi,ds,a,b,l,h,f,hx,hds,hl,hh,fun k hk=>?_⟩
 unfold spec_DrawWaitStep.f spec_DrawReturnStep.f
 simp only[hs k Om,Ob,h1 k Om,e3]
theorem Zwa (d:List Int) (hd:d.length<=1048576):∃ W H xs base M Wi ds a b l h t,xs.length<=64/\ds.length<=3/\l.length<=6/\h.length<=10/\∀ k,d.length+1400<k->spec_DrawStepsOn.f k d=some (W,H,xs,base,M,Wi,ds,a,b,l,h,t):=by
 obtain⟨s,hs⟩:=ZAa d hd
 obtain⟨W,H,xs,base,M,Wi,ds,a,b,l,h,p1,s1,hx,hds,hl,hh,hp1,hp1',h1⟩:=Zea d 0 s hd Om Om
 obtain⟨t,p3,s3,e3,_,_⟩:=Zd d p1 s1 20 hd hp1 hp1'
 refine⟨W,H,xs,base,M,Wi,ds,a,b,l,h,t,hx,hds,hl,hh,fun k hk=>?_⟩
 unfold spec_DrawStepsOn.f
 simp only[hs k Om,Ob,h1 k Om,e3]
def Zs (p:Int->Bool):Nat->Int->Bool
 |0,_=>true
 |d+1,i=>if p i=true then false else Zs p d (i+1)
def pM (l9 m9:List S69) (i:Int):Bool:=(!(((rd_T69 l9 i).f0)==((rd_T69 m9 i).f0)) || (!(((rd_T69 l9 i).f1)==((rd_T69 m9 i).f1)) || (!(((rd_T69 l9 i).f2)==((rd_T69 m9 i).f2)) || (!(((rd_T69 l9 i).f3)==((rd_T69 m9 i).f3))))))
def pB (l10 m10:List Bool) (i:Int):Bool:=(rdOf false l10 i) != (rdOf false m10 i)
theorem Z9 (p:Int->Bool) (h:∀ i,p i=false):∀ d i,Zs p d i=true
 |0,_=>rfl
 |d+1,i=>by rw[Zs,h i,if_neg (by decide)];exact Z9 p h d (i+1)
def eqv (a7:Int) (a8:Int) (l9:List S69) (l10:List Bool) (b7:Int) (b8:Int) (m9:List S69) (m10:List Bool):Bool :=
 if a7=b7/\a8=b8/\l9.length=m9.length/\l10.length=m10.length then Zs (pM l9 m9) l9.length 0 && Zs (pB l10 m10) l10.length 0 else false
theorem Zmb (a7:Int) (a8:Int) (l9:List S69) (l10:List Bool):eqv a7 a8 l9 l10 a7 a8 l9 l10=true:=by
 unfold eqv
 rw[if_pos ⟨rfl,rfl,rfl,rfl⟩,Z9 _ (fun i=>by simp[pM]),Z9 _ (fun i=>by simp[pB])]
 rfl
theorem ZHb (a7:Int) (a8:Int) (l9:List S69) (l10:List Bool) (b7:Int) (b8:Int) (m9:List S69) (m10:List Bool) (hn:l10.length<=1048576) (hl:m10.length=l10.length):∀ (d k:Nat) (i:Int),0<=i->(l10.length:Int)-i=d->d<k ->
  impl_EqualParties.l1 k (l10.length:Int) i a7 a8 l9 l10 b7 b8 m9 m10=some (Zs (pB l10 m10) d i):=by
 intro d
 induction d with
 |zero =>
  intro k i h0 hd hk
  obtain⟨k,rfl⟩:=Yk k
  have hlt:¬ i<(l10.length:Int):=by omega
  simp only[impl_EqualParties.l1,if_neg hlt,Zs]
 |succ d ih =>
  intro k i h0 hd hk
  obtain⟨k,rfl⟩:=Yk k
  have hlt:i<(l10.length:Int):=by omega
  have hlt2:i<(m10.length:Int):=by omega
  have hi:=ih k (i+1) Om Om Om
  by_cases e:pB l10 m10 i=true
  ·have e2:=e
   unfold pB at e2
   simp only[impl_EqualParties.l1,if_pos hlt,if_pos hlt2,if_pos h0,if_pos e2,Zs,if_pos e]
  ·have e2:=e
   unfold pB at e2
   simp only[impl_EqualParties.l1,if_pos hlt,if_pos hlt2,if_pos h0,if_neg e2,Zs,if_neg e,Zi (n:=l10.length) h0 hlt hn]
   exact hi
theorem ZRb (a7:Int) (a8:Int) (l9:List S69) (l10:List Bool) (b7:Int) (b8:Int) (m9:List S69) (m10:List Bool) (hn:l9.length<=1048576) (hl:m9.length=l9.length) (hn2:l10.length<=1048576) (hl2:m10.length=l10.length):∀ (d k:Nat) (i:Int),0<=i->(l9.length:Int)-i=d->d+l10.length+2<k ->
  impl_EqualParties.l0 k (l9.length:Int) i a7 a8 l9 l10 b7 b8 m9 m10=some (Zs (pM l9 m9) d i && Zs (pB l10 m10) l10.length 0):=by
 intro d
 induction d with
 |zero =>
  intro k i h0 hd hk
  obtain⟨k,rfl⟩:=Yk k
  have hlt:¬ i<(l9.length:Int):=by omega
  simp only[impl_EqualParties.l0,if_neg hlt,Zs,ZHb a7 a8 l9 l10 b7 b8 m9 m10 hn2 hl2 l10.length k 0 Om Om Om,Bool.true_and]
 |succ d ih =>
  intro k i h0 hd hk
  obtain⟨k,rfl⟩:=Yk k
  have hlt:i<(l9.length:Int):=by omega
  have hlt2:i<(m9.length:Int):=by omega
  have hi:=ih k (i+1) Om Om Om
  by_cases e:pM l9 m9 i=true
  ·have e2:=e
   unfold pM at e2
   simp only[impl_EqualParties.l0,if_pos hlt,if_pos hlt2,if_pos h0,if_pos e2,Zs,if_pos e,Bool.false_and]
  ·have e2:=e
   unfold pM at e2
   simp only[impl_EqualParties.l0,if_pos hlt,if_pos hlt2,if_pos h0,if_neg e2,Zs,if_neg e,Zi (n:=l9.length) h0 hlt hn]
   exact hi
theorem ZLb (a7:Int) (a8:Int) (l9:List S69) (l10:List Bool) (b7:Int) (b8:Int) (m9:List S69) (m10:List Bool) (hn:l9.length<=1048576) (hn2:l10.length<=1048576) (k:Nat) (hk:l9.length+l10.length+5<k):impl_EqualParties.f k a7 a8 l9 l10 b7 b8 m9 m10=some (eqv a7 a8 l9 l10 b7 b8 m9 m10):=by
 obtain⟨k,rfl⟩:=Yk k
 unfold impl_EqualParties.f eqv
 by_cases c0:a7=b7
 ·by_cases c1:a8=b8
  ·by_cases c2:(l9.length:Int)=(m9.length:Int)
   ·by_cases c3:(l10.length:Int)=(m10.length:Int)
    ·have hb:((l10.length:Int) != (m10.length:Int))=false:=by rw[c3];exact bne_self_eq_false _
     have q1:=ZRb a7 a8 l9 l10 b7 b8 m9 m10 hn Om hn2 Om l9.length k 0 Om Om Om
     rw[if_pos c0,if_pos c1,if_pos c2,hb,if_pos ⟨c0,c1,by omega,by omega⟩,impl_EqualParties.j0,if_neg (by decide)]
     exact q1
    ·have hb:((l10.length:Int) != (m10.length:Int))=true:=by rw[bne_iff_ne];exact c3
     rw[if_pos c0,if_pos c1,if_pos c2,hb,if_neg (fun g=>c3 (by rw[g.2.2.2])),impl_EqualParties.j0,if_pos rfl]
   ·rw[if_pos c0,if_pos c1,if_neg c2,if_neg (fun g=>c2 (by rw[g.2.2.1])),impl_EqualParties.j0,if_pos rfl]
  ·rw[if_pos c0,if_neg c1,if_neg (fun g=>c1 g.2.1),impl_EqualParties.j0,if_pos rfl]
 ·rw[if_neg c0,if_neg (fun g=>c0 g.1),impl_EqualParties.j0,if_pos rfl]
theorem Zta (l:List Int) (a:Int) (hl:l.length<=100):∀ (e:Nat) (i:Int),0<=i->(l.length:Int)-i=e->∀ k,e<k->laws_contains.l0 k l a i=some (decide (a∈l.drop i.toNat)):=by
 intro e
 induction e with
 |zero =>
  intro i h0 he k hk
  obtain⟨k,rfl⟩:=Yk k
  rw[laws_contains.l0,if_neg Om,List.drop_eq_nil_of_le Om]
  simp
 |succ e ih =>
  intro i h0 he k hk
  obtain⟨k,rfl⟩:=Yk k
  have hlt:i<(l.length:Int):=by omega
  have hlt2:i.toNat<l.length:=by omega
  have hrd:rd l i=l[i.toNat]'hlt2:=by unfold rd;rw[List.getD_eq_getElem?_getD,List.getElem?_eq_getElem hlt2];rfl
  have hw:wrap64 (i+1)=i+1:=Yw
  have e1:(i+1).toNat=i.toNat+1:=by omega
  rw[laws_contains.l0,if_pos hlt,if_pos h0,hw,List.drop_eq_getElem_cons hlt2,<-hrd]
  by_cases c:rd l i=a
  ·rw[if_pos c]
   simp[c]
  ·rw[if_neg c,ih (i+1) Om Om k Om,e1]
   simp[Ne.symm c]
theorem ZZ (l:List Int) (a:Int) (hl:l.length<=100) (k:Nat) (hk:100<k):laws_contains.f k l a=some (decide (a∈l)):=by
 have:=Zta l a hl l.length 0 Om Om k Om
 simpa [laws_contains.f] using this
theorem ZQa (l m:List Int) (hl:l.length<=100) (hm:m.length<=100) (h:∀ x∈l,x∈m):∀ (e:Nat) (i:Int),0<=i->(l.length:Int)-i=e->∀ k,101+e<k->laws_within.l0 k l m i=some true:=by
 intro e
 induction e with
 |zero =>
  intro i h0 he k hk
  obtain⟨k,rfl⟩:=Yk k
  rw[laws_within.l0,if_neg Om]
 |succ e ih =>
  intro i h0 he k hk
  obtain⟨k,rfl⟩:=Yk k
  have hlt:i<(l.length:Int):=by omega
  have hlt2:i.toNat<l.length:=by omega
  have hrd:rd l i=l[i.toNat]'hlt2:=by unfold rd;rw[List.getD_eq_getElem?_getD,List.getElem?_eq_getElem hlt2];rfl
  have hw:wrap64 (i+1)=i+1:=Yw
  have hmem:rd l i∈m:=h _ (by rw[hrd];exact List.getElem_mem hlt2)
  rw[laws_within.l0,if_pos hlt,if_pos h0,ZZ m (rd l i) hm k Om,Ob,hw]
  simp only[hmem,decide_true,if_true]
  exact ih (i+1) Om Om k Om
theorem ZPb (d:List Int) (hd:d.length<=1048576) (k:Nat) (hk:d.length+3200000<k):laws_FnGoing.j2 k d false=some true:=by
 obtain⟨k,rfl⟩:=Yk k
 obtain⟨W,H,xs,base,M,Wi,ds,a,b,l,h,t,hx,hds,hl,hh,h1⟩:=Zwa d hd
 obtain⟨CR,ns,N,E,MS,V⟩:=ZFa W H xs hx base M Wi ds Om l Om
 obtain⟨ws,D,hws,hD,hwd⟩:=Z5a W H xs Om a t
 obtain⟨w1,w2⟩:=hwd k Om
 simp only[laws_FnGoing.j2,Bool.false_eq_true,if_false,h1 k Om,Ob,impl_StepsOn.f,w1,impl_stepsAlong.f]
 by_cases c:ws.length=0
 ·have e:impl_stepsAlong.l0 k base ds ws 1 W H xs M Wi a b l h=some 0:=by
   obtain⟨k,rfl⟩:=Yk k
   have e0:(ws.length:Int)=0:=by omega
   rw[impl_stepsAlong.l0,if_neg Om,e0,show wrap64 (0-1)=-1 by unfold wrap64;omega]
   rfl
  simp only[e,Ob,if_true]
 ·obtain⟨v,hv1,hcr,hv⟩:=ZVa V Om ws Om (ws.length-1) 1 a b h Om Om Om
  have q:=hD Om
  simp only[hv k Om,Ob,w2]
  by_cases z:v=0
  ·rw[if_pos z]
  ·rw[if_neg z,if_pos Om,V.cr a b h k Om,Ob,hcr Om]
theorem ZMb (d:List Int) (hd:d.length<=1048576) (k:Nat) (hk:d.length+3200010<k):laws_FnGoing.j1 k d false=some true:=by
 obtain⟨k,rfl⟩:=Yk k
 have hj:=ZPb d hd k Om
 obtain⟨W,H,xs,base,M,Wi,ds,a,b,l,h,s,hx,hds,hl,hh,h1⟩:=ZWa d hd
 obtain⟨CR,ns,N,E,MS,V⟩:=ZFa W H xs hx base M Wi ds Om l Om
 simp only[laws_FnGoing.j1,Bool.false_eq_true,if_false,h1 k Om,Ob,ZKa V a b h Om Om s k Om,ZX V a b h Om k Om,V.ms h k Om Om]
 cases e:mw CR N E MS a b h
 ·simp[hj]
 ·have e2:=e
  unfold mw mb at e2
  simp only[Bool.and_eq_true,Bool.or_eq_true,Bool.not_eq_true'] at e2
  obtain⟨_,⟨_,r1⟩,r2⟩:=e2
  cases s with
  |false=>simp[V.cr a (wrap64 (b-N)) (Zg h false) k Om,r1,hj]
  |true =>
   cases m:MS h
   ·simp[hj]
   ·have r3:CR (a,wrap64 (b-N),Zg h true)=true:=by
     rcases r2 with r2|r2
     ·rw[m] at r2;cases r2
     ·exact r2.2
    simp[V.cr a (wrap64 (b-N)) (Zg h true) k Om,r3,hj]
theorem ZOb (d:List Int) (hd:d.length<=1048576) {W H:Int} {xs:List Int} {base M Wi:Int} {ds:List S106} {l:List S69} {CR:Int × Int × List Bool->Bool} {ns:Int->List Int} {N:Int} {E:Int->Bool} {MS:List Bool->Bool} (V:Ev W H xs base M Wi ds l 3100000 CR ns N E MS) (a b:Int) (h:List Bool) (hh:h.length<=10) (t:Int) (k:Nat) (hk:d.length+3200020<k) :
  laws_FnGoing.j0 k d base ds t false W H xs M Wi a b l h=some true:=by
 obtain⟨k,rfl⟩:=Yk k
 have hj:=ZMb d hd k Om
 have h4:=V.nlen a
 have hf:((ns a).filter (mg CR ns N E MS a b h)).length<=100:=Nat.le_trans (List.length_filter_le _ _) Om
 have hmem:decide (t∈(ns a).filter (mg CR ns N E MS a b h))=mg CR ns N E MS a b h t:=by
  rw[Bool.eq_iff_iff,decide_eq_true_eq,List.mem_filter]
  refine⟨fun g=>g.2,fun g=>⟨?_,g⟩⟩
  unfold mg at g
  simp only[Bool.and_eq_true,decide_eq_true_eq] at g
  exact g.2.1
 have hw:laws_within.f k ((ns a).filter (mg CR ns N E MS a b h)) (ns a)=some true:=by
  unfold laws_within.f
  exact ZQa _ _ hf Om (fun x hx=>(List.mem_filter.mp hx).1) _ 0 Om (by rw[Int.sub_zero]) k Om
 simp only[laws_FnGoing.j0,Bool.false_eq_true,if_false,ZRa V a b h Om k Om,Ob,ZZ _ t hf k Om,ZA V a b h Om t k Om,hmem,bne_self_eq_false,V.near a k Om,hw,Bool.not_true,hj]
theorem FnGoing:laws_FnGoing.Stmt:=by
 intro d
 by_cases hbig:(d.length:Int)>1048576
 ·exact fun _=>⟨0,by unfold laws_FnGoing.f laws_big.f;simp only[hbig,decide_true,Ob,if_true]⟩
 intro _
 have hd:d.length<=1048576:=by omega
 obtain⟨W,H,xs,base,M,Wi,ds,a,b,l,h,t,s,hx,hds,hl,hh,h1⟩:=Zgb d hd
 obtain⟨CR,ns,N,E,MS,V⟩:=ZFa W H xs hx base M Wi ds Om l Om
 obtain⟨k,hk⟩:∃ k,k=d.length+3200100:=⟨_,rfl⟩
 have hj:=ZOb d hd V a b h hh t k Om
 have heq:=ZLb a b l h a b l h Om Om k Om
 rw[Zmb] at heq
 refine⟨k,?_⟩
 simp only[laws_FnGoing.f,laws_big.f,hbig,decide_false,Ob,Bool.false_eq_true,if_false,h1 k Om,ZO V a b h Om Om t s k Om,ZA V a b h Om t k Om,V.ms h k Om Om]
 cases e:mg CR ns N E MS a b h t
 ·simp[heq,hj]
 ·have e2:=e
  unfold mg mb at e2
  simp only[Bool.and_eq_true,Bool.or_eq_true,Bool.not_eq_true'] at e2
  obtain⟨_,_,⟨_,r1⟩,r2⟩:=e2
  cases s with
  |false=>simp[V.cr t (wrap64 (b-N)) (Zg h false) k Om,r1,V.need k Om,hj]
  |true =>
   cases m:MS h
   ·simp[heq,hj]
   ·have r3:CR (a,wrap64 (b-N),Zg h true)=true:=by
     rcases r2 with r2|r2
     ·rw[m] at r2;cases r2
     ·exact r2.2
    simp[V.cr a (wrap64 (b-N)) (Zg h true) k Om,r3,V.need k Om,hj]

end Go.Proofs.Ytkcachediijmoaa.Pure
