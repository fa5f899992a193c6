/- Laying and taking loses no food, whoever lays or takes can still return, a lay step is done just where it may be, and the most that may be laid is the most that may be laid: the law FnCaches holds for every code (a code of more than 2^20 bytes the law lets pass). No further condition. -/
import Derived.Test.YtkonccdanjhngaaSFnCaches
namespace Go.Proofs.Ytkonccdanjhngaa.Pure
open Go.RowKit Go.Proofs.Ytkonccdanjhngaa.Q Go.Proofs.YtkonccdanjhngaaW.PrintWords Go.Proofs.YtkonccdanjhngaaW.PrintLast Go.Proofs.YtkonccdanjhngaaW.PrintMore
set_option linter.unusedVariables false
set_option linter.unusedSimpArgs false
theorem Yw {p:Prop} (h:p:=by unfold wrap64;omega):p:=h
theorem Yk (k:Nat) (h:0<k:=by omega):∃ m,k=m+1:=⟨k-1,by omega⟩
theorem Om {p:Prop} (h:p:=by omega):p:=h
theorem Ob {α β:Type} (a:α) (f:α→Option β):(some a).bind f=f a:=rfl
theorem Zp {i:Int} {n:Nat} (h0:0<=i) (h:i<(n:Int)) (hn:n<=1048576):wrap64 (i+1)=i+1:=by
 unfold wrap64;omega
theorem Zz {α:Type} (d:α) (l:List α) (i:Int) (h0:0<=i) (h:i<(l.length:Int)):l.drop i.toNat=l.getD i.toNat d :: l.drop (i+1).toNat:=by
 have h1:i.toNat<l.length:=by omega
 rw[List.drop_eq_getElem_cons h1,show (i+1).toNat=i.toNat+1 by omega]
 congr 1
 simp[List.getD_eq_getElem?_getD,List.getElem?_eq_getElem h1]
theorem Zg (a b c:Int):q1h.f a b c=some (decide (b<=a/\a<=c)):=by
 unfold q1h.f
 by_cases h:a>=b
 ·rw[if_pos h];congr 1;have:b<=a:=h;simp[this]
 ·rw[if_neg h];have:¬ b<=a:=h;simp[this]
theorem Zb (a b c:Int):q0q.f a b c=some (decide (b<=a/\a<=c)):=by
 unfold q0q.f
 by_cases h:b<=a
 ·rw[if_pos h];simp[h]
 ·rw[if_neg h];simp[h]
def ZI (m:S95):Prop:=1<=m.f0/\m.f0<=99/\0<=m.f1/\m.f1<=100/\1<=m.f2/\m.f2<=10
theorem Z8a (xs:List S95) (hn:xs.length<=1048576):∀ (d:Nat) (i:Int),0<=i->(xs.length:Int)-i=d ->
  ∃ b,(∀ k,d<k->q0u.l0 k xs xs (xs.length:Int) i=some b/\q0v.l0 k xs i=some b)/\(b=true->(1<=xs.length/\xs.length<=8)/\∀ j:Int,i<=j->j<(xs.length:Int)->ZI (q0n xs j)):=by
 intro d
 induction d with
 |zero =>
  intro i h0 hd
  have hlt:¬ i<(xs.length:Int):=by omega
  refine⟨decide (1<=(xs.length:Int)/\(xs.length:Int)<=8),fun k hk=>?_,fun hb=>?_⟩
  ·obtain⟨k,rfl⟩:=Yk k
   simp only[q0u.l0,q0v.l0,if_neg hlt,Zg,Zb,Ob,and_self]
  ·have:=of_decide_eq_true hb
   exact⟨by omega,fun j h1 h2=>by omega⟩
 |succ d ih =>
  intro i h0 hd
  have hlt:i<(xs.length:Int):=by omega
  obtain⟨b,hb,hp⟩:=ih (i+1) Om Om
  have hw:wrap64 (i-1)=i-1:=Yw
  by_cases ok:(1<=(q0n xs i).f0/\(q0n xs i).f0<=99/\0<=(q0n xs i).f1/\(q0n xs i).f1<=100/\1<=(q0n xs i).f2/\(q0n xs i).f2<=10)/\(i>0->(q0n xs (i-1)).f0<(q0n xs i).f0)
  ·refine⟨b,fun k hk=>?_,fun e=>⟨(hp e).1,fun j h1 h2=>?_⟩⟩
   ·obtain⟨k,rfl⟩:=Yk k
    obtain⟨b1,b2⟩:=hb k Om
    have e1:1<=(q0n xs i).f0/\(q0n xs i).f0<=99:=⟨ok.1.1,ok.1.2.1⟩
    have e2:0<=(q0n xs i).f1/\(q0n xs i).f1<=100:=⟨ok.1.2.2.1,ok.1.2.2.2.1⟩
    have e3:1<=(q0n xs i).f2/\(q0n xs i).f2<=10:=ok.1.2.2.2.2
    simp only[q0u.l0,q0v.l0,if_pos hlt,if_pos h0,Zg,Zb,Ob,decide_eq_true_eq,if_pos e1,if_pos e2,if_pos e3,hw,Zp (n:=xs.length) h0 hlt hn]
    by_cases hi:i>0
    ·have h1:0<=i-1:=by omega
     have h2:i-1<(xs.length:Int):=by omega
     have h3:=ok.2 hi
     have h4:¬ (q0n xs i).f0<=(q0n xs (i-1)).f0:=by omega
     have h5:¬ (q0n xs (i-1)).f0>=(q0n xs i).f0:=by omega
     simp only[if_pos hi,if_pos h1,if_pos h2,if_neg h4,if_neg h5]
     exact⟨b1,b2⟩
    ·simp only[if_neg hi]
     exact⟨b1,b2⟩
   ·by_cases e2:j=i
    ·subst e2;exact ok.1
    ·exact(hp e).2 j Om h2
  ·refine⟨false,fun k hk=>?_,fun e=>by cases e⟩
   obtain⟨k,rfl⟩:=Yk k
   simp only[q0u.l0,q0v.l0,if_pos hlt,if_pos h0,Zg,Zb,Ob,decide_eq_true_eq,hw]
   constructor
   ·repeat' split
    all_goals first|rfl|(exfalso;omega)
   ·repeat' split
    all_goals first|rfl|(exfalso;omega)
theorem ZM (xs:List S95) (hn:xs.length<=1048576):∃ b,(∀ k,xs.length<k->q0u.f k xs=some b/\q0v.f k xs=some b)/\(b=true->(1<=xs.length/\xs.length<=8)/\∀ j:Int,0<=j->j<(xs.length:Int)->ZI (q0n xs j)):=by
 obtain⟨b,h,hp⟩:=Z8a xs hn xs.length 0 Om Om
 exact⟨b,h,hp⟩
theorem ZCa (W H:Int) (xs:List Int) (hn:xs.length<=1048576):∀ (d:Nat) (i:Int),0<=i->(xs.length:Int)-i=d ->
  ∃ b,(∀ k,d<k->q4o.l0 k 0 2 xs (xs.length:Int) i=some b/\q1i.l0 k i W H xs=some b)/\(b=true->∀ j:Int,i<=j->j<(xs.length:Int)->0<=rd xs j/\rd xs j<=2):=by
 intro d
 induction d with
 |zero =>
  intro i h0 hd
  have hlt:¬ i<(xs.length:Int):=by omega
  refine⟨true,fun k hk=>?_,fun _ j h1 h2=>by omega⟩
  obtain⟨k,rfl⟩:=Yk k
  simp only[q4o.l0,q1i.l0,if_neg hlt,and_self]
 |succ d ih =>
  intro i h0 hd
  have hlt:i<(xs.length:Int):=by omega
  obtain⟨b,hb,hp⟩:=ih (i+1) Om Om
  by_cases e:0<=rd xs i/\rd xs i<=2
  ·refine⟨b,fun k hk=>?_,fun h j h1 h2=>?_⟩
   ·obtain⟨k,rfl⟩:=Yk k
    simp only[q4o.l0,q1i.l0,if_pos hlt,if_pos h0,Zg,Zb,e,and_self,decide_true,Ob,if_true,Zp (n:=xs.length) h0 hlt hn]
    exact hb k Om
   ·by_cases h3:j=i
    ·subst h3;exact e
    ·exact hp h j Om h2
  ·refine⟨false,fun k hk=>?_,fun h=>by cases h⟩
   obtain⟨k,rfl⟩:=Yk k
   simp only[q4o.l0,q1i.l0,if_pos hlt,if_pos h0,Zg,Zb,e,decide_false,Ob,Bool.false_eq_true,if_false,and_self]
theorem ZAb (W H:Int) (xs:List Int) (hn:xs.length<=1048576):∃ b,(∀ k,xs.length+1<k->q3l.f k W H xs=some b/\q1i.f k W H xs=some b) /\
  (b=true->(1<=W/\W<=8)/\(1<=H/\H<=8)/\(xs.length:Int)=W * H/\1<=xs.length/\xs.length<=64/\∀ j:Int,0<=j->j<(xs.length:Int)->0<=rd xs j/\rd xs j<=2):=by
 by_cases hW:1<=W/\W<=8
 ·by_cases hH:1<=H/\H<=8
  ·have h1:W * H<=8 * 8:=Int.mul_le_mul hW.2 hH.2 Om Om
   have h2:1 * 1<=W * H:=Int.mul_le_mul hW.1 hH.1 Om Om
   have hw:wrap64 (W * H)=W * H:=Yw
   by_cases hl:(xs.length:Int)=W * H
   ·obtain⟨b,hb,hp⟩:=ZCa W H xs hn xs.length 0 Om Om
    refine⟨b,fun k hk=>?_,fun e=>⟨hW,hH,hl,by omega,by omega,hp e⟩⟩
    obtain⟨k,rfl⟩:=Yk k
    have e:((xs.length:Int) != W * H)=false:=by simp[hl]
    have b1:=(hb (k+1) Om).1
    have b2:=(hb k Om).2
    unfold q3l.f q1i.f
    simp only[Zg,Zb,hW,hH,and_self,decide_true,Ob,if_true,hw,if_pos hl,e,q1i.j0,Bool.false_eq_true,if_false,q4o.f,b1,b2]
   ·refine⟨false,fun k hk=>?_,fun e=>by cases e⟩
    obtain⟨k,rfl⟩:=Yk k
    have e:((xs.length:Int) != W * H)=true:=by simp[hl]
    unfold q3l.f q1i.f
    simp only[Zg,Zb,hW,hH,and_self,decide_true,Ob,if_true,hw,if_neg hl,e,q1i.j0]
  ·refine⟨false,fun k hk=>?_,fun e=>by cases e⟩
   obtain⟨k,rfl⟩:=Yk k
   unfold q3l.f q1i.f
   simp only[Zg,Zb,hW,hH,and_self,decide_true,decide_false,Ob,if_true,Bool.false_eq_true,if_false,q1i.j0]
 ·refine⟨false,fun k hk=>?_,fun e=>by cases e⟩
  obtain⟨k,rfl⟩:=Yk k
  unfold q3l.f q1i.f
  simp only[Zg,Zb,hW,decide_false,Ob,if_true,Bool.false_eq_true,if_false,q1i.j0,and_self]
def fsM:List S95->Int
 |[]=>0
 |m :: ms=>m.f2+fsM ms
theorem ZRa:∀ l:List S95,(∀ m∈l,ZI m)->(l.length:Int)<=fsM l/\fsM l<=10 * (l.length:Int)
 |[],_=>by simp[fsM]
 |m :: ms,h=>by
  have h1:=ZRa ms (fun x hx=>h x (List.mem_cons_of_mem _ hx))
  have h2:=h m (List.mem_cons_self)
  unfold ZI at h2
  simp only[fsM,List.length_cons]
  omega
theorem Zic {xs:List S95} (h:∀ j:Int,0<=j->j<(xs.length:Int)->ZI (q0n xs j)):∀ m∈xs,ZI m:=by
 intro m hm
 obtain⟨j,hj,rfl⟩:=List.mem_iff_getElem.mp hm
 have:=h (j:Int) Om Om
 unfold q0n at this
 simpa [List.getD_eq_getElem?_getD,List.getElem?_eq_getElem hj] using this
theorem Zcb (xs:List S95) (hn:xs.length<=8) (hfit:∀ m∈xs,ZI m) (hc:∀ k,xs.length<k->q0v.f k xs=some true):∀ (d:Nat) (i a:Int),0<=i->(xs.length:Int)-i=d->0<=a->a<=1000-10 * d ->
  ∀ k,xs.length+d+2<k->q3h.l0 k a xs (xs.length:Int) i=some (a+fsM (xs.drop i.toNat))/\q3k.l0 k xs a i=some (a+fsM (xs.drop i.toNat)):=by
 intro d
 induction d with
 |zero =>
  intro i a h0 hd _ _ k hk
  obtain⟨k,rfl⟩:=Yk k
  have hlt:¬ i<(xs.length:Int):=by omega
  simp only[q3h.l0,q3k.l0,if_neg hlt,List.drop_eq_nil_of_le (show xs.length<=i.toNat by omega),fsM,Int.add_zero,and_self]
 |succ d ih =>
  intro i a h0 hd ha hb k hk
  obtain⟨k,rfl⟩:=Yk k
  have hlt:i<(xs.length:Int):=by omega
  have hm:ZI (q0n xs i):=hfit _ (by
   unfold q0n
   have h1:i.toNat<xs.length:=by omega
   simp[List.getD_eq_getElem?_getD,List.getElem?_eq_getElem h1])
  unfold ZI at hm
  have hw:wrap64 (a+(q0n xs i).f2)=a+(q0n xs i).f2:=Yw
  obtain⟨h1,h2⟩:=ih (i+1) (a+(q0n xs i).f2) Om Om Om Om k Om
  rw[Zz z95 xs i h0 hlt,show xs.getD i.toNat z95=q0n xs i from rfl]
  simp only[q3h.l0,q3k.l0,if_pos hlt,if_pos h0,hc k Om,Ob,if_true,hw,Zp (n:=xs.length) h0 hlt Om,fsM,h1,h2,Int.add_assoc,and_self]
theorem ZNa (xs:List S95) (hn:xs.length<=1048576):∃ b c,(∀ k,xs.length<k->q0u.f k xs=some b/\q0v.f k xs=some b) /\
  (b=true->c=fsM xs/\1<=xs.length/\xs.length<=8/\(∀ m∈xs,ZI m)/\1<=c/\c<=80)/\(b=false->c=0) /\
  ∀ k,2 * xs.length+3<k->q3h.f k xs=some c/\q3k.f k xs=some c:=by
 obtain⟨b,hb,hp⟩:=ZM xs hn
 cases b with
 |true =>
  obtain⟨⟨h1,h8⟩,hf⟩:=hp rfl
  have hm:=Zic hf
  have hbd:=ZRa xs hm
  refine⟨true,fsM xs,hb,fun _=>⟨rfl,h1,h8,hm,by omega,by omega⟩,(fun e=>by cases e),fun k hk=>?_⟩
  obtain⟨h3,h4⟩:=Zcb xs h8 hm (fun k hk=>(hb k hk).2) xs.length 0 0 Om Om Om Om k Om
  rw[Int.toNat_zero,List.drop_zero,Int.zero_add] at h3 h4
  unfold q3h.f q3k.f
  simp only[(hb k Om).1,Ob,if_true]
  exact⟨h3,h4⟩
 |false =>
  refine⟨false,0,hb,fun e=>(by cases e),fun _=>rfl,fun k hk=>?_⟩
  obtain⟨k,rfl⟩:=Yk k
  unfold q3h.f q3k.f
  simp only[(hb (k+1) Om).1,Ob,Bool.false_eq_true,if_false,q3k.l0,(hb k Om).2,ite_self,and_self]
theorem Zdb (xs:List S95) (hn:xs.length<=1048576) (h8:xs.length<=8) (hf:∀ j:Int,0<=j->j<(xs.length:Int)->ZI (q0n xs j)) (hc:∀ k,xs.length<k->q0v.f k xs=some true):∀ (d:Nat) (i a:Int),0<=i->(xs.length:Int)-i=d->0<=a->a<=100 * i ->
  ∃ c,(0<=c/\c<=800)/\∀ k,xs.length+2 * d+2<k->q2p.l0 k a xs (xs.length:Int) i=some c/\q1z.l0 k xs a i=some c:=by
 intro d
 induction d with
 |zero =>
  intro i a h0 hd ha ha2
  have hlt:¬ i<(xs.length:Int):=by omega
  refine⟨a,⟨ha,by omega⟩,fun k hk=>?_⟩
  obtain⟨k,rfl⟩:∃ m,k=m+2:=⟨k-2,by omega⟩
  simp only[q2p.l0,q1z.l0,q1z.j1,if_neg hlt,Bool.false_eq_true,if_false,and_self]
 |succ d ih =>
  intro i a h0 hd ha ha2
  have hm:=hf i h0 Om
  unfold ZI at hm
  have hwa:wrap64 (a+(q0n xs i).f1)=a+(q0n xs i).f1:=Yw
  have hlt:i<(xs.length:Int):=by omega
  by_cases hf:(q0n xs i).f3=true
  ·obtain⟨c,hcb,hk2⟩:=ih (i+1) a Om Om ha Om
   refine⟨c,hcb,fun k hk=>?_⟩
   obtain⟨k,rfl⟩:∃ m,k=m+2:=⟨k-2,by omega⟩
   have h1:=(hk2 (k+1) Om).1
   have h2:=(hk2 k Om).2
   simp only[q2p.l0,q1z.l0,q1z.j1,if_pos hlt,if_pos h0,if_pos hf,hc (k+1) Om,Ob,if_true,Zp (n:=xs.length) h0 hlt hn] at h1 h2 ⊢
   exact⟨h1,h2⟩
  ·obtain⟨c,hcb,hk2⟩:=ih (i+1) (wrap64 (a+(q0n xs i).f1)) Om Om Om Om
   refine⟨c,hcb,fun k hk=>?_⟩
   obtain⟨k,rfl⟩:∃ m,k=m+2:=⟨k-2,by omega⟩
   have h1:=(hk2 (k+1) Om).1
   have h2:=(hk2 k Om).2
   constructor
   ·rw[q2p.l0]
    simp only[if_pos hlt,if_pos h0,if_neg hf,Zp (n:=xs.length) h0 hlt hn]
    exact h1
   ·rw[q1z.l0]
    simp only[q1z.j1,if_pos hlt,if_pos h0,if_neg hf,hc (k+1) Om,Ob,if_true,Zp (n:=xs.length) h0 hlt hn]
    exact h2
theorem Z8 (xs:List S95) (hn:xs.length<=1048576):∃ c,(0<=c/\c<=800)/\∀ k,3 * xs.length+3<k->q2p.f k xs=some c/\q1z.f k xs=some c:=by
 obtain⟨b,hb,hp⟩:=ZM xs hn
 cases b with
 |true =>
  obtain⟨⟨h1,h8⟩,hf⟩:=hp rfl
  obtain⟨c,hcb,hc⟩:=Zdb xs hn h8 hf (fun k hk=>(hb k hk).2) xs.length 0 0 Om Om Om Om
  refine⟨c,hcb,fun k hk=>?_⟩
  unfold q2p.f q1z.f
  simp only[(hb k Om).1,Ob,if_true]
  exact hc k Om
 |false =>
  refine⟨0,by omega,fun k hk=>?_⟩
  obtain⟨k,rfl⟩:∃ m,k=m+2:=⟨k-2,by omega⟩
  unfold q2p.f q1z.f
  simp only[(hb (k+2) Om).1,Ob,Bool.false_eq_true,if_false,q1z.l0,(hb (k+1) Om).2,q1z.j1,ite_self,and_self]
theorem Zr (a b:Int) (l:List S95) (h:List Bool) (hl:l.length<=1048576) (hh:h.length<=1048576):q1c.f a b l h=some (a,b,l,h)/\q2l.f a b l h=some (a,b,l,h):=by
 have e1:([]:List S95).length+l.length<4398046511104:=by simp;omega
 have e2:([]:List Bool).length+h.length<140737488355328:=by simp;omega
 unfold q1c.f q2l.f q5p.f
 simp only[Ob,if_pos e1,if_pos e2,List.nil_append,and_self]
theorem Zra (a b:Int):q8d.f a b=some (mn a b):=by
 unfold q8d.f mn;split <;> rfl
def Zm:List Int->Nat
 |[]=>0
 |v :: vs=>(if v<0 then 1 else 0)+Zm vs
theorem ZG:∀ (l:List Int) (i:Nat) (v:Int),i<l.length->l.getD i 0<0->0<=v->Zm (l.set i v)+1=Zm l
 |x :: xs,0,v,_,h,hv=>by
  simp only[List.getD_cons_zero] at h
  simp only[List.set_cons_zero,Zm,if_pos h]
  rw[if_neg Om];omega
 |x :: xs,i+1,v,hi,h,hv=>by
  have:=ZG xs i v (by simpa using hi) (by simpa using h) hv
  simp only[List.set_cons_succ,Zm];omega
def Zh (d q:List Int) (own:Int):List Int->List Int × List Int
 |[]=>(d,q)
 |b :: bs=>if rd d b<0 then Zh (d.set b.toNat (rd d own+1)) (q++[b]) own bs else Zh d q own bs
def bfs (adj:Int->List Int):Nat->List Int->List Int->List Int
 |0,d,_=>d
 |_+1,d,[]=>d
 |f+1,d,own :: rest=>bfs adj f (Zh d rest own (adj own)).1 (Zh d rest own (adj own)).2
theorem ZE (l:List Int) (x j v:Int) (hx:0<=x) (hx2:x<(l.length:Int)) (hj:0<=j):rd (l.set x.toNat v) j=if j=x then v else rd l j:=by
 unfold rd
 rw[List.getD_eq_getElem?_getD,List.getD_eq_getElem?_getD,List.getElem?_set]
 by_cases e:j=x
 ·subst e
  have h:j.toNat<l.length:=by omega
  simp[h]
 ·rw[if_neg (show ¬ x.toNat=j.toNat by omega),if_neg e]
structure Visited (d q:List Int) (own:Int) (bs:List Int) (d' q':List Int):Prop where
 len:d'.length=d.length
 old:∀ v,0<=v->0<=rd d v->rd d' v=rd d v
 new:∀ v,0<=v->rd d v<0->rd d' v=rd d v\/(v∈bs/\rd d' v=rd d own+1)
 seen:∀ b∈bs,0<=rd d' b
 que:∃ ns,q'=q++ns/\ns.length+Zm d'=Zm d/\(∀ x∈ns,x∈bs/\rd d' x=rd d own+1)/\∀ v,0<=v->rd d v<0->0<=rd d' v->v∈ns
theorem ZK (n:Nat) (own:Int) (hown:0<=own):∀ (bs d q:List Int),d.length=n->0<=rd d own->(∀ b∈bs,0<=b/\b<(n:Int))->Visited d q own bs (Zh d q own bs).1 (Zh d q own bs).2
 |[],d,q,hl,h0,hb=>⟨rfl,fun _ _ _=>rfl,fun _ _ _=>Or.inl rfl,fun b hb=>(by cases hb),⟨[],(by simp[Zh]),(by simp[Zh]),fun x hx=>(by cases hx),fun v h1 h2 h3=>(by simp only[Zh] at h3;omega)⟩⟩
 |b :: bs,d,q,hl,h0,hb=>by
  have hbb:=hb b (List.mem_cons_self)
  unfold Zh
  by_cases c:rd d b<0
  ·rw[if_pos c]
   have hr:=fun j hj=>ZE d b j (rd d own+1) hbb.1 Om hj
   have hob:own≠b:=fun e=>by rw[e] at h0;omega
   have ho2:rd (d.set b.toNat (rd d own+1)) own=rd d own:=by rw[hr own hown,if_neg hob]
   have ih:=ZK n own hown bs (d.set b.toNat (rd d own+1)) (q++[b]) (by simpa using hl) (by rw[ho2];exact h0) (fun x hx=>hb x (List.mem_cons_of_mem _ hx))
   obtain⟨i1,i2,i3,i4,ns,i5,i6,i7,i8⟩:=ih
   rw[ho2] at i3 i7
   have hb1:rd (d.set b.toNat (rd d own+1)) b=rd d own+1:=by rw[hr b hbb.1,if_pos rfl]
   have hb2:=i2 b hbb.1 (by rw[hb1];omega)
   rw[hb1] at hb2
   refine⟨by rw[i1,List.length_set],fun v hv h=>?_,fun v hv h=>?_,fun x hx=>?_,b :: ns,by rw[i5];simp,?_,fun x hx=>?_,fun v hv h1 h2=>?_⟩
   ·have hvb:v≠b:=fun e=>by rw[e] at h;omega
    rw[i2 v hv (by rw[hr v hv,if_neg hvb];exact h),hr v hv,if_neg hvb]
   ·by_cases e:v=b
    ·subst e;exact Or.inr ⟨List.mem_cons_self,hb2⟩
    ·have h2:=i3 v hv (by rw[hr v hv,if_neg e];exact h)
     rw[hr v hv,if_neg e] at h2
     rcases h2 with h2|⟨h2,h3⟩
     ·exact Or.inl h2
     ·exact Or.inr ⟨List.mem_cons_of_mem _ h2,h3⟩
   ·rcases List.mem_cons.mp hx with h|h
    ·rw[h,hb2];omega
    ·exact i4 x h
   ·have:=ZG d b.toNat (rd d own+1) Om (by exact c) Om
    simp only[List.length_cons];omega
   ·rcases List.mem_cons.mp hx with h|h
    ·rw[h];exact⟨List.mem_cons_self,hb2⟩
    ·exact⟨List.mem_cons_of_mem _ (i7 x h).1,(i7 x h).2⟩
   ·by_cases e:v=b
    ·rw[e];exact List.mem_cons_self
    ·exact List.mem_cons_of_mem _ (i8 v hv (by rw[hr v hv,if_neg e];exact h1) h2)
  ·rw[if_neg c]
   obtain⟨i1,i2,i3,i4,ns,i5,i6,i7,i8⟩:=ZK n own hown bs d q hl h0 (fun x hx=>hb x (List.mem_cons_of_mem _ hx))
   refine⟨i1,i2,fun v hv h=>?_,fun x hx=>?_,ns,i5,i6,fun x hx=>⟨List.mem_cons_of_mem _ (i7 x hx).1,(i7 x hx).2⟩,i8⟩
   ·rcases i3 v hv h with h2|⟨h2,h3⟩
    ·exact Or.inl h2
    ·exact Or.inr ⟨List.mem_cons_of_mem _ h2,h3⟩
   ·rcases List.mem_cons.mp hx with h|h
    ·rw[h,i2 b hbb.1 Om];omega
    ·exact i4 x h
structure BInv (adj:Int->List Int) (n:Nat) (src:Int) (d q:List Int) (m:Int):Prop where
 len:d.length=n
 m0:0<=m
 src0:rd d src=0
 zero:∀ v,0<=v->v<(n:Int)->rd d v=0->v=src
 lvl:∃ A B,q=A++B/\(∀ x∈A,0<=x/\x<(n:Int)/\rd d x=m)/\(∀ x∈B,0<=x/\x<(n:Int)/\rd d x=m+1)
 top:∀ v,0<=v->rd d v<=m+1
 from_:∀ v,0<=v->v<(n:Int)->0<=rd d v->v≠src->∃ u,0<=u/\u<(n:Int)/\v∈adj u/\0<=rd d u/\rd d u=rd d v-1
 done:∀ u,0<=u->u<(n:Int)->0<=rd d u->u ∉ q->∀ v∈adj u,0<=rd d v/\rd d v<=rd d u+1
structure BEnd (adj:Int->List Int) (n:Nat) (src:Int) (d:List Int):Prop where
 len:d.length=n
 src0:rd d src=0
 zero:∀ v,0<=v->v<(n:Int)->rd d v=0->v=src
 from_:∀ v,0<=v->v<(n:Int)->0<=rd d v->v≠src->∃ u,0<=u/\u<(n:Int)/\v∈adj u/\0<=rd d u/\rd d u=rd d v-1
 done:∀ u,0<=u->u<(n:Int)->0<=rd d u->∀ v∈adj u,0<=rd d v/\rd d v<=rd d u+1
theorem Zlc (adj:Int->List Int) (n:Nat) (src:Int) (hs:0<=src) (hs1:src<(n:Int)) (hadj:∀ u,0<=u->u<(n:Int)->∀ v∈adj u,0<=v/\v<(n:Int)):∀ (f:Nat) (d q:List Int) (m:Int),BInv adj n src d q m->q.length+Zm d<=f->BEnd adj n src (bfs adj f d q):=by
 have endq:∀ (d:List Int) (m:Int),BInv adj n src d [] m->BEnd adj n src d:=fun d m h=>⟨h.len,h.src0,h.zero,h.from_,fun u hu hu1 h2=>h.done u hu hu1 h2 (by simp)⟩
 intro f
 induction f with
 |zero =>
  intro d q m h hf
  have:q=[]:=List.eq_nil_of_length_eq_zero Om
  subst this
  exact endq d m h
 |succ f ih =>
  intro d q m h hf
  cases q with
  |nil=>exact endq d m h
  |cons own rest =>
   have key:∃ m',m<=m'/\BInv adj n src d (own :: rest) m'/\(0<=own/\own<(n:Int)/\rd d own=m')/\∃ A B,rest=A++B/\(∀ x∈A,0<=x/\x<(n:Int)/\rd d x=m')/\(∀ x∈B,0<=x/\x<(n:Int)/\rd d x=m'+1):=by
    obtain⟨A,B,e,hA,hB⟩:=h.lvl
    cases A with
    |cons a A =>
     simp only[List.cons_append,List.cons.injEq] at e
     obtain⟨rfl,rfl⟩:=e
     exact⟨m,Int.le_refl _,h,hA own List.mem_cons_self,A,B,rfl,fun x hx=>hA x (List.mem_cons_of_mem _ hx),hB⟩
    |nil =>
     simp only[List.nil_append] at e
     subst e
     refine⟨m+1,by omega,⟨h.len,by have:=h.m0;omega,h.src0,h.zero,⟨own :: rest,[],by simp,hB,fun x hx=>by cases hx⟩,fun v hv=>by have:=h.top v hv;omega,h.from_,h.done⟩,hB own List.mem_cons_self,rest,[],by simp,fun x hx=>hB x (List.mem_cons_of_mem _ hx),fun x hx=>by cases hx⟩
   obtain⟨m',_,h',⟨ho0,ho1,ho2⟩,A,B,hr,hA,hB⟩:=key
   have hm0:=h'.m0
   obtain⟨v1,v2,v3,v4,ns,v5,v6,v7,v8⟩:=ZK n own ho0 (adj own) d rest h'.len Om (hadj own ho0 ho1)
   show BEnd adj n src (bfs adj f (Zh d rest own (adj own)).1 (Zh d rest own (adj own)).2)
   obtain⟨d',hd'⟩:∃ d',d'=(Zh d rest own (adj own)).1:=⟨_,rfl⟩
   obtain⟨q',hq'⟩:∃ q',q'=(Zh d rest own (adj own)).2:=⟨_,rfl⟩
   rw[<-hd'] at v1 v2 v3 v4 v6 v7 v8 ⊢
   rw[<-hq'] at v5 ⊢
   have keep:∀ x,0<=x->0<=rd d x->rd d' x=rd d x:=v2
   have hsrc:rd d' src=0:=by rw[keep src hs (by rw[h'.src0];omega),h'.src0]
   refine ih d' q' m' ⟨by rw[v1,h'.len],hm0,hsrc,fun v hv hv1 e=>?_,?_,fun v hv=>?_,fun v hv hv1 e hne=>?_,fun u hu hu1 e hnq v hvu=>?_⟩ ?_
   ·by_cases c:0<=rd d v
    ·exact h'.zero v hv hv1 (by rw[<-keep v hv c];exact e)
    ·rcases v3 v hv Om with h2|⟨_,h2⟩ <;> omega
   ·refine⟨A,B++ns,by rw[v5,hr,List.append_assoc],fun x hx=>?_,fun x hx=>?_⟩
    ·have:=hA x hx
     exact⟨this.1,this.2.1,by rw[keep x this.1 Om];exact this.2.2⟩
    ·rcases List.mem_append.mp hx with h2|h2
     ·have:=hB x h2
      exact⟨this.1,this.2.1,by rw[keep x this.1 Om];exact this.2.2⟩
     ·obtain⟨h3,h4⟩:=v7 x h2
      have:=hadj own ho0 ho1 x h3
      exact⟨this.1,this.2,by rw[h4,ho2]⟩
   ·by_cases c:0<=rd d v
    ·rw[keep v hv c];exact h'.top v hv
    ·rcases v3 v hv Om with h2|⟨_,h2⟩ <;> omega
   ·by_cases c:0<=rd d v
    ·obtain⟨u,u1,u2,u3,u4,u5⟩:=h'.from_ v hv hv1 c hne
     exact⟨u,u1,u2,u3,by rw[keep u u1 u4];exact u4,by rw[keep u u1 u4,keep v hv c];exact u5⟩
    ·rcases v3 v hv Om with h2|⟨h2,h3⟩
     ·omega
     ·exact⟨own,ho0,ho1,h2,by rw[keep own ho0 Om];omega,by rw[keep own ho0 Om,h3];omega⟩
   ·by_cases c:0<=rd d u
    ·rw[keep u hu c]
     by_cases e2:u=own
     ·subst e2
      refine⟨v4 v hvu,?_⟩
      have hvr:=hadj u ho0 ho1 v hvu
      by_cases c2:0<=rd d v
      ·rw[keep v hvr.1 c2,ho2];exact h'.top v hvr.1
      ·rcases v3 v hvr.1 Om with h2|⟨_,h2⟩
       ·have:=v4 v hvu;omega
       ·omega
     ·have hnq2:u ∉ own :: rest:=by
       intro hm
       rcases List.mem_cons.mp hm with h2|h2
       ·exact e2 h2
       ·exact hnq (by rw[v5];exact List.mem_append_left _ h2)
      obtain⟨h2,h3⟩:=h'.done u hu hu1 c hnq2 v hvu
      have hv0:0<=v:=(hadj u hu hu1 v hvu).1
      rw[keep v hv0 h2]
      exact⟨h2,h3⟩
    ·exfalso
     exact hnq (by rw[v5];exact List.mem_append_right _ (v8 u hu Om e))
   ·have:(own :: rest).length=rest.length+1:=rfl
    rw[v5,List.length_append];omega
structure LandOk (W H:Int) (xs:List Int):Prop where
 w:1<=W/\W<=8
 h:1<=H/\H<=8
 len:(xs.length:Int)=W * H
 pos:1<=xs.length
 le:xs.length<=64
 ev:∀ k,70<k->q3l.f k W H xs=some true/\q1i.f k W H xs=some true
theorem ZD (W H:Int) (xs:List Int) (hn:xs.length<=1048576):LandOk W H xs\/∀ k,xs.length+1<k->q3l.f k W H xs=some false/\q1i.f k W H xs=some false:=by
 obtain⟨b,hb,hp⟩:=ZAb W H xs hn
 cases b with
 |false=>exact Or.inr hb
 |true =>
  obtain⟨h1,h2,h3,h4,h5,_⟩:=hp rfl
  exact Or.inl ⟨h1,h2,h3,h4,h5,fun k hk=>hb k Om⟩
def opn (xs:List Int) (m:Int):Bool:=decide (0<=m/\m<(xs.length:Int)) && (rd xs m != 2)
theorem Za {xs:List Int} {m:Int} (h:opn xs m=true):0<=m/\m<(xs.length:Int):=by
 unfold opn at h
 rw[Bool.and_eq_true,decide_eq_true_eq] at h
 exact h.1
theorem ZC {W H:Int} {xs:List Int} (L:LandOk W H xs) (m:Int) (k:Nat) (hk:70<k):q3q.f k W H xs m=some (decide (0<=m/\m<(xs.length:Int)))/\q4v.f k W H xs m=some (decide (0<=m/\m<(xs.length:Int))):=by
 have:=L.pos
 have:=L.le
 have e:wrap64 ((xs.length:Int)-1)=(xs.length:Int)-1:=Yw
 have e2:decide (0<=m/\m<=(xs.length:Int)-1)=decide (0<=m/\m<(xs.length:Int)):=decide_eq_decide.mpr Om
 unfold q3q.f q4v.f
 simp only[(L.ev k hk).1,(L.ev k hk).2,Ob,if_true,e,Zb,Zg,e2,and_self]
theorem Zk {W H:Int} {xs:List Int} (L:LandOk W H xs) (m:Int) (k:Nat) (hk:70<k):q1r.f k W H xs m=some (opn xs m)/\q1y.f k W H xs m=some (opn xs m):=by
 obtain⟨c1,c2⟩:=ZC L m k hk
 unfold q1r.f q1y.f
 rw[c1,c2]
 unfold opn
 by_cases h:0<=m/\m<(xs.length:Int)
 ·simp only[h,and_self,decide_true,Ob,if_true,Bool.true_and]
 ·simp only[h,decide_false,Ob,Bool.false_eq_true,if_false,Bool.false_and,and_self]
theorem ZHa {W H:Int} {xs:List Int} (m:Int) (k:Nat) (h:q3l.f k W H xs=some false/\q1i.f k W H xs=some false):q3q.f k W H xs m=some false/\q4v.f k W H xs m=some false:=by
 unfold q3q.f q4v.f
 simp only[h.1,h.2,Ob,Bool.false_eq_true,if_false,and_self]
theorem ZU {W H:Int} {xs:List Int} (m:Int) (k:Nat) (h:q3l.f k W H xs=some false/\q1i.f k W H xs=some false):q1r.f k W H xs m=some false/\q1y.f k W H xs m=some false:=by
 obtain⟨c1,c2⟩:=ZHa m k h
 unfold q1r.f q1y.f
 simp only[c1,c2,Ob,Bool.false_eq_true,if_false,and_self]
def ab (a:Int):Int:=mx a (-a)
def ap (W n m:Int):Int:=ab (n % W-m % W)+ab (n / W-m / W)
theorem Zv {W:Int} (h:1<=W/\W<=8):W=1\/W=2\/W=3\/W=4\/W=5\/W=6\/W=7\/W=8:=by omega
theorem Zlb (a:Int) (h:-1000<=a/\a<=1000):q6u.f a=some (ab a):=by
 unfold q6u.f ab
 rw[show wrap64 (-a)=-a by unfold wrap64;omega]
theorem ZZa (a:Int) (h:-1000<=a/\a<=1000):0<=ab a/\ab a<=1000:=by
 unfold ab mx;split <;> omega
theorem Z0b {W H:Int} {xs:List Int} (L:LandOk W H xs) (n m:Int) (hn:0<=n/\n<(xs.length:Int)) (hm:0<=m/\m<(xs.length:Int)) (k:Nat) (hk:71<k):q3j.f k W H xs n m=some (ap W n m):=by
 obtain⟨k,rfl⟩:∃ j,k=j+1:=⟨k-1,by omega⟩
 have hw:=L.w
 have:=L.le
 have t1:Int.tmod n W=n % W:=Int.tmod_eq_emod_of_nonneg hn.1
 have t2:Int.tmod m W=m % W:=Int.tmod_eq_emod_of_nonneg hm.1
 have d1:Int.tdiv n W=n / W:=Int.tdiv_eq_ediv_of_nonneg hn.1
 have d2:Int.tdiv m W=m / W:=Int.tdiv_eq_ediv_of_nonneg hm.1
 have b1:=Int.emod_nonneg n (show W≠0 by omega)
 have b2:=Int.emod_lt_of_pos n (show 0<W by omega)
 have b3:=Int.emod_nonneg m (show W≠0 by omega)
 have b4:=Int.emod_lt_of_pos m (show 0<W by omega)
 have b5:0<=n / W/\n / W<=64:=by rcases Zv hw with e|e|e|e|e|e|e|e <;> subst e <;> omega
 have b6:0<=m / W/\m / W<=64:=by rcases Zv hw with e|e|e|e|e|e|e|e <;> subst e <;> omega
 have e1:wrap64 (n % W-m % W)=n % W-m % W:=Yw
 have e2:wrap64 (n / W)=n / W:=Yw
 have e3:wrap64 (m / W)=m / W:=Yw
 have e4:wrap64 (n / W-m / W)=n / W-m / W:=Yw
 have s1:=Zlb (n % W-m % W) Om
 have s2:=Zlb (n / W-m / W) Om
 have s3:=ZZa (n % W-m % W) Om
 have s4:=ZZa (n / W-m / W) Om
 have e5:wrap64 (ab (n % W-m % W)+ab (n / W-m / W))=ab (n % W-m % W)+ab (n / W-m / W):=Yw
 have hw0:¬ W=0:=by omega
 unfold q3j.f
 simp only[(ZC L n (k+1) Om).1,(ZC L m (k+1) Om).1,hn,hm,and_self,decide_true,Ob,if_true,q3j.j0,Bool.not_true,Bool.false_eq_true,if_false,if_neg hw0,t1,t2,d1,d2,e1,e2,e3,e4,s1,s2,e5,ap]
def Zd (W:Int) (xs:List Int) (n:Int):List Int :=
 (((if W<=n/\rd xs (n-W)≠2 then [n-W] else [])++(if 0<n % W/\rd xs (n-1)≠2 then [n-1] else []))++(if n % W<W-1/\rd xs (n+1)≠2 then [n+1] else []))++(if n+W<(xs.length:Int)/\rd xs (n+W)≠2 then [n+W] else [])
theorem Zwa {W H n l:Int} (hw:1<=W/\W<=8) (hl:l=W * H) (hn:n<l) (h0:0<=n) (h:n % W<W-1):n+1<l:=by
 rcases Zv hw with e|e|e|e|e|e|e|e <;> subst e <;> omega
theorem Zea {W H:Int} {xs:List Int} (L:LandOk W H xs) (n:Int) (hn:0<=n/\n<(xs.length:Int)) (k:Nat) (hk:5<k):q0s.f k W H xs n=some (Zd W xs n):=by
 obtain⟨k,rfl⟩:∃ j,k=j+5:=⟨k-5,by omega⟩
 have hw:=L.w
 have:=L.le
 have t1:Int.tmod n W=n % W:=Int.tmod_eq_emod_of_nonneg hn.1
 have e1:wrap64 (n-W)=n-W:=Yw
 have e2:wrap64 (n-1)=n-1:=Yw
 have e3:wrap64 (n+1)=n+1:=Yw
 have e4:wrap64 (n+W)=n+W:=Yw
 have e5:wrap64 (W-1)=W-1:=Yw
 have hw0:¬ W=0:=by omega
 have hr:=fun h=>Zwa hw L.len hn.2 hn.1 h
 have hp:0<n % W->0<=n-1:=fun h=>by
  by_cases h0:n=0
  ·subst h0;simp at h
  ·omega
 have j4:∀ (j:Nat) (acc:List Int) (c:Bool),acc.length<=10->q0s.j4 (j+1) n acc c W H xs=some ((acc++(if c=true then [n+1] else []))++(if n+W<(xs.length:Int)/\rd xs (n+W)≠2 then [n+W] else [])):=by
  intro j acc c ha
  have q1:acc.length<17592186044416:=by omega
  have q2:(acc++[n+1]).length<17592186044416:=by simp;omega
  have q3:0<=n+W:=by omega
  rw[q0s.j4]
  simp only[e3,e4,if_pos q1,if_pos q2,if_pos q3,Ob]
  by_cases c0:c=true
  ·by_cases c1:n+W<(xs.length:Int)
   ·by_cases c2:rd xs (n+W)=2
    ·simp[c0,c1,c2]
    ·simp[c0,c1,c2]
   ·simp[c0,c1]
  ·by_cases c1:n+W<(xs.length:Int)
   ·by_cases c2:rd xs (n+W)=2
    ·simp[c0,c1,c2]
    ·simp[c0,c1,c2]
   ·simp[c0,c1]
 have j3:∀ (j:Nat) (acc:List Int),acc.length<=10->q0s.j3 (j+2) n acc W H xs=some ((acc++(if n % W<W-1/\rd xs (n+1)≠2 then [n+1] else []))++(if n+W<(xs.length:Int)/\rd xs (n+W)≠2 then [n+W] else [])):=by
  intro j acc ha
  rw[q0s.j3]
  simp only[if_neg hw0,t1,e3,e5]
  by_cases c1:n % W<W-1
  ·have q1:=hr c1
   have q2:0<=n+1:=by omega
   rw[if_pos c1,if_pos q2,if_pos q1,j4 j acc _ ha]
   by_cases c2:rd xs (n+1)=2
   ·simp[c1,c2]
   ·simp[c1,c2]
  ·rw[if_neg c1,j4 j acc _ ha]
   simp[c1]
 have j2:∀ (j:Nat) (acc:List Int) (c:Bool),acc.length<=8->q0s.j2 (j+3) n acc c W H xs=some (((acc++(if c=true then [n-1] else []))++(if n % W<W-1/\rd xs (n+1)≠2 then [n+1] else []))++(if n+W<(xs.length:Int)/\rd xs (n+W)≠2 then [n+W] else [])):=by
  intro j acc c ha
  have q1:acc.length<17592186044416:=by omega
  rw[q0s.j2]
  simp only[e2,if_pos q1]
  by_cases c0:c=true
  ·rw[if_pos c0,j3 j _ (by simp;omega),if_pos c0]
  ·rw[if_neg c0,j3 j _ Om,if_neg c0,List.append_nil]
 have j1:∀ (j:Nat) (acc:List Int),acc.length<=8->q0s.j1 (j+4) n acc W H xs=some (((acc++(if 0<n % W/\rd xs (n-1)≠2 then [n-1] else []))++(if n % W<W-1/\rd xs (n+1)≠2 then [n+1] else []))++(if n+W<(xs.length:Int)/\rd xs (n+W)≠2 then [n+W] else [])):=by
  intro j acc ha
  rw[q0s.j1]
  simp only[if_neg hw0,t1,e2,gt_iff_lt]
  by_cases c1:0<n % W
  ·have q1:=hp c1
   have q2:n-1<(xs.length:Int):=by omega
   rw[if_pos c1,if_pos q1,if_pos q2,j2 j acc _ ha]
   by_cases c2:rd xs (n-1)=2
   ·simp[c1,c2]
   ·simp[c1,c2]
  ·rw[if_neg c1,j2 j acc _ ha]
   simp[c1]
 unfold q0s.f Zd
 simp only[Ob,e1,ge_iff_le]
 have q0:([]:List Int).length<17592186044416:=by simp
 by_cases c1:W<=n
 ·have q1:0<=n-W:=by omega
  have q2:n-W<(xs.length:Int):=by omega
  rw[if_pos c1,if_pos q1,if_pos q2,q0s.j0]
  simp only[e1,if_pos q0]
  by_cases c2:rd xs (n-W)=2
  ·simp only[c2,bne_self_eq_false,Bool.false_eq_true,if_false]
   rw[j1 k [] (by simp)]
   simp[c1]
  ·rw[if_pos (by simp[c2]),j1 k _ (by simp)]
   simp[c1,c2]
 ·rw[if_neg c1,q0s.j0]
  simp only[Bool.false_eq_true,if_false]
  rw[j1 k [] (by simp)]
  simp[c1]
def Zu (W:Int) (xs:List Int) (n m:Int):Bool:=opn xs m && decide (ap W n m=1)
theorem ZNb {W H:Int} {xs:List Int} (L:LandOk W H xs) (n:Int) (hn:0<=n/\n<(xs.length:Int)) (ys:List Int) (hy:ys.length=4) (K:Nat) (hK:80<=K) (r:List Int) :
  ∀ (d:Nat) (i:Int) (acc:List Int),0<=i->(ys.length:Int)-i=d->acc.length+d<=100->(∀ k,K<k->q0i.f k (acc++(ys.drop i.toNat).filter (Zu W xs n))=some r) ->
  ∀ k,K+d+1<k->q3e.l0 k n acc ys (ys.length:Int) i W H xs=some r:=by
 intro d
 induction d with
 |zero =>
  intro i acc h0 hd ha hr k hk
  obtain⟨k,rfl⟩:∃ j,k=j+1:=⟨k-1,by omega⟩
  have hlt:¬ i<(ys.length:Int):=by omega
  rw[List.drop_eq_nil_of_le Om,List.filter_nil,List.append_nil] at hr
  simp only[q3e.l0,if_neg hlt,hr k Om,Ob]
 |succ d ih =>
  intro i acc h0 hd ha hr k hk
  obtain⟨k,rfl⟩:∃ j,k=j+1:=⟨k-1,by omega⟩
  have hlt:i<(ys.length:Int):=by omega
  rw[Zz 0 ys i h0 hlt,show ys.getD i.toNat 0=rd ys i from rfl,List.filter_cons] at hr
  have q1:acc.length<17592186044416:=by omega
  have hw:wrap64 (i+1)=i+1:=Yw
  simp only[q3e.l0,if_pos hlt,if_pos h0,(Zk L (rd ys i) k Om).1,Ob,hw,if_pos q1]
  by_cases c:opn xs (rd ys i)=true
  ·rw[if_pos c,Z0b L n (rd ys i) hn (Za c) k Om,Ob]
   by_cases c2:ap W n (rd ys i)=1
   ·rw[if_pos c2]
    rw[if_pos (by unfold Zu;rw[c];simp[c2])] at hr
    exact ih (i+1) (acc++[rd ys i]) Om Om (by simp;omega) (by simpa using hr) k Om
   ·rw[if_neg c2]
    rw[if_neg (by unfold Zu;rw[c];simp[c2])] at hr
    exact ih (i+1) acc Om Om Om hr k Om
  ·rw[if_neg c]
   rw[if_neg (by unfold Zu;simp[c])] at hr
   exact ih (i+1) acc Om Om Om hr k Om
theorem Z5a (l:List Int) (hl:l.length<=100) (h:l.Pairwise (· < ·)):∀ (d:Nat) (i:Int),1<=i->(l.length:Int)-i=d->∀ k,d<k->q0i.l0 k l i=some l:=by
 intro d
 induction d with
 |zero =>
  intro i h1 hd k hk
  obtain⟨k,rfl⟩:∃ j,k=j+1:=⟨k-1,by omega⟩
  rw[q0i.l0,if_neg Om]
 |succ d ih =>
  intro i h1 hd k hk
  obtain⟨k,rfl⟩:∃ j,k=j+1:=⟨k-1,by omega⟩
  have w1:wrap64 (i-1)=i-1:=Yw
  have w2:wrap64 (i+1)=i+1:=Yw
  have hne:¬ rd l i=rd l (i-1):=by
   have ha:i.toNat<l.length:=by omega
   have hb:(i-1).toNat<l.length:=by omega
   have:=List.pairwise_iff_getElem.mp h (i-1).toNat i.toNat hb ha Om
   unfold rd
   rw[List.getD_eq_getElem?_getD,List.getD_eq_getElem?_getD,List.getElem?_eq_getElem ha,List.getElem?_eq_getElem hb]
   simp only[Option.getD_some]
   omega
  rw[q0i.l0,if_pos Om,if_pos Om,w1,if_pos Om,if_pos Om,if_neg hne,w2]
  exact ih (i+1) Om Om k Om
theorem Zja (l:List Int) (hl:l.length<=100) (h:l.Pairwise (· < ·)) (k:Nat) (hk:l.length<k):q0i.f k l=some l:=by
 unfold q0i.f
 split
 ·rfl
 ·exact Z5a l hl h (l.length-1) 1 Om Om k Om
theorem ZMa (a:Int) (k:Nat) (hk:10<k):q0i.f k [a,a]=some [a]:=by
 obtain⟨k,rfl⟩:∃ j,k=j+10:=⟨k-10,by omega⟩
 have w0:wrap64 0=0:=Yw
 have w2:wrap64 2=2:=Yw
 unfold q0i.f
 simp[q0i.l0,q0i.l1,rd,rs,w0,w2]
theorem ZEb (a b:Int) (hab:a≠b) (k:Nat) (hk:10<k):q0i.f k [a,a,b,b]=some [a,b]:=by
 obtain⟨k,rfl⟩:∃ j,k=j+10:=⟨k-10,by omega⟩
 have w0:wrap64 0=0:=Yw
 have w1:wrap64 1=1:=Yw
 have w2:wrap64 2=2:=Yw
 have w3:wrap64 3=3:=Yw
 unfold q0i.f
 simp[q0i.l0,q0i.l1,rd,rs,w0,w1,w2,w3,hab,Ne.symm hab]
theorem ZAa {W H:Int} {xs:List Int} (L:LandOk W H xs) (n:Int) (hn:0<=n/\n<(xs.length:Int)) (k:Nat) (hk:100<k):q3e.f k W H xs n=some (Zd W xs n):=by
 have hw:=L.w
 have:=L.le
 have e1:wrap64 (n-W)=n-W:=Yw
 have e2:wrap64 (n-1)=n-1:=Yw
 have e3:wrap64 (n+1)=n+1:=Yw
 have e4:wrap64 (n+W)=n+W:=Yw
 unfold q3e.f
 simp only[(ZC L n k Om).1,hn,and_self,decide_true,Ob,if_true,e1,e2,e3,e4]
 refine ZNb L n hn [n-W,n-1,n+1,n+W] rfl 90 Om (Zd W xs n) 4 0 [] Om (by simp) (by simp) (fun k hk=>?_) k Om
 simp only[Int.toNat_zero,List.drop_zero,List.nil_append]
 by_cases h1:W=1
 ·subst h1
  have o1:ap 1 n (n-1)=1:=by unfold ap ab mx;split <;> split <;> omega
  have o2:ap 1 n (n+1)=1:=by unfold ap ab mx;split <;> split <;> omega
  unfold Zd
  by_cases c1:opn xs (n-1)=true <;> by_cases c2:opn xs (n+1)=true <;> simp only[List.filter_cons,Zu,o1,o2,c1,c2,decide_true,Bool.and_self,Bool.and_true,Bool.true_and,if_true,Bool.false_eq_true,if_false,List.filter_nil]
  ·have c1':=c1
   have c2':=c2
   unfold opn at c1' c2'
   simp only[Bool.and_eq_true,decide_eq_true_eq,bne_iff_ne] at c1' c2'
   rw[ZEb (n-1) (n+1) Om k Om,if_pos ⟨by omega,c1'.2⟩,if_neg Om,if_neg Om,if_pos ⟨by omega,c2'.2⟩]
   rfl
  ·have c1':=c1
   have c2':=c2
   unfold opn at c1' c2'
   simp only[Bool.and_eq_true,decide_eq_true_eq,bne_iff_ne] at c1' c2'
   rw[ZMa (n-1) k Om,if_pos ⟨by omega,c1'.2⟩,if_neg Om,if_neg Om,if_neg (fun h=>c2' ⟨⟨by omega,h.1⟩,h.2⟩)]
   rfl
  ·have c1':=c1
   have c2':=c2
   unfold opn at c1' c2'
   simp only[Bool.and_eq_true,decide_eq_true_eq,bne_iff_ne] at c1' c2'
   rw[ZMa (n+1) k Om,if_neg (fun h=>c1' ⟨⟨by omega,by omega⟩,h.2⟩),if_neg Om,if_neg Om,if_pos ⟨by omega,c2'.2⟩]
   rfl
  ·have c1':=c1
   have c2':=c2
   unfold opn at c1' c2'
   simp only[Bool.and_eq_true,decide_eq_true_eq,bne_iff_ne] at c1' c2'
   rw[Zja [] (by simp) (by simp) k (by simp;omega),if_neg (fun h=>c1' ⟨⟨by omega,by omega⟩,h.2⟩),if_neg Om,if_neg Om,if_neg (fun h=>c2' ⟨⟨by omega,h.1⟩,h.2⟩)]
   rfl
 ·have hW:2<=W/\W<=8:=by omega
  have hl:=L.len
  have hasc:((([n-W,n-1,n+1,n+W]:List Int)).filter (Zu W xs n)).Pairwise (· < ·):=by
   refine List.Pairwise.filter _ ?_
   simp only[List.pairwise_cons,List.mem_cons,List.not_mem_nil,or_false]
   refine⟨fun a h=>by omega,fun a h=>by omega,fun a h=>by omega,fun a h=>h.elim,List.Pairwise.nil⟩
  have hlen:((([n-W,n-1,n+1,n+W]:List Int)).filter (Zu W xs n)).length<=4:=by
   have:=List.length_filter_le (Zu W xs n) [n-W,n-1,n+1,n+W]
   simpa using this
  rw[Zja _ Om hasc k Om]
  congr 1
  have hbq:∀ a:Int,(a==2)=decide (a=2):=fun a=>rfl
  have m1:Zu W xs n (n-W)=decide (W<=n/\rd xs (n-W)≠2):=by
   have:0<=n-W->ap W n (n-W)=1:=fun h=>by
    unfold ap ab mx
    rcases Zv hw with e|e|e|e|e|e|e|e <;> subst e <;> split <;> split <;> omega
   unfold Zu opn
   by_cases c:W<=n
   ·have c0:0<=n-W:=by omega
    have c1:n-W<(xs.length:Int):=by omega
    rw[this c0]
    simp[c,c0,c1,bne,hbq]
   ·have c0:¬ 0<=n-W:=by omega
    simp[c,c0]
  have m2:Zu W xs n (n-1)=decide (0<n % W/\rd xs (n-1)≠2):=by
   have a1:0<n % W->ap W n (n-1)=1/\0<=n-1:=fun h=>by
    unfold ap ab mx
    rcases Zv hw with e|e|e|e|e|e|e|e <;> subst e <;> constructor <;> (try split) <;> (try split) <;> omega
   have a2:¬ 0<n % W->0<=n-1->¬ ap W n (n-1)=1:=fun h h2=>by
    unfold ap ab mx
    rcases Zv hw with e|e|e|e|e|e|e|e <;> subst e <;> split <;> split <;> omega
   unfold Zu opn
   by_cases c:0<n % W
   ·have c1:n-1<(xs.length:Int):=by omega
    have c0:=(a1 c).2
    rw[(a1 c).1]
    simp only[c0,c1,c,and_self,true_and,decide_true,Bool.true_and,bne,hbq,Bool.and_true,ne_eq,decide_not]
   ·by_cases c0:0<=n-1
    ·simp only[c,a2 c c0,decide_false,Bool.and_false,false_and]
    ·simp only[c,c0,false_and,decide_false,Bool.false_and]
  have m3:Zu W xs n (n+1)=decide (n % W<W-1/\rd xs (n+1)≠2):=by
   have a1:n % W<W-1->ap W n (n+1)=1:=fun h=>by
    unfold ap ab mx
    rcases Zv hw with e|e|e|e|e|e|e|e <;> subst e <;> split <;> split <;> omega
   have a2:¬ n % W<W-1->¬ ap W n (n+1)=1:=fun h=>by
    unfold ap ab mx
    rcases Zv hw with e|e|e|e|e|e|e|e <;> subst e <;> split <;> split <;> omega
   unfold Zu opn
   by_cases c:n % W<W-1
   ·have c1:=Zwa hw hl hn.2 hn.1 c
    have c0:0<=n+1:=by omega
    rw[a1 c]
    simp[c,c0,c1,bne,hbq]
   ·simp[c,a2 c]
  have m4:Zu W xs n (n+W)=decide (n+W<(xs.length:Int)/\rd xs (n+W)≠2):=by
   have:ap W n (n+W)=1:=by
    unfold ap ab mx
    rcases Zv hw with e|e|e|e|e|e|e|e <;> subst e <;> split <;> split <;> omega
   unfold Zu opn
   rw[this]
   by_cases c:n+W<(xs.length:Int)
   ·have c0:0<=n+W:=by omega
    simp[c,c0,bne,hbq]
   ·simp[c]
  unfold Zd
  simp only[List.filter_cons,m1,m2,m3,m4,decide_eq_true_eq,List.filter_nil]
  split <;> split <;> split <;> split <;> rfl
def ZJ (k:Nat) (W H:Int) (xs:List Int) (n:Int):Option (List Int):=(q4v.f k W H xs n).bind fun t=>(if t=true then((q0s.f k W H xs n).bind fun s=>(some s)) else(some (([]:List Int))))
theorem Zjb {W H:Int} {xs:List Int} (n:Int) (k:Nat) (h:q3q.f k W H xs n=some false/\q4v.f k W H xs n=some false):q3e.f k W H xs n=some []/\ZJ k W H xs n=some []:=by
 unfold q3e.f ZJ
 simp only[h.1,h.2,Ob,Bool.false_eq_true,if_false,and_self]
theorem Z9b {c:Prop} [Decidable c] {a v:Int}:v∈(if c then [a] else [])↔c/\v=a:=by
 split <;> simp_all
theorem Zma {W n v:Int} {xs:List Int}:v∈Zd W xs n↔((((W<=n/\rd xs (n-W)≠2)/\v=n-W)\/((0<n % W/\rd xs (n-1)≠2)/\v=n-1))\/((n % W<W-1/\rd xs (n+1)≠2)/\v=n+1))\/((n+W<(xs.length:Int)/\rd xs (n+W)≠2)/\v=n+W):=by
 unfold Zd
 simp only[List.mem_append,Z9b]
theorem ZZ (W n:Int) (xs:List Int):(Zd W xs n).length<=4:=by
 unfold Zd
 have h:∀ (c:Prop) [Decidable c] (a:Int),(if c then [a] else([]:List Int)).length<=1:=fun c _ a=>by split <;> simp
 simp only[List.length_append]
 have:=h (W<=n/\rd xs (n-W)≠2) (n-W)
 have:=h (0<n % W/\rd xs (n-1)≠2) (n-1)
 have:=h (n % W<W-1/\rd xs (n+1)≠2) (n+1)
 have:=h (n+W<(xs.length:Int)/\rd xs (n+W)≠2) (n+W)
 omega
theorem ZFa {xs:List Int} {m:Int}:opn xs m=true↔(0<=m/\m<(xs.length:Int))/\rd xs m≠2:=by
 unfold opn
 rw[Bool.and_eq_true,decide_eq_true_eq,bne_iff_ne]
theorem Zx {W H n:Int} {xs:List Int} (L:LandOk W H xs) (hn:0<=n/\n<(xs.length:Int)):∀ v∈Zd W xs n,opn xs v=true:=by
 intro v hv
 have hw:=L.w
 rw[ZFa]
 rcases Zma.mp hv with ((⟨⟨h1,h2⟩,h3⟩|⟨⟨h1,h2⟩,h3⟩)|⟨⟨h1,h2⟩,h3⟩)|⟨⟨h1,h2⟩,h3⟩ <;> subst h3
 ·exact⟨by omega,h2⟩
 ·refine⟨⟨?_,by omega⟩,h2⟩
  by_cases h0:n=0
  ·subst h0;simp at h1
  ·omega
 ·have:=Zwa hw L.len hn.2 hn.1 h1
  exact⟨by omega,h2⟩
 ·exact⟨by omega,h2⟩
theorem Zoa {W H n v:Int} {xs:List Int} (L:LandOk W H xs) (hn:opn xs n=true) (hv:v∈Zd W xs n):n∈Zd W xs v:=by
 have hw:=L.w
 obtain⟨hr,hx⟩:=ZFa.mp hn
 have hvo:=Zx L hr v hv
 obtain⟨hvr,hvx⟩:=ZFa.mp hvo
 rw[Zma]
 rcases Zma.mp hv with ((⟨⟨h1,h2⟩,h3⟩|⟨⟨h1,h2⟩,h3⟩)|⟨⟨h1,h2⟩,h3⟩)|⟨⟨h1,h2⟩,h3⟩ <;> subst h3
 ·exact Or.inr ⟨⟨by omega,by rw[Int.sub_add_cancel];exact hx⟩,by omega⟩
 ·refine Or.inl (Or.inr ⟨⟨?_,by rw[Int.sub_add_cancel];exact hx⟩,by omega⟩)
  rcases Zv hw with e|e|e|e|e|e|e|e <;> subst e <;> omega
 ·refine Or.inl (Or.inl (Or.inr ⟨⟨?_,by rw[Int.add_sub_cancel];exact hx⟩,by omega⟩))
  rcases Zv hw with e|e|e|e|e|e|e|e <;> subst e <;> omega
 ·exact Or.inl (Or.inl (Or.inl ⟨⟨by omega,by rw[Int.add_sub_cancel];exact hx⟩,by omega⟩))
structure Good (n:Nat) (d q:List Int):Prop where
 len:d.length=n
 bnd:∀ v,0<=v->rd d v+(Zm d:Int)+1<=(n:Int)
 mem:∀ x∈q,0<=x/\x<(n:Int)/\0<=rd d x
theorem Zxa {n:Nat} {d:List Int} {own b:Int} (hl:d.length=n) (hb:∀ v,0<=v->rd d v+(Zm d:Int)+1<=(n:Int)) (ho:0<=own) (h0:0<=rd d own) (b0:0<=b) (b1:b<(n:Int)) (c:rd d b<0) :
  ∀ v,0<=v->rd (d.set b.toNat (rd d own+1)) v+(Zm (d.set b.toNat (rd d own+1)):Int)+1<=(n:Int):=by
 intro v hv
 have h1:=ZG d b.toNat (rd d own+1) Om c Om
 have h2:=hb v hv
 have h3:=hb own ho
 rw[ZE d b v (rd d own+1) b0 Om hv]
 split <;> omega
theorem Zaa (n:Nat) (own:Int) (ho:0<=own):∀ (bs d q:List Int),d.length=n->(∀ v,0<=v->rd d v+(Zm d:Int)+1<=(n:Int))->0<=rd d own->(∀ b∈bs,0<=b/\b<(n:Int)) ->
  ∀ v,0<=v->rd (Zh d q own bs).1 v+(Zm (Zh d q own bs).1:Int)+1<=(n:Int)
 |[],d,q,hl,hb,h0,hr=>hb
 |b :: bs,d,q,hl,hb,h0,hr=>by
  have hbb:=hr b List.mem_cons_self
  unfold Zh
  by_cases c:rd d b<0
  ·rw[if_pos c]
   have hne:own≠b:=fun e=>by rw[e] at h0;omega
   have h2:rd (d.set b.toNat (rd d own+1)) own=rd d own:=by rw[ZE d b own _ hbb.1 Om ho,if_neg hne]
   exact Zaa n own ho bs _ _ (by simpa using hl) (Zxa hl hb ho h0 hbb.1 hbb.2 c) (by rw[h2];exact h0) (fun x hx=>hr x (List.mem_cons_of_mem _ hx))
  ·rw[if_neg c]
   exact Zaa n own ho bs d q hl hb h0 (fun x hx=>hr x (List.mem_cons_of_mem _ hx))
theorem Z2 {n:Nat} {d rest bs:List Int} {own:Int} (G:Good n d (own :: rest)) (hr:∀ b∈bs,0<=b/\b<(n:Int)):Good n (Zh d rest own bs).1 (Zh d rest own bs).2/\(Zh d rest own bs).2.length+Zm (Zh d rest own bs).1=rest.length+Zm d:=by
 obtain⟨o1,o2,o3⟩:=G.mem own List.mem_cons_self
 obtain⟨v1,v2,v3,v4,ns,v5,v6,v7,v8⟩:=ZK n own o1 bs d rest G.len o3 hr
 refine⟨⟨by rw[v1];exact G.len,Zaa n own o1 bs d rest G.len G.bnd o3 hr,fun x hx=>?_⟩,by rw[v5,List.length_append];omega⟩
 rw[v5] at hx
 rcases List.mem_append.mp hx with h|h
 ·obtain⟨x1,x2,x3⟩:=G.mem x (List.mem_cons_of_mem _ h)
  exact⟨x1,x2,by rw[v2 x x1 x3];exact x3⟩
 ·obtain⟨h1,h2⟩:=v7 x h
  exact⟨(hr x h1).1,(hr x h1).2,by omega⟩
theorem Z3 (own:Int) (j:Nat):∀ (bs d q:List Int),j<=q.length->(Zh d q own bs).1=(Zh d (q.drop j) own bs).1/\(Zh d q own bs).2.drop j=(Zh d (q.drop j) own bs).2/\q.length<=(Zh d q own bs).2.length
 |[],d,q,h=>⟨rfl,rfl,Nat.le_refl _⟩
 |b :: bs,d,q,h=>by
  unfold Zh
  by_cases c:rd d b<0
  ·rw[if_pos c,if_pos c]
   have h1:=Z3 own j bs (d.set b.toNat (rd d own+1)) (q++[b]) (by simp;omega)
   rw[List.drop_append_of_le_length h] at h1
   refine⟨h1.1,h1.2.1,?_⟩
   have:=h1.2.2
   simp only[List.length_append,List.length_cons,List.length_nil] at this
   omega
  ·rw[if_neg c,if_neg c]
   exact Z3 own j bs d q h
theorem Zoc (W H:Int) (xs:List Int) (n:Nat) (hn:n<=64) (own:Int) (ho:0<=own) (bs:List Int) (hb4:bs.length<=4) (hr:∀ b∈bs,0<=b/\b<(n:Int)) (hon:own<(n:Int)) (K:Nat) (r:List Int) :
  ∀ (e:Nat) (i:Int) (d q:List Int),0<=i->(bs.length:Int)-i=e->d.length=n->(∀ v,0<=v->rd d v+(Zm d:Int)+1<=(n:Int))->0<=rd d own->q.length+Zm d<=200 ->
  (∀ k,K<k->q0k.l2 k (Zh d q own (bs.drop i.toNat)).1 (Zh d q own (bs.drop i.toNat)).2 W H xs=some r) ->
  ∀ k,K+e+1<k->q0k.l3 k d q own bs (bs.length:Int) i W H xs=some r:=by
 intro e
 induction e with
 |zero =>
  intro i d q h0 hd hl hb hown hq hk2 k hk
  obtain⟨k,rfl⟩:∃ j,k=j+1:=⟨k-1,by omega⟩
  have hlt:¬ i<(bs.length:Int):=by omega
  rw[List.drop_eq_nil_of_le Om] at hk2
  rw[q0k.l3,if_neg hlt]
  exact hk2 k Om
 |succ e ih =>
  intro i d q h0 hd hl hb hown hq hk2 k hk
  obtain⟨k,rfl⟩:∃ j,k=j+1:=⟨k-1,by omega⟩
  have hlt:i<(bs.length:Int):=by omega
  have hw:wrap64 (i+1)=i+1:=Yw
  have hmem:rd bs i∈bs:=by
   have h1:i.toNat<bs.length:=by omega
   unfold rd
   rw[List.getD_eq_getElem?_getD,List.getElem?_eq_getElem h1]
   exact List.getElem_mem h1
  obtain⟨b0,b1⟩:=hr _ hmem
  rw[Zz 0 bs i h0 hlt,show bs.getD i.toNat 0=rd bs i from rfl] at hk2
  unfold Zh at hk2
  have hd1:rd bs i<(d.length:Int):=by omega
  have hd2:own<(d.length:Int):=by omega
  have hq1:q.length<17592186044416:=by omega
  have hbo:=hb own ho
  have hw2:wrap64 (rd d own+1)=rd d own+1:=Yw
  simp only[q0k.l3,if_pos hlt,if_pos h0,if_pos b0,if_pos hd1,if_pos ho,if_pos hd2,if_pos hq1,hw,hw2]
  by_cases c:rd d (rd bs i)<0
  ·rw[if_pos c]
   rw[if_pos c] at hk2
   have hne:own≠rd bs i:=fun e=>by rw[e] at hown;omega
   have h2:rd (d.set (rd bs i).toNat (rd d own+1)) own=rd d own:=by rw[ZE d _ own _ b0 Om ho,if_neg hne]
   have h3:=ZG d (rd bs i).toNat (rd d own+1) Om c Om
   exact ih (i+1) _ _ Om Om (by simpa using hl) (Zxa hl hb ho hown b0 b1 c) (by rw[h2];exact hown) (by simp only[List.length_append,List.length_cons,List.length_nil];omega) hk2 k Om
  ·rw[if_neg c]
   rw[if_neg c] at hk2
   exact ih (i+1) d q Om Om hl hb hown hq hk2 k Om
theorem Znc (W H:Int) (xs:List Int) (n:Nat) (hn:n<=64) (own:Int) (ho:0<=own) (bs:List Int) (hb4:bs.length<=4) (hr:∀ b∈bs,0<=b/\b<(n:Int)) (hon:own<(n:Int)) (K:Nat) (r:List Int) (p:Int) (hp0:0<=p) (hp1:p<=200) :
  ∀ (e:Nat) (i:Int) (d Q:List Int),0<=i->(bs.length:Int)-i=e->d.length=n->(∀ v,0<=v->rd d v+(Zm d:Int)+1<=(n:Int))->0<=rd d own->Q.length+Zm d<=200->p<(Q.length:Int)->rd Q p=own ->
  (∀ k,K<k->q0r.l1 k (Zh d Q own (bs.drop i.toNat)).1 (Zh d Q own (bs.drop i.toNat)).2 (p+1) W H xs=some r) ->
  ∀ k,K+e+1<k->q0r.l2 k d Q p bs i W H xs=some r:=by
 intro e
 induction e with
 |zero =>
  intro i d q h0 hd hl hb hown hq hpq hpo hk2 k hk
  obtain⟨k,rfl⟩:∃ j,k=j+1:=⟨k-1,by omega⟩
  have hlt:¬ i<(bs.length:Int):=by omega
  rw[List.drop_eq_nil_of_le Om] at hk2
  rw[q0r.l2,if_neg hlt,show wrap64 (p+1)=p+1 by unfold wrap64;omega]
  exact hk2 k Om
 |succ e ih =>
  intro i d q h0 hd hl hb hown hq hpq hpo hk2 k hk
  obtain⟨k,rfl⟩:∃ j,k=j+1:=⟨k-1,by omega⟩
  have hlt:i<(bs.length:Int):=by omega
  have hw:wrap64 (i+1)=i+1:=Yw
  have hmem:rd bs i∈bs:=by
   have h1:i.toNat<bs.length:=by omega
   unfold rd
   rw[List.getD_eq_getElem?_getD,List.getElem?_eq_getElem h1]
   exact List.getElem_mem h1
  obtain⟨b0,b1⟩:=hr _ hmem
  rw[Zz 0 bs i h0 hlt,show bs.getD i.toNat 0=rd bs i from rfl] at hk2
  unfold Zh at hk2
  have hd1:rd bs i<(d.length:Int):=by omega
  have hd2:own<(d.length:Int):=by omega
  have hq1:q.length<17592186044416:=by omega
  have hbo:=hb own ho
  have hw2:wrap64 (rd d own+1)=rd d own+1:=Yw
  simp only[q0r.l2,if_pos hlt,if_pos h0,if_pos b0,if_pos hd1,if_pos hp0,if_pos hpq,hpo,if_pos ho,if_pos hd2,if_pos hq1,hw,hw2]
  by_cases c:rd d (rd bs i)<0
  ·rw[if_pos c]
   rw[if_pos c] at hk2
   have hne:own≠rd bs i:=fun e=>by rw[e] at hown;omega
   have h2:rd (d.set (rd bs i).toNat (rd d own+1)) own=rd d own:=by rw[ZE d _ own _ b0 Om ho,if_neg hne]
   have h3:=ZG d (rd bs i).toNat (rd d own+1) Om c Om
   refine ih (i+1) _ _ Om Om (by simpa using hl) (Zxa hl hb ho hown b0 b1 c) (by rw[h2];exact hown) (by simp only[List.length_append,List.length_cons,List.length_nil];omega) (by simp only[List.length_append,List.length_cons,List.length_nil];omega) ?_ hk2 k Om
   have h4:p.toNat<q.length:=by omega
   unfold rd at hpo ⊢
   rw[List.getD_eq_getElem?_getD,List.getElem?_append_left h4,<-List.getD_eq_getElem?_getD]
   exact hpo
  ·rw[if_neg c]
   rw[if_neg c] at hk2
   exact ih (i+1) d q Om Om hl hb hown hq hpq hpo hk2 k Om
theorem Zhc {W H:Int} {xs:List Int} (L:LandOk W H xs):∀ (f:Nat) (d q:List Int),Good xs.length d q->q.length+Zm d<=f->f<=64->∀ k,110+8 * f<k->q0k.l2 k d q W H xs=some (bfs (Zd W xs) f d q):=by
 intro f
 induction f with
 |zero =>
  intro d q G hf _ k hk
  obtain⟨k,rfl⟩:∃ j,k=j+1:=⟨k-1,by omega⟩
  have:q=[]:=List.eq_nil_of_length_eq_zero Om
  subst this
  simp[q0k.l2,bfs]
 |succ f ih =>
  intro d q G hf hf6 k hk
  obtain⟨k,rfl⟩:∃ j,k=j+1:=⟨k-1,by omega⟩
  cases q with
  |nil=>simp[q0k.l2,bfs]
  |cons own rest =>
   obtain⟨o1,o2,o3⟩:=G.mem own List.mem_cons_self
   have hle:=L.le
   have hr:∀ b∈Zd W xs own,0<=b/\b<(xs.length:Int):=fun b hb=>Za (Zx L ⟨o1,o2⟩ b hb)
   have g:=Z2 G hr
   have hlen:(own :: rest).length=rest.length+1:=rfl
   have c1:((own :: rest).length:Int)>0:=by omega
   have c2:(1:Int)<=((own :: rest).length:Int):=by omega
   have e1:rd (own :: rest) 0=own:=rfl
   have e2:(own :: rest).drop (1:Int).toNat=rest:=rfl
   rw[q0k.l2,if_pos c1,if_pos c1,if_pos c2,e1,e2,ZAa L own ⟨o1,o2⟩ k Om,Ob]
   have h4:=ZZ W own xs
   refine Zoc W H xs xs.length hle own o1 (Zd W xs own) h4 hr o2 (110+8 * f) _ (Zd W xs own).length 0 d rest Om Om G.len G.bnd o3 Om (fun k hk=>?_) k Om
   rw[Int.toNat_zero,List.drop_zero]
   rw[ih _ _ g.1 Om Om k hk]
   rfl
theorem Z7b {W H:Int} {xs:List Int} (L:LandOk W H xs):∀ (f:Nat) (d Q:List Int) (p:Int),0<=p->p<=(Q.length:Int)->Q.length+Zm d<=64->Good xs.length d (Q.drop p.toNat)->(Q.drop p.toNat).length+Zm d<=f->f<=64->∀ k,110+8 * f<k->q0r.l1 k d Q p W H xs=some (bfs (Zd W xs) f d (Q.drop p.toNat)):=by
 intro f
 induction f with
 |zero =>
  intro d Q p hp0 hp1 hQ G hf _ k hk
  obtain⟨k,rfl⟩:∃ j,k=j+1:=⟨k-1,by omega⟩
  rw[List.length_drop] at hf
  have c:¬ p<(Q.length:Int):=by omega
  rw[q0r.l1,if_neg c]
  rfl
 |succ f ih =>
  intro d Q p hp0 hp1 hQ G hf hf6 k hk
  obtain⟨k,rfl⟩:∃ j,k=j+1:=⟨k-1,by omega⟩
  by_cases c:p<(Q.length:Int)
  ·have hcons:=Zz 0 Q p hp0 c
   obtain⟨own,hown⟩:∃ own,own=rd Q p:=⟨_,rfl⟩
   rw[show Q.getD p.toNat 0=own from hown.symm] at hcons
   rw[hcons] at G hf ⊢
   obtain⟨rest,hrest⟩:∃ rest,rest=Q.drop (p+1).toNat:=⟨_,rfl⟩
   rw[<-hrest] at G hf ⊢
   obtain⟨o1,o2,o3⟩:=G.mem own List.mem_cons_self
   have hle:=L.le
   have hr:∀ b∈Zd W xs own,0<=b/\b<(xs.length:Int):=fun b hb=>Za (Zx L ⟨o1,o2⟩ b hb)
   have g:=Z2 G hr
   have hlen:(own :: rest).length=rest.length+1:=rfl
   have h4:=ZZ W own xs
   have vd:=Z3 own (p+1).toNat (Zd W xs own) d Q Om
   rw[<-hrest] at vd
   rw[q0r.l1,if_pos c,if_pos hp0,<-hown,Zea L own ⟨o1,o2⟩ k Om,Ob]
   refine Znc W H xs xs.length hle own o1 (Zd W xs own) h4 hr o2 (110+8 * f) _ p hp0 Om (Zd W xs own).length 0 d Q Om Om G.len G.bnd o3 Om c hown.symm (fun k hk=>?_) k Om
   rw[Int.toNat_zero,List.drop_zero]
   have v6:(Zh d Q own (Zd W xs own)).2.length+Zm (Zh d Q own (Zd W xs own)).1=Q.length+Zm d:=by
    have e1:=g.2
    rw[<-vd.2.1,<-vd.1,List.length_drop] at e1
    rw[hrest,List.length_drop] at e1
    have:=vd.2.2
    omega
   rw[ih _ _ (p+1) Om (by have:=vd.2.2;omega) Om (by rw[vd.1,vd.2.1];exact g.1) (by rw[vd.1,vd.2.1];omega) Om k hk,vd.1,vd.2.1]
   rfl
  ·rw[q0r.l1,if_neg c,List.drop_eq_nil_of_le Om]
   rfl
theorem ZWa:∀ n:Nat,Zm (List.replicate n (-1))=n
 |0=>rfl
 |n+1=>by
  rw[List.replicate_succ,Zm,ZWa n]
  simp
  omega
theorem ZUa (n:Nat) (v:Int) (hv:0<=v):rd (List.replicate n (-1)) v=if v<(n:Int) then -1 else 0:=by
 unfold rd
 rw[List.getD_eq_getElem?_getD,List.getElem?_replicate]
 by_cases h:v<(n:Int)
 ·rw[if_pos h,if_pos Om];rfl
 ·rw[if_neg h,if_neg Om];rfl
def Zc (W:Int) (xs:List Int) (a:Int):List Int:=bfs (Zd W xs) xs.length ((List.replicate xs.length (-1)).set a.toNat 0) [a]
theorem Zca {n:Nat} {a:Int} (ha:0<=a/\a<(n:Int)):Good n ((List.replicate n (-1)).set a.toNat 0) [a]/\Zm ((List.replicate n (-1)).set a.toNat 0)+1=n/\∀ v,0<=v->rd ((List.replicate n (-1)).set a.toNat 0) v=if v=a then 0 else if v<(n:Int) then -1 else 0:=by
 have h1:=ZG (List.replicate n (-1)) a.toNat 0 (by simp;omega) (by have:=ZUa n a ha.1;unfold rd at this;rw[this,if_pos ha.2];omega) Om
 rw[ZWa] at h1
 have hr:∀ v,0<=v->rd ((List.replicate n (-1)).set a.toNat 0) v=if v=a then 0 else if v<(n:Int) then -1 else 0:=fun v hv=>by
  rw[ZE _ a v 0 ha.1 (by simp;omega) hv,ZUa n v hv]
 refine⟨⟨by simp,fun v hv=>?_,fun x hx=>?_⟩,h1,hr⟩
 ·rw[hr v hv];split
  ·omega
  ·split <;> omega
 ·rw[List.mem_singleton] at hx
  subst hx
  rw[hr x ha.1,if_pos rfl]
  exact⟨ha.1,ha.2,by omega⟩
theorem Zl {W H a:Int} {xs:List Int} (L:LandOk W H xs) (ha:0<=a/\a<(xs.length:Int)):BEnd (Zd W xs) xs.length a (Zc W xs a):=by
 obtain⟨g,g2,hr⟩:=Zca ha
 refine Zlc (Zd W xs) xs.length a ha.1 ha.2 (fun u h0 h1 v hv=>Za (Zx L ⟨h0,h1⟩ v hv)) xs.length _ [a] 0 ⟨g.len,by omega,by rw[hr a ha.1,if_pos rfl],fun v hv h1 h2=>?_,⟨[a],[],rfl,fun x hx=>?_,fun x hx=>(by cases hx)⟩,fun v hv=>?_,fun v hv h1 h2 h3=>?_,fun u hu h1 h2 h3=>?_⟩ (by simp only[List.length_cons,List.length_nil];omega)
 ·rw[hr v hv] at h2
  by_cases e:v=a
  ·exact e
  ·rw[if_neg e,if_pos h1] at h2;omega
 ·rw[List.mem_singleton] at hx
  subst hx
  exact⟨ha.1,ha.2,by rw[hr x ha.1,if_pos rfl]⟩
 ·rw[hr v hv];split
  ·omega
  ·split <;> omega
 ·rw[hr v hv,if_neg h3,if_pos h1] at h2;omega
 ·have:u≠a:=fun e=>h3 (by rw[e];exact List.mem_singleton.mpr rfl)
  rw[hr u hu,if_neg this,if_pos h1] at h2;omega
theorem Zmb {W H:Int} {xs:List Int} (L:LandOk W H xs):∀ (f:Nat) (d q:List Int),Good xs.length d q->∀ v,0<=v->rd (bfs (Zd W xs) f d q) v+1<=(xs.length:Int)
 |0,d,q,G,v,hv=>by have:=G.bnd v hv;simp only[bfs];omega
 |f+1,d,[],G,v,hv=>by have:=G.bnd v hv;simp only[bfs];omega
 |f+1,d,own :: rest,G,v,hv=>by
  obtain⟨o1,o2,o3⟩:=G.mem own List.mem_cons_self
  exact Zmb L f _ _ (Z2 G (fun b hb=>Za (Zx L ⟨o1,o2⟩ b hb))).1 v hv
theorem Z7a {W H a:Int} {xs:List Int} (L:LandOk W H xs) (ha:0<=a/\a<(xs.length:Int)) (v:Int) (hv:0<=v):rd (Zc W xs a) v<=63:=by
 have:=Zmb L xs.length _ _ (Zca ha).1 v hv
 have:=L.le
 unfold Zc;omega
theorem ZV {W H:Int} {xs:List Int} (L:LandOk W H xs) (a:Int) (ha:opn xs a=true) (k:Nat) (hk:1000<k):q0k.f k W H xs [a]=some (Zc W xs a)/\q0r.f k W H xs a=some (Zc W xs a):=by
 obtain⟨a0,a1⟩:=Za ha
 have hle:=L.le
 obtain⟨g,g2,hr⟩:=Zca (n:=xs.length) ⟨a0,a1⟩
 have build:∀ (e:Nat) (i:Int),0<=i->(xs.length:Int)-i=e->(∀ k,800+e<k->q0k.l0 k [a] (List.replicate i.toNat (-1)) (xs.length:Int) i W H xs=some (Zc W xs a))/\(∀ k,800+e<k->q0r.l0 k a (List.replicate i.toNat (-1)) i W H xs=some (Zc W xs a)):=by
  intro e
  induction e with
  |zero =>
   intro i h0 hd
   have hlt:¬ i<(xs.length:Int):=by omega
   have hi:i.toNat=xs.length:=by omega
   have r1:rd (List.replicate xs.length (-1)) a<0:=by rw[ZUa _ a a0,if_pos a1];omega
   have hlen:((List.replicate xs.length (-1:Int)).length:Int)=xs.length:=by simp
   constructor
   ·intro k hk
    obtain⟨k,rfl⟩:∃ j,k=j+3:=⟨k-3,by omega⟩
    have w1:wrap64 (0+1)=1:=Yw
    have q1:([]:List Int).length<17592186044416:=by simp
    have q2:(0:Int)<(([a]:List Int).length:Int):=by simp
    have q3:¬ (1:Int)<(([a]:List Int).length:Int):=by simp
    have e1:rd [a] 0=a:=rfl
    have hlt2:a<((List.replicate xs.length (-1:Int)).length:Int):=by omega
    rw[q0k.l0,if_neg hlt,hi,q0k.l1,if_pos q2,if_pos (show (0:Int)<=0 by omega),if_pos q2,e1,(Zk L a (k+1) Om).1,Ob,if_pos ha,if_pos a0,if_pos hlt2,if_pos r1,if_pos q1,w1,q0k.l1,if_neg q3]
    exact Zhc L xs.length _ [a] g (by simp only[List.length_cons,List.length_nil];omega) hle k Om
   ·intro k hk
    obtain⟨k,rfl⟩:∃ j,k=j+1:=⟨k-1,by omega⟩
    have hlt2:a<((List.replicate xs.length (-1:Int)).length:Int):=by omega
    rw[q0r.l0,if_neg hlt,hi,if_pos a0,if_pos hlt2]
    exact Z7b L xs.length _ [a] 0 Om (by simp) (by simp only[List.length_cons,List.length_nil];omega) g (by simp only[Int.toNat_zero,List.drop_zero,List.length_cons,List.length_nil];omega) hle k Om
  |succ e ih =>
   intro i h0 hd
   obtain⟨i1,i2⟩:=ih (i+1) Om Om
   have hlt:i<(xs.length:Int):=by omega
   have hw:wrap64 (i+1)=i+1:=Yw
   have hrep:List.replicate i.toNat (-1:Int)++[-1]=List.replicate (i+1).toNat (-1):=by
    rw[show (i+1).toNat=i.toNat+1 by omega,List.replicate_succ']
   have q1:(List.replicate i.toNat (-1:Int)).length<17592186044416:=by simp;omega
   constructor
   ·intro k hk
    obtain⟨k,rfl⟩:∃ j,k=j+1:=⟨k-1,by omega⟩
    rw[q0k.l0,if_pos hlt,if_pos q1,hw,hrep]
    exact i1 k Om
   ·intro k hk
    obtain⟨k,rfl⟩:∃ j,k=j+1:=⟨k-1,by omega⟩
    rw[q0r.l0,if_pos hlt,if_pos q1,hw,hrep]
    exact i2 k Om
 obtain⟨b1,b2⟩:=build xs.length 0 Om Om
 unfold q0k.f q0r.f
 exact⟨b1 k Om,b2 k Om⟩
theorem Znb {W H:Int} {xs:List Int} (L:LandOk W H xs) (a b:Int) (k:Nat) (hk:1000<k):q5e.f k W H xs a b=some (if opn xs a=true/\opn xs b=true then rd (Zc W xs a) b else -1)/\q5h.f k W H xs a b=some (if opn xs a=true/\opn xs b=true then rd (Zc W xs a) b else -1):=by
 unfold q5e.f q5h.f
 simp only[(Zk L a k Om).1,(Zk L a k Om).2,(Zk L b k Om).1,(Zk L b k Om).2,Ob]
 by_cases ha:opn xs a=true
 ·by_cases hb:opn xs b=true
  ·have hbr:=Za hb
   have hl:b<((Zc W xs a).length:Int):=by rw[(Zl L (Za ha)).len];exact hbr.2
   simp only[ha,hb,if_true,(ZV L a ha k hk).1,(ZV L a ha k hk).2,Ob,if_pos hbr.1,if_pos hl,and_self]
  ·simp only[ha,hb,if_true,if_false,and_false]
   exact⟨rfl,rfl⟩
 ·simp only[ha,if_false,false_and]
  exact⟨rfl,rfl⟩
def ZVa (W:Int) (xs d:List Int) (m now:Int):Int:=((Zd W xs now).find? (fun c=>rd d c==m)).getD now
def ZP (W:Int) (xs d:List Int):Nat->Int->List Int
 |0,now=>[now]
 |m+1,now=>now :: ZP W xs d m (ZVa W xs d (m:Int) now)
theorem ZF (W:Int) (xs d:List Int):∀ (m:Nat) (now:Int),(ZP W xs d m now).length=m+1
 |0,now=>rfl
 |m+1,now=>by rw[ZP,List.length_cons,ZF W xs d m]
theorem Z0 {W H b now:Int} {xs:List Int} (L:LandOk W H xs) (hb:opn xs b=true) (hn:opn xs now=true) (h0:0<=rd (Zc W xs b) now):∀ c∈Zd W xs now,opn xs c=true/\rd (Zc W xs b) now-1<=rd (Zc W xs b) c/\0<=rd (Zc W xs b) c:=by
 intro c hc
 have B:=Zl L (Za hb)
 have hco:=Zx L (Za hn) c hc
 obtain⟨h1,h2⟩:=B.done now (Za hn).1 (Za hn).2 h0 c hc
 obtain⟨h3,h4⟩:=B.done c (Za hco).1 (Za hco).2 h1 now (Zoa L hn hc)
 exact⟨hco,by omega,h1⟩
theorem Zha {W H b now:Int} {xs:List Int} (L:LandOk W H xs) (hb:opn xs b=true) (hn:opn xs now=true) (m:Nat) (hm:rd (Zc W xs b) now=(m:Int)+1) :
  ∃ c,(Zd W xs now).find? (fun c=>rd (Zc W xs b) c==(m:Int))=some c/\ZVa W xs (Zc W xs b) m now=c/\c∈Zd W xs now/\opn xs c=true/\rd (Zc W xs b) c=m:=by
 have B:=Zl L (Za hb)
 have hne:now≠b:=fun e=>by rw[e,B.src0] at hm;omega
 obtain⟨u,u0,u1,u2,u3,u4⟩:=B.from_ now (Za hn).1 (Za hn).2 Om hne
 have huo:opn xs u=true:=by
  by_cases e:u=b
  ·rw[e];exact hb
  ·obtain⟨t,t0,t1,t2,_⟩:=B.from_ u u0 u1 u3 e
   exact Zx L ⟨t0,t1⟩ u t2
 have hu:=Zoa L huo u2
 cases hf:(Zd W xs now).find? (fun c=>rd (Zc W xs b) c==(m:Int)) with
 |none =>
  exfalso
  have:=List.find?_eq_none.mp hf u hu
  simp only[beq_iff_eq] at this
  omega
 |some c =>
  have h1:=List.find?_some hf
  simp only[beq_iff_eq] at h1
  have h2:=List.mem_of_find?_eq_some hf
  exact⟨c,rfl,by unfold ZVa;rw[hf];rfl,h2,Zx L (Za hn) c h2,h1⟩
theorem Zpc {W H:Int} {xs d:List Int} (b now m:Int) (out bs:List Int) (hout:out.length<=1000) (hb4:bs.length<=4) (hn0:0<=now/\now<(d.length:Int)) (hm:rd d now=m+1) (hbs:∀ c∈bs,(0<=c/\c<(d.length:Int))/\m<=rd d c) (c:Int) (K:Nat) (r:List Int) (hr:∀ k,K<k->q1v.l0 k b d (out++[c]) c W H xs=some r) :
  ∀ (e:Nat) (i:Int),0<=i->(bs.length:Int)-i=e->(bs.drop i.toNat).find? (fun c=>rd d c==m)=some c->∀ k,K+e+1<k->q1v.l1 k b d out now bs (bs.length:Int) i W H xs=some r:=by
 intro e
 induction e with
 |zero =>
  intro i h0 hd hf k hk
  rw[List.drop_eq_nil_of_le Om] at hf
  cases hf
 |succ e ih =>
  intro i h0 hd hf k hk
  obtain⟨k,rfl⟩:∃ j,k=j+1:=⟨k-1,by omega⟩
  have hlt:i<(bs.length:Int):=by omega
  have hw:wrap64 (i+1)=i+1:=Yw
  have hmem:rd bs i∈bs:=by
   have h1:i.toNat<bs.length:=by omega
   unfold rd
   rw[List.getD_eq_getElem?_getD,List.getElem?_eq_getElem h1]
   exact List.getElem_mem h1
  obtain⟨⟨b0,b1⟩,b2⟩:=hbs _ hmem
  have q1:out.length<17592186044416:=by omega
  rw[Zz 0 bs i h0 hlt,show bs.getD i.toNat 0=rd bs i from rfl,List.find?_cons] at hf
  simp only[q1v.l1,if_pos hlt,if_pos h0,if_pos b0,if_pos b1,if_pos hn0.1,if_pos hn0.2,if_pos q1,hw]
  by_cases e2:rd d (rd bs i)=m
  ·have:(rd d (rd bs i)==m)=true:=by simp[e2]
   rw[this] at hf
   simp only[Option.some.injEq] at hf
   rw[if_pos Om,hf]
   exact hr k Om
  ·have:(rd d (rd bs i)==m)=false:=by simp[e2]
   rw[this] at hf
   rw[if_neg Om]
   exact ih (i+1) Om Om hf k Om
theorem ZJb {W H:Int} {xs d:List Int} (b now m:Int) (out bs:List Int) (hout:out.length<=1000) (hout0:1<=out.length) (hlast:rd out ((out.length:Int)-1)=now) (hb4:bs.length<=4) (hn0:0<=now/\now<(d.length:Int)) (hm:rd d now=m+1) (hmb:0<=m/\m<=1000) (hbs:∀ c∈bs,0<=c/\c<(d.length:Int)) (c:Int) (hc:bs.find? (fun c=>rd d c==m)=some c) (K:Nat) (r:List Int) (hr:∀ k,K<k->q1u.l0 k c b (out++[c]) d W H xs=some r) :
  ∀ (e:Nat) (cur:Int),e<=bs.length->cur=((bs.drop e).find? (fun c=>rd d c==m)).getD now->∀ k,K+e+1<k->q1u.l1 k cur b out d bs ((e:Int)-1) W H xs=some r:=by
 have q1:out.length<17592186044416:=by omega
 intro e
 induction e with
 |zero =>
  intro cur he hcur k hk
  obtain⟨k,rfl⟩:∃ j,k=j+1:=⟨k-1,by omega⟩
  rw[List.drop_zero,hc] at hcur
  have hcur2:cur=c:=hcur
  have hlt:¬ ((0:Nat):Int)-1>=0:=by omega
  rw[q1u.l1,if_neg hlt,if_pos q1,hcur2]
  exact hr k Om
 |succ e ih =>
  intro cur he hcur k hk
  obtain⟨k,rfl⟩:∃ j,k=j+1:=⟨k-1,by omega⟩
  have ee:((e+1:Nat):Int)-1=(e:Int):=by omega
  rw[ee]
  have h0:(e:Int)>=0:=by omega
  have h0':0<=(e:Int):=by omega
  have hlt:(e:Int)<(bs.length:Int):=by omega
  have hw:wrap64 ((e:Int)-1)=(e:Int)-1:=Yw
  have hw2:wrap64 ((out.length:Int)-1)=(out.length:Int)-1:=Yw
  have hw3:wrap64 (rd d now-1)=m:=Yw
  have hmem:rd bs (e:Int)∈bs:=by
   have h1:((e:Int)).toNat<bs.length:=by omega
   unfold rd
   rw[List.getD_eq_getElem?_getD,List.getElem?_eq_getElem h1]
   exact List.getElem_mem h1
  obtain⟨b0,b1⟩:=hbs _ hmem
  have l0:0<=(out.length:Int)-1:=by omega
  have l1:(out.length:Int)-1<(out.length:Int):=by omega
  have hdrop:((bs.drop e).find? (fun c=>rd d c==m))=if rd d (rd bs (e:Int))=m then some (rd bs (e:Int)) else(bs.drop (e+1)).find? (fun c=>rd d c==m):=by
   have:=Zz 0 bs (e:Int) Om hlt
   rw[show ((e:Int)).toNat=e by omega,show ((e:Int)+1).toNat=e+1 by omega] at this
   rw[this,List.find?_cons,show bs.getD e 0=rd bs (e:Int) from rfl]
   by_cases e2:rd d (rd bs (e:Int))=m
   ·simp[e2]
   ·have e3:(rd d (rd bs (e:Int))==m)=false:=by simp[e2]
    rw[e3,if_neg e2]
  simp only[q1u.l1,if_pos h0,if_pos h0',if_pos hlt,if_pos b0,if_pos b1,hw2,if_pos l0,if_pos l1,hlast,if_pos hn0.1,if_pos hn0.2,hw3,hw]
  by_cases e2:rd d (rd bs (e:Int))=m
  ·rw[if_pos e2]
   exact ih _ Om (by rw[hdrop,if_pos e2];rfl) k Om
  ·rw[if_neg e2]
   exact ih _ Om (by rw[hdrop,if_neg e2];exact hcur) k Om
theorem Zbc {W H b:Int} {xs:List Int} (L:LandOk W H xs) (hb:opn xs b=true):∀ (m:Nat) (now:Int) (init:List Int),opn xs now=true->rd (Zc W xs b) now=(m:Int)->init.length+m<=200 ->
  ∀ k,200+10 * m<k->q1v.l0 k b (Zc W xs b) (init++[now]) now W H xs=some (init++ZP W xs (Zc W xs b) m now)/\q1u.l0 k now b (init++[now]) (Zc W xs b) W H xs=some (init++ZP W xs (Zc W xs b) m now):=by
 have B:=Zl L (Za hb)
 intro m
 induction m with
 |zero =>
  intro now init hn hm hl k hk
  obtain⟨k,rfl⟩:∃ j,k=j+1:=⟨k-1,by omega⟩
  have e:now=b:=B.zero now (Za hn).1 (Za hn).2 Om
  rw[q1v.l0,q1u.l0,if_pos e,if_pos e]
  exact⟨rfl,rfl⟩
 |succ m ih =>
  intro now init hn hm hl k hk
  obtain⟨k,rfl⟩:∃ j,k=j+1:=⟨k-1,by omega⟩
  have hm':rd (Zc W xs b) now=(m:Int)+1:=by omega
  obtain⟨c,c1,c2,c3,c4,c5⟩:=Zha L hb hn m hm'
  have hne:¬ now=b:=fun e=>by rw[e,B.src0] at hm;omega
  have hsub:=Z0 L hb hn Om
  have hlen:=B.len
  have hnr:=Za hn
  have h4:=ZZ W now xs
  have ihc:=fun k hk=>ih c (init++[now]) c4 c5 (by simp only[List.length_append,List.length_cons,List.length_nil];omega) k hk
  rw[ZP,c2]
  rw[show init++now :: ZP W xs (Zc W xs b) m c=(init++[now])++ZP W xs (Zc W xs b) m c by simp]
  constructor
  ·rw[q1v.l0,if_neg hne,ZAa L now hnr k Om,Ob]
   exact Zpc b now (m:Int) (init++[now]) (Zd W xs now) (by simp only[List.length_append,List.length_cons,List.length_nil];omega) h4 ⟨hnr.1,by rw[hlen];exact hnr.2⟩ hm' (fun x hx=>⟨⟨(Za (hsub x hx).1).1,by rw[hlen];exact(Za (hsub x hx).1).2⟩,by have:=(hsub x hx).2.1;omega⟩) c (200+10 * m) _ (fun k hk=>(ihc k hk).1) (Zd W xs now).length 0 Om Om (by rw[Int.toNat_zero,List.drop_zero];exact c1) k Om
  ·rw[q1u.l0,if_neg hne,Zea L now hnr k Om,Ob,show wrap64 (((Zd W xs now).length:Int)-1)=((Zd W xs now).length:Int)-1 by unfold wrap64;omega]
   exact ZJb b now (m:Int) (init++[now]) (Zd W xs now) (by simp only[List.length_append,List.length_cons,List.length_nil];omega) (by simp) (by simp[rd]) h4 ⟨hnr.1,by rw[hlen];exact hnr.2⟩ hm' ⟨by omega,by omega⟩ (fun x hx=>⟨(Za (hsub x hx).1).1,by rw[hlen];exact(Za (hsub x hx).1).2⟩) c c1 (200+10 * m) _ (fun k hk=>(ihc k hk).2) (Zd W xs now).length now Om (by simp) k Om
def Zs (W:Int) (xs:List Int) (a b:Int):List Int:=if (opn xs a=true/\opn xs b=true)/\0<=rd (Zc W xs a) b then ZP W xs (Zc W xs b) (rd (Zc W xs b) a).toNat a else []
theorem ZIb {W H a b:Int} {xs:List Int} (L:LandOk W H xs) (ha:opn xs a=true) (hb:opn xs b=true):∀ (m:Nat) (v:Int),opn xs v=true->rd (Zc W xs a) v=(m:Int)->0<=rd (Zc W xs b) v->0<=rd (Zc W xs b) a:=by
 intro m
 induction m with
 |zero =>
  intro v hv hm h
  rw[<-(Zl L (Za ha)).zero v (Za hv).1 (Za hv).2 Om]
  exact h
 |succ m ih =>
  intro v hv hm h
  obtain⟨c,c1,c2,c3,c4,c5⟩:=Zha L ha hv m Om
  exact ih c c4 c5 ((Z0 L hb hv h c c3).2.2)
theorem ZH {W H a b:Int} {xs:List Int} (L:LandOk W H xs) (ha:opn xs a=true) (hb:opn xs b=true) (h:0<=rd (Zc W xs a) b):0<=rd (Zc W xs b) a:=by
 refine ZIb L ha hb (rd (Zc W xs a) b).toNat b hb Om ?_
 rw[(Zl L (Za hb)).src0];omega
theorem ZYa {W H:Int} {xs:List Int} (L:LandOk W H xs) (a b:Int) (k:Nat) (hk:1000<k):q1v.f k W H xs a b=some (Zs W xs a b)/\q1u.f k W H xs a b=some (Zs W xs a b):=by
 obtain⟨d1,d2⟩:=Znb L a b k hk
 unfold q1v.f q1u.f Zs
 rw[d1,d2]
 by_cases h:opn xs a=true/\opn xs b=true
 ·simp only[Ob,if_pos h]
  by_cases h0:0<=rd (Zc W xs a) b
  ·have h1:¬ rd (Zc W xs a) b<0:=by omega
   have h2:=ZH L h.1 h.2 h0
   have h3:=Z7a L (Za h.2) a (Za h.1).1
   have q:([]:List Int).length<17592186044416:=by simp
   obtain⟨w1,w2⟩:=Zbc L h.2 (rd (Zc W xs b) a).toNat a [] h.1 Om (by simp only[List.length_nil];omega) k Om
   rw[if_neg h1,if_neg h1,(ZV L b h.2 k hk).1,(ZV L b h.2 k hk).2,Ob,Ob,if_pos q,if_pos ⟨h,h0⟩]
   exact⟨w1,w2⟩
  ·have h1:rd (Zc W xs a) b<0:=by omega
   rw[if_pos h1,if_pos h1,if_neg (fun h2=>h0 h2.2)]
   exact⟨rfl,rfl⟩
 ·simp only[Ob,if_neg h]
  have h1:(-1:Int)<0:=by omega
  rw[if_pos h1,if_pos h1,if_neg (fun h2=>h h2.1)]
  exact⟨rfl,rfl⟩
theorem Z4 {W H:Int} {xs:List Int} (a b:Int) (k:Nat) (h:q3l.f k W H xs=some false/\q1i.f k W H xs=some false):q1v.f k W H xs a b=some []/\q1u.f k W H xs a b=some []:=by
 obtain⟨o1,o2⟩:=ZU a k h
 unfold q1v.f q1u.f q5e.f q5h.f
 rw[o1,o2]
 simp only[Ob,Bool.false_eq_true,if_false]
 have h1:(-1:Int)<0:=by omega
 rw[if_pos h1,if_pos h1]
 exact⟨rfl,rfl⟩
theorem ZOa {W H a b:Int} {xs:List Int} (L:LandOk W H xs):(Zs W xs a b).length<=64:=by
 unfold Zs
 split
 ·rename_i h
  have:=Z7a L (Za h.1.2) a (Za h.1.1).1
  rw[ZF];omega
 ·simp
theorem Zka (l:List Bool) (hl:l.length<=1048576):∀ (e:Nat) (i a:Int),0<=i->(l.length:Int)-i=e->0<=a->a<=i->∃ c,∀ k,e<k->q1d.l0 k a l (l.length:Int) i=some c/\q1k.l0 k l a i=some c:=by
 intro e
 induction e with
 |zero =>
  intro i a h0 hd _ _
  have hlt:¬ i<(l.length:Int):=by omega
  refine⟨a,fun k hk=>?_⟩
  obtain⟨k,rfl⟩:∃ j,k=j+1:=⟨k-1,by omega⟩
  rw[q1d.l0,q1k.l0,if_neg hlt,if_neg hlt]
  exact⟨rfl,rfl⟩
 |succ e ih =>
  intro i a h0 hd h1 h2
  have hlt:i<(l.length:Int):=by omega
  have hw:wrap64 (i+1)=i+1:=Yw
  have hw2:wrap64 (a+1)=a+1:=Yw
  by_cases c:rdOf false l i=true
  ·obtain⟨v,hv⟩:=ih (i+1) (a+1) Om Om Om Om
   refine⟨v,fun k hk=>?_⟩
   obtain⟨k,rfl⟩:∃ j,k=j+1:=⟨k-1,by omega⟩
   rw[q1d.l0,q1k.l0,if_pos hlt,if_pos hlt,if_pos h0,if_pos h0,if_pos hlt,if_pos c,if_pos c,hw,hw2]
   exact hv k Om
  ·obtain⟨v,hv⟩:=ih (i+1) a Om Om Om Om
   refine⟨v,fun k hk=>?_⟩
   obtain⟨k,rfl⟩:∃ j,k=j+1:=⟨k-1,by omega⟩
   rw[q1d.l0,q1k.l0,if_pos hlt,if_pos hlt,if_pos h0,if_pos h0,if_pos hlt,if_neg c,if_neg c,hw]
   exact hv k Om
theorem ZDa (l:List Bool) (hl:l.length<=1048576):∃ c,∀ k,l.length<k->q1d.f k l=some c/\q1k.f k l=some c:=by
 obtain⟨c,h⟩:=Zka l hl l.length 0 0 Om Om Om Om
 exact⟨c,h⟩
def Zo (M W:Int):Bool:=decide (1<=W/\W<=10) && decide (0<=M/\M<=W-1)
theorem ZB (M W:Int):q4m.f M W=some (Zo M W)/\q4i.f M W=some (Zo M W):=by
 unfold q4m.f q4i.f Zo
 rw[Zb,Zg]
 by_cases h:1<=W/\W<=10
 ·have e:wrap64 (W-1)=W-1:=Yw
  simp only[h,and_self,decide_true,Ob,if_true,Zb,Zg,e,Bool.true_and]
 ·simp only[h,decide_false,Ob,Bool.false_eq_true,if_false,Bool.false_and,and_self]
theorem Zbb (M W:Int) (l:List Bool) (hl:l.length<=1048576):∃ s,∀ k,l.length<k->q2g.f k M W l=some s/\q1t.f k M W l=some s:=by
 obtain⟨r1,r2⟩:=ZB M W
 by_cases h:Zo M W=true
 ·have hW:1<=W/\W<=10:=by
   unfold Zo at h
   rw[Bool.and_eq_true,decide_eq_true_eq] at h
   exact h.1
  obtain⟨t,ht⟩:∃ t,t=mx ((l.length:Int)-(W-1)) 0:=⟨_,rfl⟩
  have ht0:0<=t/\t<=(l.length:Int):=by rw[ht];unfold mx;split <;> omega
  obtain⟨c,hc⟩:=ZDa (l.drop t.toNat) (by rw[List.length_drop];omega)
  have e1:wrap64 (W-1)=W-1:=Yw
  have e2:wrap64 ((l.length:Int)-(W-1))=(l.length:Int)-(W-1):=Yw
  have e3:wrap64 ((l.length:Int)+1)=(l.length:Int)+1:=Yw
  have e4:wrap64 ((l.length:Int)+1-W)=(l.length:Int)+1-W:=Yw
  have e5:q4t.f 0 ((l.length:Int)+1-W)=some t:=by
   unfold q4t.f;rw[ht];unfold mx
   split <;> split <;> first|rfl|(congr 1;omega)|(exfalso;omega)
  refine⟨decide (c<M),fun k hk=>?_⟩
  obtain⟨c1,c2⟩:=hc k (by rw[List.length_drop];omega)
  unfold q2g.f q1t.f q4f.f
  rw[r1,r2]
  simp only[h,Ob,if_true,e1,e2,e3,e4,e5,<-ht,if_pos ht0.1,if_pos ht0.2,c1,c2,and_self]
 ·refine⟨false,fun k hk=>?_⟩
  unfold q2g.f q1t.f
  rw[r1,r2]
  simp only[h,Ob,Bool.false_eq_true,if_false,and_self]
def Zn (l:List Bool) (s:Bool):List Bool:=(l++[s]).drop (l.length+1-10)
theorem ZA (l:List Bool) (s:Bool):(Zn l s).length<=10:=by
 unfold Zn;simp;omega
theorem Zfa (l:List Bool) (s:Bool) (hl:l.length<=1048576):q5m.f l s=some (Zn l s)/\q6c.f l s=some (Zn l s):=by
 have e1:([]:List Bool).length+l.length<140737488355328:=by simp;omega
 have e2:l.length<140737488355328:=by omega
 have e3:((l++[s]:List Bool).length:Int)=(l.length:Int)+1:=by simp
 have e4:wrap64 ((l.length:Int)+1-10)=(l.length:Int)+1-10:=Yw
 obtain⟨t,ht⟩:∃ t,t=mx ((l.length:Int)+1-10) 0:=⟨_,rfl⟩
 have ht0:0<=t/\t<=(l.length:Int)+1/\t.toNat=l.length+1-10:=by rw[ht];unfold mx;split <;> omega
 have e5:q4t.f 0 ((l.length:Int)+1-10)=some t:=by
  unfold q4t.f;rw[ht];unfold mx
  split <;> split <;> first|rfl|(congr 1;omega)|(exfalso;omega)
 have e6:([]:List Bool).length+((l++[s]:List Bool).drop t.toNat).length<140737488355328:=by
  rw[List.length_drop];simp;omega
 rw[ht0.2.2] at e6
 unfold q5m.f q6c.f q4f.f Zn
 simp only[List.nil_append,Ob,if_pos e1,if_pos e2,e3,e4,<-ht,e5,if_pos ht0.1,if_pos ht0.2.1,if_pos e6,if_pos ht0.2.1,if_pos e6,ht0.2.2,and_self]
theorem Z9a (l:List S59) (hl:l.length<=1048576) (c:Int):∀ (e:Nat) (i:Int),0<=i->(l.length:Int)-i=e->∃ n,∀ k,e<k->q2f.l0 k c l (l.length:Int) i=some n/\q1x.l0 k l c i=some n:=by
 intro e
 induction e with
 |zero =>
  intro i h0 hd
  have hlt:¬ i<(l.length:Int):=by omega
  refine⟨0,fun k hk=>?_⟩
  obtain⟨k,rfl⟩:∃ j,k=j+1:=⟨k-1,by omega⟩
  rw[q2f.l0,q1x.l0,if_neg hlt,if_neg hlt]
  exact⟨rfl,rfl⟩
 |succ e ih =>
  intro i h0 hd
  have hlt:i<(l.length:Int):=by omega
  have hw:wrap64 (i+1)=i+1:=Yw
  by_cases q:(q0e l i).f0=c
  ·refine⟨(q0e l i).f1,fun k hk=>?_⟩
   obtain⟨k,rfl⟩:∃ j,k=j+1:=⟨k-1,by omega⟩
   rw[q2f.l0,q1x.l0,if_pos hlt,if_pos hlt,if_pos h0,if_pos h0,if_pos hlt,if_pos q,if_pos q]
   exact⟨rfl,rfl⟩
  ·obtain⟨v,hv⟩:=ih (i+1) Om Om
   refine⟨v,fun k hk=>?_⟩
   obtain⟨k,rfl⟩:∃ j,k=j+1:=⟨k-1,by omega⟩
   rw[q2f.l0,q1x.l0,if_pos hlt,if_pos hlt,if_pos h0,if_pos h0,if_pos hlt,if_neg q,if_neg q,hw]
   exact hv k Om
theorem ZS (l:List S59) (hl:l.length<=1048576) (c:Int):∃ n,∀ k,l.length<k->q2f.f k l c=some n/\q1x.f k l c=some n:=by
 obtain⟨n,h⟩:=Z9a l hl c l.length 0 Om Om
 exact⟨n,h⟩
theorem Zfc (a b:Int) (l:List S95) (h:List Bool) (hl:l.length<=1048576) (hh:h.length<=1048576) (hb:0<=b/\b<=1000000000) (hc:∀ k,l.length<k->q0u.f k l=some true):∃ b' o,(o=true->0<=b'/\b'+1<=b)/\∀ k,2 * l.length+3<k->q3s.f k a b l h=some (a,b',l,h,o)/\q6z.f k a b l h=some (a,b',l,h,o):=by
 obtain⟨c,N,hcc,ht,hz,hneed⟩:=ZNa l hl
 obtain⟨c1,c2⟩:=Zr a b l h hl hh
 cases c with
 |true =>
  obtain⟨_,_,_,_,hN1,hN2⟩:=ht rfl
  have hNz:¬ N=0:=by omega
  by_cases hb:b<N
  ·refine⟨b,false,fun e=>(by cases e),fun k hk=>?_⟩
   unfold q3s.f q6z.f
   simp only[c1,c2,Ob,(hcc k Om).1,(hneed k hk).1,(hneed k hk).2,if_true,if_neg hNz,if_pos hb,and_self]
  ·have hw:wrap64 (b-N)=b-N:=Yw
   refine⟨b-N,true,fun _=>by omega,fun k hk=>?_⟩
   unfold q3s.f q6z.f
   simp only[c1,c2,Ob,(hcc k Om).1,(hneed k hk).1,(hneed k hk).2,if_true,if_neg hNz,if_neg hb,hw,and_self]
 |false =>
  have h1:=(hcc (l.length+1) Om).1
  rw[hc (l.length+1) Om] at h1
  cases h1
theorem ZL (a b n:Int) (l:List S95) (h:List Bool) (hl:l.length<=1048576) (hh:h.length<=1048576) (hb0:0<=b/\b<=1000000000):∃ b' o,(b<=b'/\b'<=b+800)/\∀ k,3 * l.length+3<k->q4c.f k a b l h n=some (a,b',l,h,o)/\q5l.f k a b l h n=some (a,b',l,h,o):=by
 have hb:wrap64 b=b:=Yw
 obtain⟨C,hC,hcap⟩:=Z8 l hl
 obtain⟨c1,c2⟩:=Zr a b l h hl hh
 obtain⟨R,hR,hroom⟩:∃ R,(0<=R/\R<=800)/\∀ k,3 * l.length+3<k->q1s.f k a b l h=some R/\q4d.f k a b l h=some R:=by
  have h1:¬ b<0:=by omega
  by_cases h2:b>=C
  ·refine⟨0,by omega,fun k hk=>?_⟩
   unfold q1s.f q4d.f
   simp only[(hcap k hk).1,(hcap k hk).2,Ob,if_neg h1,if_pos h2,and_self]
  ·refine⟨wrap64 (C-b),by unfold wrap64;omega,fun k hk=>?_⟩
   unfold q1s.f q4d.f
   simp only[(hcap k hk).1,(hcap k hk).2,Ob,if_neg h1,if_neg h2,and_self]
 have hmax:∀ x,q4t.f 0 x=some (mx 0 x):=fun x=>by
  unfold q4t.f mx;split <;> rfl
 by_cases hn:n<0
 ·refine⟨b,0,by omega,fun k hk=>?_⟩
  have e:mx 0 (mn n R)=0:=by unfold mx mn;split <;> split <;> omega
  unfold q4c.f q5l.f
  simp only[c1,c2,Ob,if_pos hn,(hroom k hk).2,Zra,hmax,e,Int.add_zero,hb,and_self]
 ·have e0:0<=mn n R/\mn n R<=800:=by unfold mn;split <;> omega
  refine⟨wrap64 (b+mn n R),mn n R,by unfold wrap64;omega,fun k hk=>?_⟩
  have e:mx 0 (mn n R)=mn n R:=by unfold mx mn;split <;> split <;> omega
  unfold q4c.f q5l.f
  simp only[c1,c2,Ob,if_neg hn,(hroom k hk).1,(hroom k hk).2,Zra,hmax,e,and_self]
theorem Zsa (ws:List Int) (hws:ws.length<=64) (ds:List S59) (hds:ds.length<=20) (M W:Int) (l:List S95) (hl:l.length<=8) (hc:∀ k,l.length<k->q0u.f k l=some true) :
  ∀ (F:Nat) (i at_ b:Int) (h days:List Bool),0<=i->i<64->h.length<=10->0<=b->(64-i) * 30000+b+1<=(F:Int)->F<=1000000000->days.length+F<=2000000000 ->
  ∃ v ok ys,(ok=true->0<=v)/\(∀ k,100+F<k->q0z.l0 k ws ds days i M W at_ b l h=some (v,ys,ok))/\(∀ k,100+F<k->q0o.l0 k ds ws (i+1) M W at_ b l h=some (if ok=true then v else -1)):=by
 intro F
 induction F with
 |zero=>intro i at_ b h days h0 h1 hh hb hF _ _;omega
 |succ F ih =>
  intro i at_ b h days h0 h1 hh hb hF hF2 hdays
  have hw:wrap64 (i+1)=i+1:=Yw
  by_cases hlt:i+1<(ws.length:Int)
  ·obtain⟨b',o,ho,he⟩:=Zfc at_ b l h Om Om ⟨hb,by omega⟩ hc
   cases o with
   |false =>
    refine⟨0,false,days,fun e=>(by cases e),fun k hk=>?_,fun k hk=>?_⟩
    ·obtain⟨k,rfl⟩:∃ j,k=j+1:=⟨k-1,by omega⟩
     simp only[q0z.l0,hw,if_pos hlt,(he k Om).1,Ob,Bool.false_eq_true,if_false]
    ·obtain⟨k,rfl⟩:∃ j,k=j+1:=⟨k-1,by omega⟩
     simp only[q0o.l0,if_pos hlt,(he k Om).2,Ob,Bool.false_eq_true,if_false]
   |true =>
    obtain⟨hb'0,hb'1⟩:=ho rfl
    obtain⟨s,hs⟩:=Zbb M W h Om
    obtain⟨a1,a2⟩:=Zfa h s Om
    have q1:days.length<140737488355328:=by omega
    cases s with
    |true =>
     obtain⟨v,ok,ys,hv,i1,i2⟩:=ih i at_ b' (Zn h true) (days++[true]) h0 h1 (ZA h true) hb'0 Om Om (by simp only[List.length_append,List.length_cons,List.length_nil];omega)
     refine⟨v,ok,ys,hv,fun k hk=>?_,fun k hk=>?_⟩
     ·obtain⟨k,rfl⟩:∃ j,k=j+1:=⟨k-1,by omega⟩
      simp only[q0z.l0,hw,if_pos hlt,(he k Om).1,Ob,if_true,(hs k Om).1,a1,if_pos q1]
      exact i1 k Om
     ·obtain⟨k,rfl⟩:∃ j,k=j+1:=⟨k-1,by omega⟩
      simp only[q0o.l0,if_pos hlt,(he k Om).2,Ob,if_true,(hs k Om).2,a2]
      exact i2 k Om
    |false =>
     obtain⟨n,hn⟩:=ZS ds Om (rd ws (i+1))
     have hi0:0<=i+1:=by omega
     have hw2:wrap64 (i+1+1)=i+1+1:=Yw
     obtain⟨b1,o1,hb1,hp1⟩:=ZL (rd ws (i+1)) b' n l h Om Om ⟨hb'0,by omega⟩
     obtain⟨b2,o2,hb2,hp2⟩:=ZL (rd ws (i+1)) b' n l (Zn h false) Om (by have:=ZA h false;omega) ⟨hb'0,by omega⟩
     have hbe:b1=b2:=by
      have x1:=(hp1 (3 * l.length+4) Om).1
      have x2:=(hp2 (3 * l.length+4) Om).1
      obtain⟨y1,_⟩:=Zr (rd ws (i+1)) b' l h Om Om
      obtain⟨y2,_⟩:=Zr (rd ws (i+1)) b' l (Zn h false) Om (by have:=ZA h false;omega)
      unfold q4c.f at x1 x2
      rw[y1] at x1
      rw[y2] at x2
      have hroomEq:q1s.f (3 * l.length+4) (rd ws (i+1)) b' l h=q1s.f (3 * l.length+4) (rd ws (i+1)) b' l (Zn h false):=rfl
      simp only[Ob] at x1 x2
      rw[hroomEq] at x1
      by_cases hn0:n<0
      ·rw[if_pos hn0] at x1 x2
       simp only[Option.some.injEq,Prod.mk.injEq] at x1 x2
       omega
      ·rw[if_neg hn0] at x1 x2
       cases hq:q1s.f (3 * l.length+4) (rd ws (i+1)) b' l (Zn h false) with
       |none=>rw[hq] at x1;cases x1
       |some z =>
        rw[hq] at x1 x2
        simp only[Ob,Option.some.injEq,Prod.mk.injEq] at x1 x2
        omega
     have hb1':0<=b1:=by omega
     have hdays2:(days++[false]).length+F<=2000000000:=by rw[List.length_append];simp only[List.length_cons,List.length_nil];omega
     obtain⟨v,ok,ys,hv,i1,i2⟩:=ih (i+1) (rd ws (i+1)) b1 (Zn h false) (days++[false]) hi0 Om (ZA h false) hb1' Om Om hdays2
     refine⟨v,ok,ys,hv,fun k hk=>?_,fun k hk=>?_⟩
     ·obtain⟨k,rfl⟩:∃ j,k=j+1:=⟨k-1,by omega⟩
      simp only[q0z.l0,hw,if_pos hlt,(he k Om).1,Ob,if_true,(hs k Om).1,Bool.false_eq_true,if_false,if_pos hi0,(hn k Om).1,(hp1 k Om).1,a1,if_pos q1]
      exact i1 k Om
     ·obtain⟨k,rfl⟩:∃ j,k=j+1:=⟨k-1,by omega⟩
      simp only[q0o.l0,if_pos hlt,(he k Om).2,Ob,if_true,(hs k Om).2,a2,Bool.false_eq_true,if_false,if_pos hi0,(hn k Om).2,(hp2 k Om).2,hw2,<-hbe]
      exact i2 k Om
  ·refine⟨b,true,days,fun _=>hb,fun k hk=>?_,fun k hk=>?_⟩
   ·obtain⟨k,rfl⟩:∃ j,k=j+1:=⟨k-1,by omega⟩
    simp only[q0z.l0,hw,if_neg hlt]
   ·obtain⟨k,rfl⟩:∃ j,k=j+1:=⟨k-1,by omega⟩
    simp only[q0o.l0,if_neg hlt,if_true]
structure LandEv (W H:Int) (xs:List Int) (K:Nat) (lb:Bool) (oc:Int->Bool):Prop where
 land:∀ k,K<k->q3l.f k W H xs=some lb/\q1i.f k W H xs=some lb
 open_:∀ m k,K<k->q1r.f k W H xs m=some (oc m)/\q1y.f k W H xs m=some (oc m)
def okD (oc:Int->Bool) (ds:List S59) (i:Int):Prop:=(oc (q0e ds i).f0=true/\1<=(q0e ds i).f1/\(q0e ds i).f1<=10000)/\(i>0->(q0e ds (i-1)).f0<(q0e ds i).f0)
theorem Zt {W H:Int} {xs:List Int} {K:Nat} {lb:Bool} {oc:Int->Bool} (E:LandEv W H xs K lb oc) (ds:List S59) (hds:ds.length<=1048576):∀ (e:Nat) (i:Int),0<=i->(ds.length:Int)-i=e ->
  ∃ b,(b=true->ds.length<=20/\∀ j,i<=j->j<(ds.length:Int)->okD oc ds j)/\∀ k,K+e+1<k->q0l.l0 k ds ds (ds.length:Int) i W H xs=some b/\q0m.l0 k ds i W H xs=some b:=by
 intro e
 induction e with
 |zero =>
  intro i h0 hd
  have hlt:¬ i<(ds.length:Int):=by omega
  cases lb with
  |false =>
   refine⟨false,fun h=>(by cases h),fun k hk=>?_⟩
   obtain⟨k,rfl⟩:∃ j,k=j+1:=⟨k-1,by omega⟩
   simp only[q0l.l0,q0m.l0,if_neg hlt]
   obtain⟨e1,e2⟩:=E.land (k+1) Om
   by_cases hk2:K<k
   ·simp only[(E.land k hk2).1,(E.land k hk2).2,Ob,Bool.false_eq_true,if_false,and_self]
   ·exfalso;omega
  |true =>
   refine⟨decide ((ds.length:Int)<=20),fun h=>⟨by have:=of_decide_eq_true h;omega,fun j h1 h2=>by omega⟩,fun k hk=>?_⟩
   obtain⟨k,rfl⟩:∃ j,k=j+1:=⟨k-1,by omega⟩
   by_cases hk2:K<k
   ·simp only[q0l.l0,q0m.l0,if_neg hlt,(E.land k hk2).1,(E.land k hk2).2,Ob,if_true,and_self]
   ·exfalso;omega
 |succ e ih =>
  intro i h0 hd
  have hlt:i<(ds.length:Int):=by omega
  obtain⟨b,hb,hp⟩:=ih (i+1) Om Om
  have hw:wrap64 (i-1)=i-1:=Yw
  have hw2:wrap64 (i+1)=i+1:=Yw
  by_cases ok:(oc (q0e ds i).f0=true/\1<=(q0e ds i).f1/\(q0e ds i).f1<=10000)/\(i>0->(q0e ds (i-1)).f0<(q0e ds i).f0)
  ·refine⟨b,fun e_=>⟨(hb e_).1,fun j h1 h2=>by
    by_cases hj:j=i
    ·rw[hj];exact ok
    ·exact(hb e_).2 j Om h2⟩,fun k hk=>?_⟩
   obtain⟨k,rfl⟩:∃ j,k=j+1:=⟨k-1,by omega⟩
   obtain⟨b1,b2⟩:=hp k Om
   obtain⟨o1,o2⟩:=E.open_ (q0e ds i).f0 k Om
   have e2:1<=(q0e ds i).f1/\(q0e ds i).f1<=10000:=ok.1.2
   simp only[q0l.l0,q0m.l0,if_pos hlt,if_pos h0,o1,o2,ok.1.1,Zg,Zb,Ob,decide_eq_true_eq,if_true,if_pos e2,hw,hw2]
   by_cases hi:i>0
   ·have h1:0<=i-1:=by omega
    have h2:i-1<(ds.length:Int):=by omega
    have h3:=ok.2 hi
    have h4:¬ (q0e ds i).f0<=(q0e ds (i-1)).f0:=by omega
    have h5:¬ (q0e ds (i-1)).f0>=(q0e ds i).f0:=by omega
    simp only[if_pos hi,if_pos h1,if_pos h2,if_neg h4,if_neg h5]
    exact⟨b1,b2⟩
   ·simp only[if_neg hi]
    exact⟨b1,b2⟩
  ·refine⟨false,fun h=>(by cases h),fun k hk=>?_⟩
   obtain⟨k,rfl⟩:∃ j,k=j+1:=⟨k-1,by omega⟩
   obtain⟨o1,o2⟩:=E.open_ (q0e ds i).f0 k Om
   simp only[q0l.l0,q0m.l0,if_pos hlt,if_pos h0,o1,o2,Zg,Zb,Ob,decide_eq_true_eq,hw]
   by_cases c1:oc (q0e ds i).f0=true
   ·have ok':¬ ((1<=(q0e ds i).f1/\(q0e ds i).f1<=10000)/\(i>0->(q0e ds (i-1)).f0<(q0e ds i).f0)):=fun h=>ok ⟨⟨c1,h.1⟩,h.2⟩
    simp only[c1,if_true]
    constructor
    ·repeat' split
     all_goals first|rfl|(exfalso;omega)
    ·repeat' split
     all_goals first|rfl|(exfalso;omega)
   ·simp only[c1,Bool.false_eq_true,if_false,and_self]
theorem Zla {W H:Int} {xs:List Int} {K:Nat} {lb:Bool} {oc:Int->Bool} (E:LandEv W H xs K lb oc) (a b:Int) (l:List S95) (h:List Bool) (hl:l.length<=1048576):∃ p,(p=true->oc a=true/\l.length<=8/\(0<=b/\b<=10000)/\h.length<=10/\∀ k,l.length<k->q0u.f k l=some true)/\∀ k,K+l.length<k->q3n.f k W H xs a b l h=some p/\q4p.f k W H xs a b l h=some p:=by
 obtain⟨c,hc,hf⟩:=ZM l hl
 refine⟨oc a && (c && (decide (0<=b/\b<=10000) && decide ((h.length:Int)<=10))),fun e=>?_,fun k hk=>?_⟩
 ·simp only[Bool.and_eq_true,decide_eq_true_eq] at e
  obtain⟨e1,e2,e3,e4⟩:=e
  subst e2
  exact⟨e1,(hf rfl).1.2,e3,by omega,fun k hk=>(hc k hk).1⟩
 ·unfold q3n.f q4p.f
  obtain⟨o1,o2⟩:=E.open_ a k Om
  simp only[o1,o2,(hc k Om).1,(hc k Om).2,Ob,Zb,Zg]
  cases oc a <;> cases c <;> simp only[Bool.false_eq_true,if_false,if_true,Bool.false_and,Bool.true_and,and_self]
  by_cases q:0<=b/\b<=10000
  ·simp only[q,and_self,decide_true,if_true,Bool.true_and]
  ·simp only[q,decide_false,Bool.false_eq_true,if_false,Bool.false_and,and_self]
structure LandAll (W H:Int) (xs:List Int) (K:Nat) (lb:Bool) (oc:Int->Bool):Prop extends LandEv W H xs K lb oc where
 way:∀ a b,∃ ws:List Int,ws.length<=64/\∀ k,K<k->q1v.f k W H xs a b=some ws/\q1u.f k W H xs a b=some ws
 near:∀ a,∃ ns:List Int,ns.length<=4/\∀ k,K<k->q3e.f k W H xs a=some ns/\ZJ k W H xs a=some ns
theorem ZO (W H:Int) (xs:List Int) (hn:xs.length<=1048576):∃ lb oc,LandAll W H xs (xs.length+1000) lb oc:=by
 rcases ZD W H xs hn with L|h
 ·refine⟨true,opn xs,⟨⟨fun k hk=>L.ev k Om,fun m k hk=>Zk L m k Om⟩,fun a b=>⟨Zs W xs a b,ZOa L,fun k hk=>ZYa L a b k Om⟩,fun a=>?_⟩⟩
  by_cases ha:0<=a/\a<(xs.length:Int)
  ·refine⟨Zd W xs a,ZZ W a xs,fun k hk=>⟨ZAa L a ha k Om,?_⟩⟩
   unfold ZJ
   simp only[(ZC L a k Om).2,ha,and_self,decide_true,Ob,if_true,Zea L a ha k Om]
  ·refine⟨[],by simp,fun k hk=>Zjb a k ?_⟩
   have:=ZC L a k Om
   simp only[ha,decide_false] at this
   exact this
 ·refine⟨false,fun _=>false,⟨⟨fun k hk=>h k Om,fun m k hk=>ZU m k (h k Om)⟩,fun a b=>⟨[],by simp,fun k hk=>Z4 a b k (h k Om)⟩,fun a=>⟨[],by simp,fun k hk=>Zjb a k (ZHa a k (h k Om))⟩⟩⟩
theorem ZUb {W H:Int} {xs:List Int} {K:Nat} {lb:Bool} {oc:Int->Bool} (A:LandAll W H xs K lb oc) (base M Wi:Int) (ds:List S59) (hds:ds.length<=1048576) (a b:Int) (l:List S95) (hl:l.length<=1048576) (h:List Bool) :
  ∃ v,∀ k,K+ds.length+l.length+3000000<k->q2v.f k W H xs base M Wi ds a b l h=some v/\q0o.f k W H xs base M Wi ds a b l h=some v:=by
 obtain⟨ws,hws,hway⟩:=A.way a base
 obtain⟨r1,r2⟩:=ZB M Wi
 obtain⟨d,hd,hdk⟩:=Zt A.toLandEv ds hds ds.length 0 Om Om
 obtain⟨p,hp,hpk⟩:=Zla A.toLandEv a b l h hl
 by_cases bad:Zo M Wi=true/\d=true/\p=true
 ·obtain⟨rt,rfl,rfl⟩:=bad
  obtain⟨_,hl8,hb,hh,hc⟩:=hp rfl
  have hd20:=(hd rfl).1
  by_cases hw0:ws=[]
  ·subst hw0
   refine⟨-1,fun k hk=>?_⟩
   obtain⟨k,rfl⟩:∃ j,k=j+1:=⟨k-1,by omega⟩
   have hk0:=hdk (k+1) Om
   have hk1:=hpk (k+1) Om
   have hk2:=hway (k+1) Om
   unfold q2v.f q3x.f q0o.f q0l.f q0m.f
   simp only[hk0.1,hk0.2,hk1.1,hk1.2,hk2.1,hk2.2,r1,r2,rt,Ob,if_true,List.length_nil,q0o.j0]
   exact⟨rfl,rfl⟩
  ·have hwl:¬ (ws.length:Int)=0:=by
    intro e
    exact hw0 (List.eq_nil_of_length_eq_zero Om)
   obtain⟨n,hn⟩:=ZS ds hds a
   obtain⟨b',o,hb',hpu⟩:=ZL a b n l h hl Om ⟨hb.1,by omega⟩
   obtain⟨v,ok,ys,hv,w1,w2⟩:=Zsa ws hws ds hd20 M Wi l hl8 hc 2000000 0 a b' h [] Om Om hh Om Om Om (by simp)
   refine⟨if ok=true then v else -1,fun k hk=>?_⟩
   obtain⟨k,rfl⟩:∃ j,k=j+1:=⟨k-1,by omega⟩
   have hk0:=hdk (k+1) Om
   have hk1:=hpk (k+1) Om
   have hk2:=hway (k+1) Om
   have w2':=w2 k Om
   have w1':=w1 (k+1) Om
   have hbq:((ws.length:Int)==0)=false:=beq_eq_false_iff_ne.mpr hwl
   rw[show (0:Int)+1=1 from rfl] at w2'
   unfold q2v.f q3x.f q0o.f q0l.f q0m.f q0z.f
   simp only[hk0.1,hk0.2,hk1.1,hk1.2,hk2.1,hk2.2,r1,r2,rt,Ob,if_true,if_neg hwl,hbq,q0o.j0,Bool.false_eq_true,if_false,(hn (k+1) Om).1,(hn k Om).2,(hpu (k+1) Om).1,(hpu k Om).2,w1',w2',and_true]
   cases ok <;> rfl
 ·refine⟨-1,fun k hk=>?_⟩
  obtain⟨k,rfl⟩:∃ j,k=j+1:=⟨k-1,by omega⟩
  have hk0:=hdk (k+1) Om
  have hk1:=hpk (k+1) Om
  have hk2:=hway (k+1) Om
  unfold q2v.f q3x.f q0o.f q0l.f q0m.f
  simp only[hk0.1,hk0.2,hk1.1,hk1.2,hk2.1,hk2.2,r1,r2,Ob,q0o.j0]
  by_cases c1:Zo M Wi=true
  ·cases d with
   |false=>simp[c1]
   |true =>
    cases p with
    |false=>simp[c1]
    |true=>exact absurd ⟨c1,rfl,rfl⟩ bad
  ·simp[c1]
theorem Zw {W H:Int} {xs:List Int} {K:Nat} {lb:Bool} {oc:Int->Bool} (A:LandAll W H xs K lb oc) (base M Wi:Int) (ds:List S59) (hds:ds.length<=1048576) (a b:Int) (l:List S95) (hl:l.length<=1048576) (h:List Bool) :
  ∃ c,∀ k,K+ds.length+l.length+3000000<k->q1a.f k W H xs base M Wi ds a b l h=some c/\q2y.f k W H xs base M Wi ds a b l h=some c:=by
 obtain⟨v,hv⟩:=ZUb A base M Wi ds hds a b l hl h
 refine⟨decide (v>=0),fun k hk=>?_⟩
 unfold q1a.f q2y.f
 rw[(hv k hk).1,(hv k hk).2]
 exact⟨rfl,rfl⟩
theorem Zyb {W H a b:Int} {xs:List Int} (L:LandOk W H xs) (ha:opn xs a=true) (hb:opn xs b=true):∀ (m:Nat) (v:Int),opn xs v=true->rd (Zc W xs b) v=(m:Int)->0<=rd (Zc W xs a) v->rd (Zc W xs a) b<=rd (Zc W xs a) v+m:=by
 intro m
 induction m with
 |zero =>
  intro v hv hm h
  rw[<-(Zl L (Za hb)).zero v (Za hv).1 (Za hv).2 Om]
  omega
 |succ m ih =>
  intro v hv hm h
  obtain⟨c,c1,c2,c3,c4,c5⟩:=Zha L hb hv m Om
  obtain⟨_,n1,n2⟩:=Z0 L ha hv h c c3
  obtain⟨_,n3,_⟩:=Z0 L ha c4 n2 v (Zoa L hv c3)
  have:=ih c c4 c5 n2
  omega
theorem Zpa {W H a b:Int} {xs:List Int} (L:LandOk W H xs) (ha:opn xs a=true) (hb:opn xs b=true) (h:0<=rd (Zc W xs a) b):rd (Zc W xs a) b=rd (Zc W xs b) a:=by
 have h2:=ZH L ha hb h
 have sa:=(Zl L (Za ha)).src0
 have sb:=(Zl L (Za hb)).src0
 have l1:=Zyb L ha hb (rd (Zc W xs b) a).toNat a ha Om Om
 have l2:=Zyb L hb ha (rd (Zc W xs a) b).toNat b hb Om Om
 omega
theorem Z6b (ds:List S59) (i:Nat) (h:i<ds.length):ds.take (i+1)=ds.take i++[q0e ds (i:Int)]:=by
 rw[List.take_succ_eq_append_getElem h]
 unfold q0e
 rw[Int.toNat_natCast,List.getD_eq_getElem?_getD,List.getElem?_eq_getElem h];rfl
theorem ZN (ds:List S59) (i:Nat) (h:i<ds.length):ds.drop i=q0e ds (i:Int) :: ds.drop (i+1):=by
 rw[List.drop_eq_getElem_cons h]
 unfold q0e
 rw[Int.toNat_natCast,List.getD_eq_getElem?_getD,List.getElem?_eq_getElem h];rfl
theorem Z5b (ds:List S59) (cell:Int):∀ (e i:Nat),ds.length=i+e->(∀ j:Nat,j<i->(q0e ds j).f0<cell) ->
  ∃ p:Nat,p<=ds.length/\(∀ j:Nat,j<p->(q0e ds j).f0<cell)/\(p<ds.length->cell<=(q0e ds (p:Int)).f0)
 |0,i,h,hi=>⟨i,by omega,hi,fun h2=>by omega⟩
 |e+1,i,h,hi=>by
  by_cases c:(q0e ds (i:Int)).f0<cell
  ·exact Z5b ds cell e (i+1) Om (fun j hj=>by
    by_cases q:j=i
    ·rw[q];exact c
    ·exact hi j Om)
  ·exact⟨i,by omega,hi,fun _=>by omega⟩
theorem ZX {oc:Int->Bool} {ds:List S59} (h:∀ j,0<=j->j<(ds.length:Int)->okD oc ds j) (i:Nat):∀ e:Nat,i+e+1<ds.length->(q0e ds (i:Int)).f0<(q0e ds ((i+e+1:Nat):Int)).f0
 |0,hl=>by
  have:=(h ((i+1:Nat):Int) Om Om).2 Om
  rwa [show (((i+1:Nat):Int)-1)=(i:Int) by omega] at this
 |e+1,hl=>by
  have h1:=ZX h i e Om
  have h2:=(h ((i+(e+1)+1:Nat):Int) Om Om).2 Om
  rw[show (((i+(e+1)+1:Nat):Int)-1)=((i+e+1:Nat):Int) by omega] at h2
  omega
theorem ZFb (ds:List S59) (hds:ds.length<=1048576) (cell n W H:Int) (xs:List Int) (p:Nat) (hp:p<=ds.length) (h1:∀ j:Nat,j<p->(q0e ds j).f0<cell) (h2:p<ds.length->cell<=(q0e ds (p:Int)).f0) (k:Nat) :
  ∀ (e i:Nat),p=i+e->q1e.l0 (k+e+1) ds cell n ds (i:Int) W H xs=q1e.j2 k ds cell n ds (p:Int) W H xs
 |0,i,h=>by
  obtain rfl:p=i:=h
  have h0:(0:Int)<=(p:Int):=by omega
  by_cases c:(p:Int)<(ds.length:Int)
  ·have h3:¬ (q0e ds (p:Int)).f0<cell:=by have:=h2 Om;omega
   simp only[q1e.l0,if_pos c,if_pos h0,if_neg h3]
  ·simp only[q1e.l0,if_neg c]
 |e+1,i,h=>by
  have c:(i:Int)<(ds.length:Int):=by omega
  have h0:(0:Int)<=(i:Int):=by omega
  have hw:wrap64 ((i:Int)+1)=((i+1:Nat):Int):=Yw
  rw[show k+(e+1)+1=(k+e+1)+1 by omega,q1e.l0,if_pos c,if_pos h0,if_pos (h1 i Om),hw]
  exact ZFb ds hds cell n W H xs p hp h1 h2 k e (i+1) Om
theorem Z2a (ds:List S59) (hds:ds.length<=1048576) (cell n:Int) (p:Nat) (hp:p<=ds.length) (h1:∀ j:Nat,j<p->(q0e ds j).f0<cell) (k:Nat) :
  ∀ (e i:Nat),p=i+e->q1q.l0 (k+2 * e) ds cell n (ds.take i) false (i:Int)=q1q.l0 k ds cell n (ds.take p) false (p:Int)
 |0,i,h=>by obtain rfl:p=i:=h;rfl
 |e+1,i,h=>by
  have c:(i:Int)<(ds.length:Int):=by omega
  have h0:(0:Int)<=(i:Int):=by omega
  have hw:wrap64 ((i:Int)+1)=((i+1:Nat):Int):=Yw
  have h3:=h1 i Om
  have h4:¬ (q0e ds (i:Int)).f0>=cell:=by omega
  have h5:¬ (q0e ds (i:Int)).f0=cell:=by omega
  have h6:(ds.take i).length<8796093022208:=by rw[List.length_take];omega
  rw[show k+2 * (e+1)=(k+2 * e)+1+1 by omega,q1q.l0,if_pos c,if_neg (by decide),if_pos h0,q1q.j1,decide_eq_false h4,if_neg (by decide),if_pos h0,if_pos c,if_neg h5,if_pos h6,hw]
  have e2:=Z2a ds hds cell n p hp h1 k e (i+1) Om
  rw[Z6b ds i Om] at e2
  exact e2
theorem Zqa (ds:List S59) (hds:ds.length<=1048576) (cell n:Int) (k:Nat) :
  ∀ (e i:Nat) (Y:List S59),ds.length=i+e->(∀ j:Nat,i<=j->j<ds.length->(q0e ds j).f0≠cell)->Y.length+e<=4000000->q1q.l0 (k+2 * e+1) ds cell n Y true (i:Int)=some (Y++ds.drop i)
 |0,i,Y,h,_,_=>by
  have c:¬ (i:Int)<(ds.length:Int):=by omega
  rw[show k+2 * 0+1=k+1 by omega,q1q.l0,if_neg c,if_pos rfl,List.drop_eq_nil_of_le Om,List.append_nil]
 |e+1,i,Y,h,h1,hY=>by
  have c:(i:Int)<(ds.length:Int):=by omega
  have h0:(0:Int)<=(i:Int):=by omega
  have hw:wrap64 ((i:Int)+1)=((i+1:Nat):Int):=Yw
  have h5:=h1 i Om Om
  have h6:Y.length<8796093022208:=by omega
  rw[show k+2 * (e+1)+1=(k+2 * e+1)+1+1 by omega,q1q.l0,if_pos c,if_pos rfl,q1q.j1,if_neg (by decide),if_pos h0,if_pos c,if_neg h5,if_pos h6,hw]
  rw[Zqa ds hds cell n k e (i+1) _ Om (fun j a b=>h1 j Om b) (by simp;omega),ZN ds i Om,List.append_assoc]
  rfl
theorem ZEa (ds:List S59) (hds:ds.length<=1048576) (cell:Int) (p:Nat) (hp:p<=ds.length) (h1:∀ j:Nat,j<p->(q0e ds j).f0≠cell) (k:Nat) :
  ∀ (e i:Nat),p=i+e->q1x.l0 (k+e) ds cell (i:Int)=q1x.l0 k ds cell (p:Int)
 |0,i,h=>by obtain rfl:p=i:=h;rfl
 |e+1,i,h=>by
  have c:(i:Int)<(ds.length:Int):=by omega
  have h0:(0:Int)<=(i:Int):=by omega
  have hw:wrap64 ((i:Int)+1)=((i+1:Nat):Int):=Yw
  rw[show k+(e+1)=(k+e)+1 by omega,q1x.l0,if_pos c,if_pos h0,if_neg (h1 i Om),hw]
  exact ZEa ds hds cell p hp h1 k e (i+1) Om
theorem Zjc (ds:List S59) (p:Nat) (hp:p<=ds.length) (v z:S59):(shf (ds++[z]) p).set p v=ds.take p++v :: ds.drop p:=by
 have e1:(ds++[z]).drop p=ds.drop p++[z]:=by rw[List.drop_append_of_le_length hp]
 have e2:(ds++[z]).length-(p+1)=(ds.drop p).length:=by simp
 unfold shf
 rw[e1,e2,List.take_left,List.set_append_left _ _ (by rw[List.length_take];simp;omega),List.set_eq_take_append_cons_drop]
 rw[if_pos (by rw[List.length_take];simp;omega),List.take_take,show min p (p+1)=p by omega,List.take_append_of_le_length hp,List.drop_take]
 simp
theorem ZT (ds:List S59) (hds:ds.length<=4000000):q2m.f ds=some ds:=by
 unfold q2m.f
 rw[Ob,if_pos (by simp;omega)];rfl
def Zf:List S59->Int
 |[]=>0
 |d :: r=>d.f1+Zf r
theorem Z1 (a b:List S59):Zf (a++b)=Zf a+Zf b:=by
 induction a with
 |nil=>simp[Zf]
 |cons x t ih=>rw[List.cons_append,Zf,Zf,ih];omega
theorem Zgc (ds:List S59) (p:Nat) (h:p<ds.length):Zf ds=Zf (ds.take p)+((q0e ds (p:Int)).f1+Zf (ds.drop (p+1))):=by
 conv=>lhs;rw[<-List.take_append_drop p ds,Z1,ZN ds p h,Zf]
theorem ZPb (ds:List S59) (p:Nat):Zf ds=Zf (ds.take p)+Zf (ds.drop p):=by
 conv=>lhs;rw[<-List.take_append_drop p ds,Z1]
theorem Zhb {W H:Int} {xs:List Int} {K:Nat} {lb:Bool} {oc:Int->Bool} (E:LandEv W H xs K lb oc) (ds:List S59) (hds:ds.length<=1048576) (cell n:Int) :
  ∃ d o,(o=true->d.length<=20/\∀ k,K+d.length+1<k->q0l.f k W H xs d=some true/\q0m.f k W H xs d=some true)/\d.length<=ds.length+1/\(o=true->Zf d=Zf ds+n)/\∀ k,K+4 * ds.length+110<k->q1e.f k W H xs ds cell n=some (d,o)/\q3v.f k W H xs ds cell n=some (d,o):=by
 obtain⟨v,hv,hvk⟩:=Zt E ds hds ds.length 0 Om Om
 have hl0:([]:List S59).length+ds.length<8796093022208:=by simp;omega
 by_cases g:(1<=n/\n<=10000)/\v=true
 ·obtain⟨gn,rfl⟩:=g
  obtain⟨hl,hok⟩:=hv rfl
  obtain⟨p,hp,h1,h2⟩:=Z5b ds cell ds.length 0 Om (fun j hj=>by omega)
  have asc:=fun i e=>ZX (fun j a b=>hok j a b) i e
  obtain⟨D,f,hD,hDl,hsum,hf,hS,hI⟩:∃ (D:List S59) (f:Int),D.length<=ds.length+1/\D.length<=30/\Zf D=Zf ds+n/\(∀ k,30<k->q1x.f k ds cell=some f) /\
    (∀ k,100<k->q1q.f k ds cell (wrap64 (f+n))=some D)/\(∀ k,40<k->q1e.j2 (k+3) ds cell n ds (p:Int) W H xs=q1e.j4 (k+1) ds D W H xs):=by
   have h0:(0:Int)<=(p:Int):=by omega
   have hne:∀ j:Nat,j<p->(q0e ds j).f0≠cell:=fun j hj=>by have:=h1 j hj;omega
   by_cases hit:p<ds.length/\(q0e ds (p:Int)).f0=cell
   ·obtain⟨hpl,hc⟩:=hit
    have hpi:(p:Int)<(ds.length:Int):=by omega
    have hfb:=(hok (p:Int) Om Om).1.2
    have hw:wrap64 ((q0e ds (p:Int)).f1+n)=(q0e ds (p:Int)).f1+n:=Yw
    refine⟨ds.take p++(⟨cell,(q0e ds (p:Int)).f1+n⟩:S59) :: ds.drop (p+1),(q0e ds (p:Int)).f1,by simp;omega,by simp;omega,by rw[Zgc ds p hpl,Z1,Zf];show Zf (ds.take p)+((q0e ds (p:Int)).f1+n+Zf (ds.drop (p+1)))=_;omega,fun k hk=>?_,fun k hk=>?_,fun k hk=>?_⟩
    ·obtain⟨k,rfl⟩:∃ j,k=j+1+p:=⟨k-1-p,by omega⟩
     unfold q1x.f
     rw[show ((0:Int))=((0:Nat):Int) from rfl,ZEa ds hds cell p hp hne (k+1) p 0 Om,q1x.l0,if_pos hpi,if_pos h0,if_pos hc]
    ·obtain⟨k,rfl⟩:∃ j,k=j+2 * (ds.length-(p+1))+1+1+1+2 * p:=⟨k-(2 * (ds.length-(p+1))+3+2 * p),by omega⟩
     unfold q1q.f
     have hq:(wrap64 ((q0e ds (p:Int)).f1+n)==0)=false:=beq_eq_false_iff_ne.mpr (by rw[hw];omega)
     have hge:(q0e ds (p:Int)).f0>=cell:=by omega
     have ht:(ds.take p).length<8796093022208:=by rw[List.length_take];omega
     have e0:=Z2a ds hds cell (wrap64 ((q0e ds (p:Int)).f1+n)) p hp h1 (k+2 * (ds.length-(p+1))+1+1+1) p 0 Om
     rw[List.take_zero] at e0
     rw[hq,show ((0:Int))=((0:Nat):Int) from rfl,e0,q1q.l0,if_pos hpi,if_neg (by decide),if_pos h0,q1q.j1,decide_eq_true hge,if_pos rfl,if_pos ht,Ob,if_pos h0,if_pos hpi,if_pos hc]
     rw[show wrap64 ((p:Int)+1)=((p+1:Nat):Int) from by clear hw hq;unfold wrap64;omega,Zqa ds hds cell _ k (ds.length-(p+1)) (p+1) _ Om (fun j a b=>?_) (by simp;omega),hw]
     ·simp only[List.append_assoc,List.cons_append,List.nil_append]
     ·have:=asc p (j-p-1) Om
      rw[show p+(j-p-1)+1=j by omega] at this
      omega
    ·have hce:((q0e ds (p:Int)).f0==cell)=true:=beq_iff_eq.mpr hc
     rw[show k+3=k+2+1 by omega,q1e.j2,if_pos hpi,if_pos h0,hce,q1e.j3,if_pos rfl,if_pos h0,if_pos hpi,hw,Int.toNat_natCast,hc,List.set_eq_take_append_cons_drop,if_pos hpl]
   ·have hgt:∀ j:Nat,p<=j->j<ds.length->(q0e ds j).f0≠cell:=fun j a b=>by
     have q1:=h2 Om
     have q2:(q0e ds (p:Int)).f0≠cell:=fun e=>hit ⟨by omega,e⟩
     by_cases q:j=p
     ·rw[q];exact q2
     ·have:=asc p (j-p-1) Om
      rw[show p+(j-p-1)+1=j by omega] at this
      omega
    have hw:wrap64 (0+n)=n:=Yw
    refine⟨ds.take p++(⟨cell,n⟩:S59) :: ds.drop p,0,by simp;omega,by simp;omega,by rw[ZPb ds p,Z1,Zf];show Zf (ds.take p)+(n+Zf (ds.drop p))=_;omega,fun k hk=>?_,fun k hk=>?_,fun k hk=>?_⟩
    ·obtain⟨k,rfl⟩:∃ j,k=j+1+ds.length:=⟨k-1-ds.length,by omega⟩
     unfold q1x.f
     have c:¬ ((ds.length:Nat):Int)<(ds.length:Int):=by omega
     rw[show ((0:Int))=((0:Nat):Int) from rfl,ZEa ds hds cell ds.length Om (fun j hj=>by
      by_cases q:j<p
      ·exact hne j q
      ·exact hgt j Om hj) (k+1) ds.length 0 Om,q1x.l0,if_neg c];rfl
    ·obtain⟨k,rfl⟩:∃ j,k=j+2 * (ds.length-(p+1))+1+1+1+2 * p:=⟨k-(2 * (ds.length-(p+1))+3+2 * p),by omega⟩
     unfold q1q.f
     have hq:(wrap64 (0+n)==0)=false:=beq_eq_false_iff_ne.mpr (by rw[hw];omega)
     have ht:(ds.take p).length<8796093022208:=by rw[List.length_take];omega
     obtain⟨w0,hw0⟩:∃ w,w=wrap64 (0+n):=⟨_,rfl⟩
     rw[<-hw0] at hq ⊢
     have e0:=Z2a ds hds cell w0 p hp h1 (k+2 * (ds.length-(p+1))+1+1+1) p 0 Om
     rw[List.take_zero] at e0
     rw[hq,show ((0:Int))=((0:Nat):Int) from rfl,e0]
     by_cases hpl:p<ds.length
     ·have hpi:(p:Int)<(ds.length:Int):=by omega
      have hge:(q0e ds (p:Int)).f0>=cell:=by have:=h2 hpl;omega
      have ht2:(ds.take p++[(⟨cell,w0⟩:S59)]).length<8796093022208:=by simp;omega
      have hw':w0=n:=hw0.trans hw
      rw[q1q.l0,if_pos hpi,if_neg (by decide),if_pos h0,q1q.j1,decide_eq_true hge,if_pos rfl,if_pos ht,Ob,if_pos h0,if_pos hpi,if_neg (hgt p Om hpl),if_pos ht2,show wrap64 ((p:Int)+1)=((p+1:Nat):Int) from by clear hw hw' hw0 hq;unfold wrap64;omega]
      rw[Zqa ds hds cell _ k (ds.length-(p+1)) (p+1) _ Om (fun j a b=>hgt j Om b) (by simp;omega),ZN ds p hpl]
      simp only[hw',List.append_assoc,List.cons_append,List.nil_append]
     ·obtain rfl:p=ds.length:=by omega
      have c:¬ ((ds.length:Nat):Int)<(ds.length:Int):=by omega
      have hw':w0=n:=hw0.trans hw
      rw[q1q.l0,if_neg c,if_neg (by decide),if_pos ht,hw',List.drop_eq_nil_of_le Om]
    ·have hj3:q1e.j2 (k+3) ds cell n ds (p:Int) W H xs=q1e.j3 (k+2) ds cell n ds (p:Int) false W H xs:=by
      rw[show k+3=k+2+1 by omega,q1e.j2]
      by_cases hpl:p<ds.length
      ·have hce:((q0e ds (p:Int)).f0==cell)=false:=beq_eq_false_iff_ne.mpr (hgt p Om hpl)
       rw[if_pos (show (p:Int)<(ds.length:Int) by omega),if_pos h0,hce]
      ·rw[if_neg (show ¬ (p:Int)<(ds.length:Int) by omega)]
     rw[hj3,q1e.j3,if_neg (by decide),if_pos (show ds.length<8796093022208 by omega),Ob,if_pos h0,if_pos (show (p:Int)<((ds++[(⟨0,0⟩:S59)]).length:Int) by simp;omega),Int.toNat_natCast,Zjc ds p hp]
  obtain⟨d1,hd1t,hd1⟩:=Zt E D Om D.length 0 Om Om
  refine⟨if d1=true then D else ds,d1,fun e=>by subst e;exact⟨(hd1t rfl).1,hd1⟩,by split <;> omega,fun e=>by subst e;simpa using hsum,fun k hk=>⟨?_,?_⟩⟩
  ·obtain⟨k,rfl⟩:∃ j,k=j+3+p+1+1:=⟨k-5-p,by omega⟩
   have q1:q0l.f (k+3+p+1+1) W H xs ds=some true:=(hvk _ Om).1
   have q2:q0l.f k W H xs D=some d1:=(hd1 _ Om).1
   unfold q1e.f
   rw[Zb,Ob,decide_eq_true gn,if_pos rfl,q1,Ob,q1e.j0,if_neg (by decide),ZT ds Om,Ob]
   rw[show ((0:Int))=((0:Nat):Int) from rfl,ZFb ds hds cell n W H xs p hp h1 h2 (k+3) p 0 Om,hI k Om,q1e.j4,q2,Ob]
   cases d1
   ·rw[if_neg (by decide),ZT ds Om];rfl
   ·rfl
  ·obtain⟨k,rfl⟩:∃ j,k=j+1:=⟨k-1,by omega⟩
   have q1:q0m.f (k+1) W H xs ds=some true:=(hvk _ Om).2
   have q2:q0m.f k W H xs D=some d1:=(hd1 _ Om).2
   unfold q3v.f
   rw[Ob,if_pos hl0,Ob,q1,Ob,if_pos rfl,Zg,Ob,decide_eq_true gn,q3v.j0,if_neg (by decide),hf k Om,Ob,hS k Om,Ob,q2,Ob]
   cases d1 <;> rfl
 ·refine⟨ds,false,fun e=>(by cases e),by omega,fun e=>(by cases e),fun k hk=>⟨?_,?_⟩⟩
  ·obtain⟨k,rfl⟩:∃ j,k=j+1:=⟨k-1,by omega⟩
   have q1:q0l.f (k+1) W H xs ds=some v:=(hvk _ Om).1
   unfold q1e.f
   rw[Zb,Ob,q1,Ob]
   by_cases gn:1<=n/\n<=10000
   ·have gv:v=false:=by cases v;rfl;exact absurd ⟨gn,rfl⟩ g
    rw[decide_eq_true gn,if_pos rfl,gv,q1e.j0,Bool.not_false,if_pos rfl,ZT ds Om];rfl
   ·rw[decide_eq_false gn,if_neg (by decide),q1e.j0,if_pos rfl,ZT ds Om];rfl
  ·obtain⟨k,rfl⟩:∃ j,k=j+1:=⟨k-1,by omega⟩
   have q1:q0m.f (k+1) W H xs ds=some v:=(hvk _ Om).2
   unfold q3v.f
   rw[Ob,if_pos hl0,Ob,q1,Ob,Zg,Ob]
   by_cases gn:1<=n/\n<=10000
   ·have gv:v=false:=by cases v;rfl;exact absurd ⟨gn,rfl⟩ g
    rw[gv,if_neg (by decide),q3v.j0,if_pos rfl,List.nil_append]
   ·cases v
    ·rw[if_neg (by decide),q3v.j0,if_pos rfl,List.nil_append]
    ·rw[if_pos rfl,decide_eq_false gn,q3v.j0,Bool.not_false,if_pos rfl,List.nil_append]
theorem Z4a {W H:Int} {xs:List Int} {K:Nat} {lb:Bool} {oc:Int->Bool} (E:LandEv W H xs K lb oc) (ds:List S59) (hds:ds.length<=1048576) (cell n:Int) :
  ∃ d o,(o=true->d.length<=20/\∀ k,K+d.length+1<k->q0l.f k W H xs d=some true/\q0m.f k W H xs d=some true)/\d.length<=ds.length+1/\∀ k,K+4 * ds.length+110<k->q1e.f k W H xs ds cell n=some (d,o)/\q3v.f k W H xs ds cell n=some (d,o):=by
 obtain⟨d,o,h1,h2,_,h4⟩:=Zhb E ds hds cell n
 exact⟨d,o,h1,h2,h4⟩
theorem Z6 {W H:Int} {xs:List Int} {K:Nat} {lb:Bool} {oc:Int->Bool} (A:LandAll W H xs K lb oc) (base M Wi:Int) (ds:List S59) (hds:ds.length<=1048576) (a b:Int) (l:List S95) (hl:l.length<=1048576) (h:List Bool) (hh:h.length<=1048576) (n:Int) :
  ∃ c,∀ k,K+4 * ds.length+2 * l.length+3000200<k->q0x.f k W H xs base M Wi ds a b l h n=some c/\q2d.f k W H xs base M Wi ds a b l h n=some c:=by
 obtain⟨c,hc⟩:=Zw A base M Wi ds hds a b l hl h
 obtain⟨c1,c2⟩:=Zr a b l h hl hh
 cases c with
 |false =>
  refine⟨false,fun k hk=>?_⟩
  obtain⟨k,rfl⟩:∃ j,k=j+1:=⟨k-1,by omega⟩
  unfold q0x.f q2d.f
  rw[(hc (k+1) Om).1,(hc (k+1) Om).2]
  simp only[Ob,Bool.false_eq_true,if_false,q0x.j0,q2d.j0,if_true,and_self]
 |true =>
  by_cases g:1<=n/\n<=b
  ·obtain⟨d,o,hdo,hdl,hlay⟩:=Z4a A.toLandEv ds hds a n
   cases o with
   |false =>
    refine⟨false,fun k hk=>?_⟩
    obtain⟨k,rfl⟩:∃ j,k=j+1:=⟨k-1,by omega⟩
    unfold q0x.f q2d.f
    rw[(hc (k+1) Om).1,(hc (k+1) Om).2]
    simp only[Ob,Zb,Zg,decide_eq_true g,if_true,q0x.j0,q2d.j0,Bool.not_true,Bool.false_eq_true,if_false,(hlay k Om).1,(hlay k Om).2,c2,and_self]
   |true =>
    obtain⟨e,he⟩:=Zw A base M Wi d (by have:=(hdo rfl).1;omega) a (wrap64 (b-n)) l hl h
    have hd2:=(hdo rfl).1
    refine⟨e,fun k hk=>?_⟩
    obtain⟨k,rfl⟩:∃ j,k=j+1:=⟨k-1,by omega⟩
    unfold q0x.f q2d.f
    rw[(hc (k+1) Om).1,(hc (k+1) Om).2]
    have q1:=(he k Om).1
    have q2:=(he k Om).2
    simp only[Ob,Zb,Zg,decide_eq_true g,if_true,q0x.j0,q2d.j0,Bool.not_true,Bool.false_eq_true,if_false,(hlay k Om).1,(hlay k Om).2,c2,q2h.f,c1,q1,q2,and_self]
  ·refine⟨false,fun k hk=>?_⟩
   obtain⟨k,rfl⟩:∃ j,k=j+1:=⟨k-1,by omega⟩
   unfold q0x.f q2d.f
   rw[(hc (k+1) Om).1,(hc (k+1) Om).2]
   simp only[Ob,Zb,Zg,decide_eq_false g,if_true,q0x.j0,q2d.j0,Bool.not_false,and_self]
structure Home (W H:Int) (xs:List Int) (base a:Int) (ws:List Int) (n:Int):Prop where
 way:∀ k,xs.length+1000<k->q1v.f k W H xs a base=some ws
 days:∀ k,xs.length+1000<k->q5e.f k W H xs a base=some n
 len:ws.length<=64
 no:ws=[]->n<0
 yes:ws≠[]->n=(ws.length:Int)-1/\(a=base↔ws.length=1)
 op:ws≠[]->∀ k,xs.length+1000<k->q1r.f k W H xs a=some true
theorem Zya {W H:Int} {xs:List Int} (L:LandOk W H xs) (a b:Int):Home W H xs b a (Zs W xs a b) (if opn xs a=true/\opn xs b=true then rd (Zc W xs a) b else -1):=by
 refine⟨fun k hk=>(ZYa L a b k Om).1,fun k hk=>(Znb L a b k Om).1,ZOa L,?_,?_,?_⟩
 ·intro h
  unfold Zs at h
  by_cases c:(opn xs a=true/\opn xs b=true)/\0<=rd (Zc W xs a) b
  ·rw[if_pos c] at h
   have:=ZF W xs (Zc W xs b) (rd (Zc W xs b) a).toNat a
   rw[h] at this
   cases this
  ·by_cases c2:opn xs a=true/\opn xs b=true
   ·rw[if_pos c2]
    have:¬ 0<=rd (Zc W xs a) b:=fun h2=>c ⟨c2,h2⟩
    omega
   ·rw[if_neg c2];omega
 ·intro h
  unfold Zs at h ⊢
  by_cases c:(opn xs a=true/\opn xs b=true)/\0<=rd (Zc W xs a) b
  ·have hr:=ZH L c.1.1 c.1.2 c.2
   rw[if_pos c,ZF,if_pos c.1,Zpa L c.1.1 c.1.2 c.2]
   refine⟨by omega,fun e=>?_,fun e=>?_⟩
   ·rw[e,(Zl L (Za c.1.2)).src0];rfl
   ·exact(Zl L (Za c.1.2)).zero a (Za c.1.1).1 (Za c.1.1).2 Om
  ·rw[if_neg c] at h
   exact absurd rfl h
 ·intro h k hk
  unfold Zs at h
  by_cases c:(opn xs a=true/\opn xs b=true)/\0<=rd (Zc W xs a) b
  ·rw[(Zk L a k Om).1,c.1.1]
  ·rw[if_neg c] at h
   exact absurd rfl h
theorem Zac (W H:Int) (xs:List Int) (hx:xs.length<=1048576) (base a:Int):∃ ws n,Home W H xs base a ws n:=by
 rcases ZD W H xs hx with L|no
 ·exact⟨_,_,Zya L a base⟩
 ·refine⟨[],-1,fun k hk=>(Z4 a base k (no k Om)).1,fun k hk=>?_,by simp,fun _=>by omega,fun h=>absurd rfl h,fun h=>absurd rfl h⟩
  have o:=(ZU a k (no k Om)).1
  unfold q5e.f
  rw[o]
  simp only[Ob,Bool.false_eq_true,if_false]
theorem Zza {W H:Int} {xs:List Int} {base a:Int} {ws ws2:List Int} {n n2:Int} (h1:Home W H xs base a ws n) (h2:Home W H xs base a ws2 n2):ws=ws2/\n=n2:=by
 have e1:=h1.way (xs.length+1001) Om
 have e2:=h1.days (xs.length+1001) Om
 rw[h2.way (xs.length+1001) Om] at e1
 rw[h2.days (xs.length+1001) Om] at e2
 exact⟨(Option.some.inj e1).symm,(Option.some.inj e2).symm⟩
theorem ZHb {W H:Int} {xs:List Int} (hx:xs.length<=1048576) {base a:Int} {ws:List Int} {n:Int} (h:Home W H xs base a ws n) (hne:ws≠[]) (ha:a≠base) :
  1<ws.length/\∃ ws',Home W H xs base (rd ws 1) ws' (n-1)/\ws=a :: ws'/\ws'≠[]:=by
 rcases ZD W H xs hx with L|no
 ·obtain⟨e1,e2⟩:=Zza h (Zya L a base)
  have hw:Zs W xs a base≠[]:=by rw[<-e1];exact hne
  by_cases c:(opn xs a=true/\opn xs base=true)/\0<=rd (Zc W xs a) base
  ·have hr:=ZH L c.1.1 c.1.2 c.2
   have hs:=Zpa L c.1.1 c.1.2 c.2
   have hne0:rd (Zc W xs base) a≠0:=fun e=>ha ((Zl L (Za c.1.2)).zero a (Za c.1.1).1 (Za c.1.1).2 e)
   obtain⟨m,hm⟩:∃ m:Nat,rd (Zc W xs base) a=(m:Int)+1:=⟨(rd (Zc W xs base) a-1).toNat,by omega⟩
   obtain⟨x,c1,c2,c3,c4,c5⟩:=Zha L c.1.2 c.1.1 m hm
   have hx2:=ZH L c.1.2 c4 Om
   have hs2:=Zpa L c4 c.1.2 hx2
   have ew:ws=a :: ZP W xs (Zc W xs base) m x:=by
    rw[e1];unfold Zs
    rw[if_pos c,show (rd (Zc W xs base) a).toNat=m+1 by omega,ZP,c2]
   have er:rd ws 1=x:=by
    rw[ew]
    cases m with
    |zero=>rfl
    |succ m=>rfl
   have el:ws.length=m+2:=by rw[ew,List.length_cons,ZF]
   have h2:=Zya L x base
   have el2:(Zs W xs x base).length=m+1:=by
    unfold Zs
    rw[if_pos ⟨⟨c4,c.1.2⟩,hx2⟩,ZF,c5]
    omega
   refine⟨by omega,Zs W xs x base,?_,by rw[ew];unfold Zs;rw[if_pos ⟨⟨c4,c.1.2⟩,hx2⟩,show (rd (Zc W xs base) x).toNat=m by omega],fun e=>by rw[e] at el2;cases el2⟩
   rw[er]
   rw[if_pos ⟨c4,c.1.2⟩,hs2,c5] at h2
   rw[if_pos c.1,hs,hm] at e2
   rw[show n-1=(m:Int) by omega]
   exact h2
  ·unfold Zs at hw
   rw[if_neg c] at hw
   exact absurd rfl hw
 ·have e1:=h.way (xs.length+1001) Om
  rw[(Z4 a base _ (no _ Om)).1] at e1
  exact absurd (Option.some.inj e1).symm hne
def Zi (c:Int):List S59->Int
 |[]=>0
 |d :: r=>if d.f0=c then d.f1 else Zi c r
def Ze (c n:Int):List S59->List S59
 |[]=>[]
 |d :: r=>if d.f0=c then(if d.f1-n>0 then⟨d.f0,d.f1-n⟩ :: Ze c n r else Ze c n r) else(if d.f1>0 then d :: Ze c n r else Ze c n r)
def Fd (ds:List S59):Prop:=∀ d∈ds,1<=d.f1/\d.f1<=10000
theorem ZCb (ds:List S59) (d:S59) (h:d∈ds):∃ j:Nat,j<ds.length/\q0e ds (j:Int)=d:=by
 obtain⟨j,hj,e⟩:=List.mem_iff_getElem.mp h
 refine⟨j,hj,?_⟩
 unfold q0e
 rw[Int.toNat_natCast,List.getD_eq_getElem?_getD,List.getElem?_eq_getElem hj]
 exact e
theorem ZW (ds:List S59) (j:Nat) (hj:j<ds.length):q0e ds (j:Int)=ds[j]:=by
 unfold q0e
 rw[Int.toNat_natCast,List.getD_eq_getElem?_getD,List.getElem?_eq_getElem hj];rfl
theorem Z4b {oc:Int->Bool} {ds:List S59} (h:∀ j,0<=j->j<(ds.length:Int)->okD oc ds j):Fd ds:=by
 intro d hd
 obtain⟨j,hj,e⟩:=ZCb ds d hd
 have:=(h (j:Int) Om Om).1.2
 rw[e] at this
 exact this
theorem Zmc {oc:Int->Bool} {ds:List S59} (h:∀ j,0<=j->j<(ds.length:Int)->okD oc ds j):ds.Pairwise (fun x y=>x.f0<y.f0):=by
 rw[List.pairwise_iff_getElem]
 intro i j hi hj hij
 have:=ZX h i (j-i-1) Om
 rw[show i+(j-i-1)+1=j by omega,ZW ds i hi,ZW ds j hj] at this
 exact this
theorem ZGa (ds:List S59) (hds:ds.length<=1048576) (c:Int):∀ (e i:Nat),ds.length=i+e->∀ k,e<k->q2f.l0 k c ds (ds.length:Int) (i:Int)=some (Zi c (ds.drop i))
 |0,i,h,k,hk=>by
  obtain⟨k,rfl⟩:=Yk k
  rw[q2f.l0,if_neg Om,List.drop_eq_nil_of_le Om]
  rfl
 |e+1,i,h,k,hk=>by
  obtain⟨k,rfl⟩:=Yk k
  have hlt:(i:Int)<(ds.length:Int):=by omega
  have h0:(0:Int)<=(i:Int):=by omega
  have hw:wrap64 ((i:Int)+1)=((i+1:Nat):Int):=Yw
  rw[q2f.l0,if_pos hlt,if_pos h0,if_pos hlt,ZN ds i Om,Zi]
  by_cases q:(q0e ds (i:Int)).f0=c
  ·rw[if_pos q,if_pos q]
  ·rw[if_neg q,if_neg q,hw]
   exact ZGa ds hds c e (i+1) Om k Om
theorem Zna (ds:List S59) (hds:ds.length<=1048576) (c:Int) (k:Nat) (hk:ds.length<k):q2f.f k ds c=some (Zi c ds):=by
 have:=ZGa ds hds c ds.length 0 Om k hk
 exact this
theorem ZQa {ds:List S59} (h:Fd ds) (c:Int):0<=Zi c ds/\Zi c ds<=10000:=by
 induction ds with
 |nil=>exact⟨by simp[Zi],by simp[Zi]⟩
 |cons d r ih =>
  rw[Zi]
  have h1:=h d (by simp)
  by_cases q:d.f0=c
  ·rw[if_pos q];omega
  ·rw[if_neg q]
   exact ih (fun x hx=>h x (by simp[hx]))
theorem Zdc {ds:List S59} (h:Fd ds) (c:Int) {n:Int} (hn:0<=n):Fd (Ze c n ds)/\(Ze c n ds).length<=ds.length:=by
 induction ds with
 |nil=>exact⟨h,by simp[Ze]⟩
 |cons d r ih =>
  have h1:=h d (by simp)
  obtain⟨i1,i2⟩:=ih (fun x hx=>h x (by simp[hx]))
  rw[Ze]
  by_cases q:d.f0=c
  ·rw[if_pos q]
   by_cases z:d.f1-n>0
   ·rw[if_pos z]
    refine⟨fun x hx=>?_,by simp[i2]⟩
    rcases List.mem_cons.mp hx with e|e
    ·subst e;exact⟨by show (1:Int)<=d.f1-n;omega,by show d.f1-n<=(10000:Int);omega⟩
    ·exact i1 x e
   ·rw[if_neg z];exact⟨i1,by rw[List.length_cons];omega⟩
  ·rw[if_neg q,if_pos Om]
   refine⟨fun x hx=>?_,by simp[i2]⟩
   rcases List.mem_cons.mp hx with e|e
   ·subst e;exact h1
   ·exact i1 x e
theorem ZLb {ds:List S59} (h:Fd ds) (c n:Int) (hc:∀ d∈ds,d.f0≠c):Zf (Ze c n ds)=Zf ds:=by
 induction ds with
 |nil=>rfl
 |cons d r ih =>
  have h1:=h d (by simp)
  rw[Ze,if_neg (hc d (by simp)),if_pos Om,Zf,Zf,ih (fun x hx=>h x (by simp[hx])) (fun x hx=>hc x (by simp[hx]))]
theorem ZMb {ds:List S59} (h:Fd ds) (ha:ds.Pairwise (fun x y=>x.f0<y.f0)) (c:Int) {n:Int} (hn:1<=n) (hn2:n<=Zi c ds):Zf (Ze c n ds)=Zf ds-n:=by
 induction ds with
 |nil=>simp[Zi] at hn2;omega
 |cons d r ih =>
  have h1:=h d (by simp)
  obtain⟨a1,a2⟩:=List.pairwise_cons.mp ha
  rw[Zi] at hn2
  rw[Ze,Zf]
  by_cases q:d.f0=c
  ·rw[if_pos q] at hn2
   have hs:=ZLb (fun x hx=>h x (by simp[hx])) c n (fun x hx e=>by have:=a1 x hx;omega) (ds:=r)
   rw[if_pos q]
   by_cases z:d.f1-n>0
   ·rw[if_pos z,Zf,hs];show d.f1-n+Zf r=_;omega
   ·rw[if_neg z,hs];omega
  ·rw[if_neg q] at hn2
   rw[if_neg q,if_pos Om,Zf,ih (fun x hx=>h x (by simp[hx])) a2 hn2];omega
theorem Zta (ds:List S59) (hds:ds.length<=1000) (h:Fd ds):∀ (e i:Nat) (acc:Int),ds.length=i+e->0<=acc->acc<=10000 * (i:Int)->∀ k,e<k->q2b.l0 k acc ds (ds.length:Int) (i:Int)=some (acc+Zf (ds.drop i))
 |0,i,acc,hi,h1,h2,k,hk=>by
  obtain⟨k,rfl⟩:=Yk k
  rw[q2b.l0,if_neg Om,List.drop_eq_nil_of_le Om,Zf];simp
 |e+1,i,acc,hi,h1,h2,k,hk=>by
  obtain⟨k,rfl⟩:=Yk k
  have hlt:(i:Int)<(ds.length:Int):=by omega
  have h0:(0:Int)<=(i:Int):=by omega
  have hw:wrap64 ((i:Int)+1)=((i+1:Nat):Int):=Yw
  have hf:=h (ds[i]' Om) (List.getElem_mem Om)
  rw[<-ZW ds i Om] at hf
  obtain⟨v,hv⟩:∃ v,v=(q0e ds (i:Int)).f1:=⟨_,rfl⟩
  have hm:mn (mx (q0e ds (i:Int)).f1 0) 10000=v:=by rw[<-hv] at hf ⊢;unfold mn mx;split <;> split <;> omega
  have hw2:wrap64 (acc+v)=acc+v:=by rw[<-hv] at hf;unfold wrap64;omega
  rw[q2b.l0,if_pos hlt,if_pos h0,if_pos hlt,hm,hw,hw2,ZN ds i Om,Zf,<-hv,Zta ds hds h e (i+1) (acc+v) Om (by rw[<-hv] at hf;omega) (by rw[<-hv] at hf;omega) k Om]
  congr 1;omega
theorem ZKb (ds:List S59) (hds:ds.length<=1000) (h:Fd ds) (k:Nat) (hk:ds.length<k):q2b.f k ds=some (Zf ds):=by
 have:=Zta ds hds h ds.length 0 0 Om Om Om k hk
 rw[List.drop_zero,Int.zero_add] at this
 exact this
theorem ZR (ds:List S59) (hds:ds.length<=1000) (h:Fd ds) (c n:Int) (hn:0<=n/\n<=10000):∀ (e i:Nat) (out:List S59),ds.length=i+e->out.length<=i->∀ k,e<k->q2u.l0 k c n out ds (ds.length:Int) (i:Int)=some (out++Ze c n (ds.drop i),true)
 |0,i,out,hi,h1,k,hk=>by
  obtain⟨k,rfl⟩:=Yk k
  rw[q2u.l0,if_neg Om,List.drop_eq_nil_of_le Om,Ze,List.append_nil]
 |e+1,i,out,hi,h1,k,hk=>by
  obtain⟨k,rfl⟩:=Yk k
  have hlt:(i:Int)<(ds.length:Int):=by omega
  have h0:(0:Int)<=(i:Int):=by omega
  have hq:out.length<8796093022208:=by omega
  have hw:wrap64 ((i:Int)+1)=((i+1:Nat):Int):=Yw
  have hf:=h (ds[i]' Om) (List.getElem_mem Om)
  rw[<-ZW ds i Om] at hf
  obtain⟨d,hd⟩:∃ d,d=q0e ds (i:Int):=⟨_,rfl⟩
  rw[<-hd] at hf
  have hw2:wrap64 (d.f1-n)=d.f1-n:=Yw
  rw[q2u.l0,if_pos hlt,if_pos h0,if_pos hlt,ZN ds i Om,<-hd,Ze,hw,hw2]
  by_cases q:d.f0=c
  ·rw[if_pos q,if_pos q]
   by_cases z:d.f1-n>0
   ·rw[if_pos z,if_pos z,if_pos hq,ZR ds hds h c n hn e (i+1) _ Om (by rw[List.length_append,List.length_singleton];omega) k Om,List.append_assoc];rfl
   ·rw[if_neg z,if_neg z,ZR ds hds h c n hn e (i+1) _ Om Om k Om]
  ·rw[if_neg q,if_neg q,if_pos Om,if_pos hq,if_pos Om,ZR ds hds h c n hn e (i+1) _ Om (by rw[List.length_append,List.length_singleton];omega) k Om,List.append_assoc];rfl
theorem Zec (n:Nat) (h:n<=1073741823):Go.IntKind.wrap .i64 (n:Int)=(n:Int):=by
 have e1:(Go.IntKind.i64).bits=64:=rfl
 have e2:(Go.IntKind.i64).signed=true:=rfl
 unfold Go.IntKind.wrap
 simp only[e1,e2,Bool.true_and,decide_eq_true_eq]
 have e3:(2:Int) ^ 64=18446744073709551616:=by decide
 have e4:(2:Int) ^ (64-1)=9223372036854775808:=by decide
 rw[e3,e4,if_neg Om];omega
theorem ZBb (x:Int):0<=Go.bits .and .i64 x 255/\Go.bits .and .i64 x 255<=255:=by
 have h:(BitVec.ofInt 64 x &&& BitVec.ofInt 64 255).toNat<=255:=by
  rw[BitVec.toNat_and];exact Nat.le_trans Nat.and_le_right (by decide)
 show 0<=Go.IntKind.wrap .i64 ((BitVec.ofInt 64 x &&& BitVec.ofInt 64 255).toNat:Int)/\Go.IntKind.wrap .i64 ((BitVec.ofInt 64 x &&& BitVec.ofInt 64 255).toNat:Int)<=255
 generalize (BitVec.ofInt 64 x &&& BitVec.ofInt 64 255).toNat=n at h ⊢
 rw[Zec n Om];omega
theorem Zia (d:List Int) (p s:Int) (hd:d.length<=1048576) (hp:0<=p) (hp2:p<=d.length):∃ v p' s',q4s.f d p s=some (v,p',s')/\(0<=v/\v<=255)/\0<=p'/\p'<=d.length:=by
 unfold q4s.f
 by_cases h:p<(d.length:Int)
 ·rw[if_pos h,if_pos hp]
  exact⟨_,_,_,rfl,ZBb _,by unfold wrap64;omega,by unfold wrap64;omega⟩
 ·rw[if_neg h]
  exact⟨_,_,_,rfl,ZBb _,hp,hp2⟩
theorem Zua (x n:Int) (hx:0<=x) (hn:0<n):0<=Int.tmod x n/\Int.tmod x n<n:=by
 rw[Int.tmod_eq_emod_of_nonneg hx]
 exact⟨Int.emod_nonneg _ Om,Int.emod_lt_of_pos _ hn⟩
theorem Zj (d:List Int) (p s n:Int) (hd:d.length<=1048576) (hp:0<=p) (hp2:p<=d.length):∃ v p' s',q0w.f d p s n=some (v,p',s')/\(0<=v/\(0<n->v<n)/\(n<=0->v=0))/\0<=p'/\p'<=d.length:=by
 unfold q0w.f
 by_cases h:n<=0
 ·rw[if_pos h];exact⟨0,p,s,rfl,⟨by omega,by omega,by omega⟩,hp,hp2⟩
 ·have hz:¬ n=0:=by omega
  rw[if_neg h]
  by_cases h2:n<=256
  ·rw[if_pos h2]
   obtain⟨v,p',s',hb,hv,hp',hp2'⟩:=Zia d p s hd hp hp2
   rw[hb];simp only[Ob,if_neg hz]
   have:=Zua v n hv.1 Om
   exact⟨_,_,_,rfl,⟨this.1,fun _=>this.2,by omega⟩,hp',hp2'⟩
  ·rw[if_neg h2]
   obtain⟨v,p',s',hb,hv,hp',hp2'⟩:=Zia d p s hd hp hp2
   rw[hb];simp only[Ob]
   obtain⟨v2,p2,s2,hb2,hv2,hq,hq2⟩:=Zia d p' s' hd hp' hp2'
   rw[hb2];simp only[Ob]
   obtain⟨v3,p3,s3,hb3,hv3,hr,hr2⟩:=Zia d p2 s2 hd hq hq2
   rw[hb3];simp only[Ob,if_neg hz]
   have:=Zua (wrap64 (wrap64 (wrap64 (v * 65536)+wrap64 (v2 * 256))+v3)) n (by unfold wrap64;omega) Om
   exact⟨_,_,_,rfl,⟨this.1,fun _=>this.2,by omega⟩,hr,hr2⟩
theorem Zba (d:List Int) (p s:Int) (l:List Int) (hl:0<l.length) (hd:d.length<=1048576) (hp:0<=p) (hp2:p<=d.length):∃ v p' s',q3u.f d p s l=some (v,p',s')/\v∈l/\0<=p'/\p'<=d.length:=by
 unfold q3u.f
 obtain⟨v,p',s',hb,hv,hp',hp2'⟩:=Zj d p s (l.length:Int) hd hp hp2
 have h2:=hv.2.1 Om
 rw[hb];simp only[Ob,if_pos hv.1,if_pos h2]
 refine⟨_,_,_,rfl,?_,hp',hp2'⟩
 have h3:v.toNat<l.length:=by omega
 unfold rd
 simp[List.getD_eq_getElem?_getD,List.getElem?_eq_getElem h3]
theorem ZVb (d:List Int) (hd:d.length<=1048576):∀ (e:Nat) (s i:Int),0<=i->(d.length:Int)-i<=e->∃ s',∀ k,e<k->q4e.l0 k d s i=some (d,0,s'):=by
 intro e
 induction e with
 |zero =>
  intro s i h0 he
  refine⟨s,fun k hk=>?_⟩
  obtain⟨k,rfl⟩:=Yk k
  simp only[q4e.l0]
  rw[if_neg Om]
 |succ e ih =>
  intro s i h0 he
  by_cases h:i<(d.length:Int)/\i<4000
  ·obtain⟨s',hs⟩:=ih (Go.bits .and .i64 (wrap64 ((wrap64 ((wrap64 (s * 137))+(wrap64 (rd d i))))+11)) 1073741823) (i+1) Om Om
   refine⟨s',fun k hk=>?_⟩
   obtain⟨k,rfl⟩:=Yk k
   simp only[q4e.l0,if_pos h.1,if_pos h.2,if_pos h0,Zp (n:=d.length) h0 h.1 hd]
   exact hs k Om
  ·refine⟨s,fun k hk=>?_⟩
   obtain⟨k,rfl⟩:=Yk k
   simp only[q4e.l0]
   by_cases h1:i<(d.length:Int)
   ·rw[if_pos h1,if_neg (fun h2=>h ⟨h1,h2⟩)]
   ·rw[if_neg h1]
theorem Zvb (d:List Int) (hd:d.length<=1048576):∃ s,∀ k,d.length<k->q4e.f k d=some (d,0,s) :=
 ZVb d hd d.length _ 0 Om Om
theorem ZBa (d:List Int) (p s n:Int) (hd:d.length<=1048576) (hp:0<=p) (hp2:p<=d.length):∃ v p' s',q5c.f d p s n=some (v,p',s')/\0<=p'/\p'<=d.length:=by
 obtain⟨a,p',s',h,_,h1,h2⟩:=Zj d p s n hd hp hp2
 exact⟨a==0,p',s',by unfold q5c.f;rw[h];rfl,h1,h2⟩
theorem ZSa (d:List Int) (hd:d.length<=1048576):∀ (e:Nat) (l:List S95) (i p s:Int),1<=i->5-i<=e->(l.length:Int)+1=i->i<=6->0<=p->p<=d.length ->
  ∃ q p' s',1<=q.length/\q.length<=6/\0<=p'/\p'<=(d.length:Int)/\∀ k,e<k->q3p.l0 k l i d p s=some (q,p',s'):=by
 intro e
 induction e with
 |zero =>
  intro l i p s h1 he hl h7 hp hp2
  obtain⟨a,p1,s1,e1,⟨ha0,ha1,_⟩,hp1,hp1'⟩:=Zj d p s 4 hd hp hp2
  have:=ha1 Om
  have hw:wrap64 (1+a)=1+a:=Yw
  have hc:¬ i<=1+a:=by omega
  refine⟨l,p1,s1,by omega,by omega,hp1,hp1',fun k hk=>?_⟩
  obtain⟨k,rfl⟩:=Yk k
  simp only[q3p.l0,e1,Ob,hw,if_neg hc]
 |succ e ih =>
  intro l i p s h1 he hl h7 hp hp2
  obtain⟨a,p1,s1,e1,⟨ha0,ha1,_⟩,hp1,hp1'⟩:=Zj d p s 4 hd hp hp2
  have:=ha1 Om
  have hw:wrap64 (1+a)=1+a:=Yw
  by_cases hc:i<=1+a
  ·obtain⟨b,p2,s2,e2,_,hp2a,hp2b⟩:=Zj d p1 s1 20 hd hp1 hp1'
   obtain⟨c,p3,s3,e3,_,hp3,hp3'⟩:=Zj d p2 s2 3 hd hp2a hp2b
   obtain⟨f,p4,s4,e4,hp4,hp4'⟩:=ZBa d p3 s3 8 hd hp3 hp3'
   obtain⟨q,p',s',hq1,hq,hp',hp'',hk2⟩:=ih (l++[⟨wrap64 (2 * i),wrap64 (5+b),wrap64 (1+c),f⟩]) (i+1) p4 s4 Om Om (by simp;omega) Om hp4 hp4'
   refine⟨q,p',s',hq1,hq,hp',hp'',fun k hk=>?_⟩
   obtain⟨k,rfl⟩:=Yk k
   have hlen:l.length<4398046511104:=by omega
   have hw2:wrap64 (i+1)=i+1:=Yw
   simp only[q3p.l0,e1,Ob,hw,if_pos hc,e2,e3,e4,if_pos hlen,hw2]
   exact hk2 k Om
  ·refine⟨l,p1,s1,by omega,by omega,hp1,hp1',fun k hk=>?_⟩
   obtain⟨k,rfl⟩:=Yk k
   simp only[q3p.l0,e1,Ob,hw,if_neg hc]
theorem Zpb (n:Int) (ds:List Int) (hn:ds.length<=64):∀ (e:Nat) (i:Int) (acc:List Int),0<=i->(ds.length:Int)-i=e->(acc.length:Int)<=i ->
  ∃ r,r.length<=64/\∀ k,e<k->q3i.l0 k n acc ds i=some r:=by
 intro e
 induction e with
 |zero =>
  intro i acc h0 he ha
  refine⟨acc,by omega,fun k hk=>?_⟩
  obtain⟨k,rfl⟩:=Yk k
  rw[q3i.l0,if_neg Om]
 |succ e ih =>
  intro i acc h0 he ha
  have hlt:i<(ds.length:Int):=by omega
  have hw:wrap64 (i+1)=i+1:=Yw
  have q1:acc.length<17592186044416:=by omega
  by_cases c:rd ds i>=0/\rd ds i<=n
  ·obtain⟨r,hr,hk2⟩:=ih (i+1) (acc++[i]) Om Om (by simp;omega)
   refine⟨r,hr,fun k hk=>?_⟩
   obtain⟨k,rfl⟩:=Yk k
   rw[q3i.l0,if_pos hlt,if_pos h0,if_pos c.1,if_pos c.2,if_pos q1,hw]
   exact hk2 k Om
  ·obtain⟨r,hr,hk2⟩:=ih (i+1) acc Om Om Om
   refine⟨r,hr,fun k hk=>?_⟩
   obtain⟨k,rfl⟩:=Yk k
   rw[q3i.l0,if_pos hlt,if_pos h0,hw]
   by_cases c1:rd ds i>=0
   ·rw[if_pos c1,if_neg (fun c2=>c ⟨c1,c2⟩)]
    exact hk2 k Om
   ·rw[if_neg c1]
    exact hk2 k Om
theorem ZRb (W H:Int) (xs:List Int) (hn:xs.length<=64) (a n:Int):∃ r,r.length<=64/\∀ k,1100<k->q3i.f k W H xs a n=some r:=by
 rcases ZD W H xs Om with L|no
 ·by_cases ha:opn xs a=true
  ·have hl:=(Zl L (Za ha)).len
   obtain⟨r,hr,hk2⟩:=Zpb n (Zc W xs a) Om xs.length 0 [] Om Om (by simp)
   refine⟨r,hr,fun k hk=>?_⟩
   unfold q3i.f
   simp only[Ob,(Zk L a k Om).2,if_pos ha,(ZV L a ha k Om).2]
   exact hk2 k Om
  ·refine⟨[],by simp,fun k hk=>?_⟩
   unfold q3i.f
   simp only[Ob,(Zk L a k Om).2,if_neg ha]
 ·refine⟨[],by simp,fun k hk=>?_⟩
  unfold q3i.f
  simp only[Ob,(ZU a k (no k Om)).2,Bool.false_eq_true,if_false]
theorem Zab (d:List Int) (hd:d.length<=1048576) (W H n:Int) (hn:wrap64 (W * H)=n) (h1:1<=n) (h2:n<=64):∀ (e:Nat) (i:Int) (acc:List Int) (p s:Int),0<=i->n-i=e->(acc.length:Int)=i->0<=p->p<=d.length ->
  ∃ xs p' s',(xs.length:Int)=n/\0<=p'/\p'<=(d.length:Int)/\∀ k,e<k->q2c.l0 k i d p s W H acc=some (W,H,xs,p',s'):=by
 intro e
 induction e with
 |zero =>
  intro i acc p s h0 he ha hp hp2
  refine⟨acc.set (0:Int).toNat 0,p,s,by rw[List.length_set];omega,hp,hp2,fun k hk=>?_⟩
  obtain⟨k,rfl⟩:=Yk k
  rw[q2c.l0,hn,if_neg Om,if_pos Om]
 |succ e ih =>
  intro i acc p s h0 he ha hp hp2
  obtain⟨v,p1,s1,e1,_,hp1,hp1'⟩:=Zba d p s [0,0,0,0,1,2] (by simp) hd hp hp2
  obtain⟨xs,p',s',hx,hp',hp'',hk2⟩:=ih (i+1) (acc++[v]) p1 s1 Om Om (by simp;omega) hp1 hp1'
  refine⟨xs,p',s',hx,hp',hp'',fun k hk=>?_⟩
  obtain⟨k,rfl⟩:=Yk k
  have hw:wrap64 (i+1)=i+1:=Yw
  have q1:acc.length<17592186044416:=by omega
  rw[q2c.l0,hn,if_pos Om,e1,Ob,if_pos q1,hw]
  exact hk2 k Om
theorem ZJa (d:List Int) (p s:Int) (hd:d.length<=1048576) (hp:0<=p) (hp2:p<=d.length):∃ W H xs p' s',(1<=xs.length/\xs.length<=64)/\0<=p'/\p'<=(d.length:Int)/\∀ k,70<k->q2c.f k d p s=some (W,H,xs,p',s'):=by
 obtain⟨a,p1,s1,e1,⟨a0,a1,_⟩,hp1,hp1'⟩:=Zj d p s 5 hd hp hp2
 obtain⟨b,p2,s2,e2,⟨b0,b1,_⟩,hp2a,hp2b⟩:=Zj d p1 s1 4 hd hp1 hp1'
 have:=a1 Om
 have:=b1 Om
 have w1:wrap64 (2+a)=2+a:=Yw
 have w2:wrap64 (2+b)=2+b:=Yw
 obtain⟨n,hn⟩:∃ n,n=(2+a) * (2+b):=⟨_,rfl⟩
 have m1:(2+a) * (2+b)<=6 * 5:=Int.mul_le_mul Om Om Om Om
 have m2:1 * 1<=(2+a) * (2+b):=Int.mul_le_mul Om Om Om Om
 have w3:wrap64 ((2+a) * (2+b))=n:=by rw[<-hn] at m1 m2 ⊢;unfold wrap64;omega
 obtain⟨xs,p',s',hx,hp',hp'',hk2⟩:=Zab d hd (2+a) (2+b) n w3 Om Om n.toNat 0 [] p2 s2 Om Om (by simp) hp2a hp2b
 refine⟨2+a,2+b,xs,p',s',⟨by omega,by omega⟩,hp',hp'',fun k hk=>?_⟩
 unfold q2c.f
 rw[e1,Ob,e2,Ob]
 simp only[w1,w2]
 exact hk2 k Om
theorem ZWb (d:List Int) (p s:Int) (hd:d.length<=1048576) (hp:0<=p) (hp2:p<=d.length):∃ v p' s',q6f.f d p s=some (v,p',s')/\0<=p'/\p'<=(d.length:Int):=by
 obtain⟨v,p1,s1,e1,_,hp1,hp1'⟩:=Zba d p s [(-1),0,8,9,64,9223372036854775807,(-9223372036854775808)] (by simp) hd hp hp2
 exact⟨v,p1,s1,by unfold q6f.f;rw[e1];rfl,hp1,hp1'⟩
theorem ZOb (d:List Int) (p s:Int) (hd:d.length<=1048576) (hp:0<=p) (hp2:p<=d.length):∃ W H xs p' s',xs.length<=64/\0<=p'/\p'<=(d.length:Int)/\∀ k,70<k->q6w.f k d p s=some (W,H,xs,p',s'):=by
 obtain⟨W,H,xs,p1,s1,⟨x1,x2⟩,hp1,hp1',h1⟩:=ZJa d p s hd hp hp2
 obtain⟨c,p2,s2,e2,_,hp2a,hp2b⟩:=Zj d p1 s1 14 hd hp1 hp1'
 obtain⟨v,p3,s3,e3,hp3,hp3'⟩:=ZWb d p2 s2 hd hp2a hp2b
 obtain⟨u,p4,s4,e4,_,hp4,hp4'⟩:=Zba d p2 s2 [(-1),2,3] (by simp) hd hp2a hp2b
 have q0:0<(xs.length:Int):=by omega
 have q1:1<=(xs.length:Int):=by omega
 unfold q6w.f
 by_cases c0:c=0
 ·exact⟨v,H,xs,p3,s3,x2,hp3,hp3',fun k hk=>by simp only[h1 k hk,Ob,e2,if_pos c0,e3]⟩
 ·by_cases c1:c=1
  ·exact⟨W,v,xs,p3,s3,x2,hp3,hp3',fun k hk=>by simp only[h1 k hk,Ob,e2,if_neg c0,if_pos c1,e3]⟩
  ·by_cases c2:c=2
   ·exact⟨W,H,xs.set (0:Int).toNat u,p4,s4,by rw[List.length_set];exact x2,hp4,hp4',fun k hk=>by simp only[h1 k hk,Ob,e2,if_neg c0,if_neg c1,if_pos c2,e4,if_pos q0]⟩
   ·by_cases c3:c=3
    ·exact⟨W,H,xs.drop (1:Int).toNat,p2,s2,by rw[List.length_drop];omega,hp2a,hp2b,fun k hk=>by simp only[h1 k hk,Ob,e2,if_neg c0,if_neg c1,if_neg c2,if_pos c3,if_pos q1]⟩
    ·exact⟨W,H,xs,p2,s2,x2,hp2a,hp2b,fun k hk=>by simp only[h1 k hk,Ob,e2,if_neg c0,if_neg c1,if_neg c2,if_neg c3]⟩
theorem Zkc (d:List Int) (p s:Int) (hd:d.length<=1048576) (hp:0<=p) (hp2:p<=d.length):∃ v w p' s',q6m.f d p s=some (v,w,p',s')/\(1<=w/\w<=10)/\0<=p'/\p'<=(d.length:Int):=by
 obtain⟨a,p1,s1,e1,⟨a0,a1,_⟩,hp1,hp1'⟩:=Zj d p s 6 hd hp hp2
 have:=a1 Om
 have w1:wrap64 (1+a)=1+a:=Yw
 obtain⟨b,p2,s2,e2,_,hp2a,hp2b⟩:=Zj d p1 s1 (1+a) hd hp1 hp1'
 exact⟨b,1+a,p2,s2,by unfold q6m.f;rw[e1,Ob,w1,e2,Ob],by omega,hp2a,hp2b⟩
theorem Zgb (l:List Bool) (hl:l.length<=1048576):∀ (e:Nat) (i c:Int),0<=i->(l.length:Int)-i=e->∃ r,∀ k,e<k->q1k.l0 k l c i=some r:=by
 intro e
 induction e with
 |zero =>
  intro i c h0 he
  refine⟨c,fun k hk=>?_⟩
  obtain⟨k,rfl⟩:=Yk k
  rw[q1k.l0,if_neg Om]
 |succ e ih =>
  intro i c h0 he
  have hlt:i<(l.length:Int):=by omega
  by_cases b:rdOf false l i=true
  ·obtain⟨r,hr⟩:=ih (i+1) (wrap64 (c+1)) Om Om
   refine⟨r,fun k hk=>?_⟩
   obtain⟨k,rfl⟩:=Yk k
   rw[q1k.l0,if_pos hlt,if_pos h0,if_pos b,Zp (n:=l.length) h0 hlt hl]
   exact hr k Om
  ·obtain⟨r,hr⟩:=ih (i+1) c Om Om
   refine⟨r,fun k hk=>?_⟩
   obtain⟨k,rfl⟩:=Yk k
   rw[q1k.l0,if_pos hlt,if_pos h0,if_neg b,Zp (n:=l.length) h0 hlt hl]
   exact hr k Om
theorem Z0a (v w:Int) (l:List Bool) (hw:1<=w/\w<=10) (hl:l.length<=1048576):∃ t,∀ k,l.length<k->q1t.f k v w l=some t:=by
 have e1:wrap64 ((l.length:Int)+1)=(l.length:Int)+1:=Yw
 have e2:wrap64 ((l.length:Int)+1-w)=(l.length:Int)+1-w:=Yw
 have e3:wrap64 (w-1)=w-1:=Yw
 obtain⟨t,ht⟩:∃ t,t=mx 0 ((l.length:Int)+1-w):=⟨_,rfl⟩
 have hm:q4t.f 0 ((l.length:Int)+1-w)=some t:=by subst ht;unfold q4t.f mx;split <;> rfl
 have h0:0<=t/\t<=(l.length:Int):=by subst ht;unfold mx;split <;> omega
 obtain⟨c,hc⟩:=Zgb (l.drop t.toNat) (by rw[List.length_drop];omega) (l.drop t.toNat).length 0 0 Om Om
 by_cases r:0<=v/\v<=w-1
 ·refine⟨decide (c<v),fun k hk=>?_⟩
  have hc2:=hc k (by rw[List.length_drop];omega)
  unfold q1t.f q4i.f q1k.f
  simp only[Zg,hw,and_self,decide_true,Ob,if_true,e3,r,e1,e2,hm,if_pos h0.1,if_pos h0.2,hc2]
 ·refine⟨false,fun k hk=>?_⟩
  unfold q1t.f q4i.f
  simp only[Zg,hw,and_self,decide_true,Ob,if_true,e3,r,decide_false,Bool.false_eq_true,if_false]
theorem Zub (d:List Int) (hd:d.length<=1048576) (n v w:Int) (hn:n<=10) (hw:1<=w/\w<=10):∀ (e:Nat) (i:Int) (acc:List Bool) (p s:Int),0<=i->n-i<=e->(acc.length:Int)=i->i<=10->0<=p->p<=d.length ->
  ∃ q p' s',q.length<=10/\0<=p'/\p'<=(d.length:Int)/\∀ k,11+e<k->q3c.l0 k n acc i d p s v w=some (q,p',s'):=by
 intro e
 induction e with
 |zero =>
  intro i acc p s h0 he ha hi hp hp2
  refine⟨acc,p,s,by omega,hp,hp2,fun k hk=>?_⟩
  obtain⟨k,rfl⟩:=Yk k
  rw[q3c.l0,if_neg Om]
 |succ e ih =>
  intro i acc p s h0 he ha hi hp hp2
  by_cases c:i<n
  ·obtain⟨t,ht⟩:=Z0a v w acc hw Om
   have wi:wrap64 (i+1)=i+1:=Yw
   have q1:acc.length<140737488355328:=by omega
   by_cases b:t=true
   ·obtain⟨f,p1,s1,e1,hp1,hp1'⟩:=ZBa d p s 2 hd hp hp2
    obtain⟨q,p',s',hq,hp',hp'',hk2⟩:=ih (i+1) (acc++[f]) p1 s1 Om Om (by simp;omega) Om hp1 hp1'
    refine⟨q,p',s',hq,hp',hp'',fun k hk=>?_⟩
    obtain⟨k,rfl⟩:=Yk k
    rw[q3c.l0,if_pos c,ht k Om,Ob,if_pos b,e1,Ob,if_pos q1,wi]
    exact hk2 k Om
   ·obtain⟨q,p',s',hq,hp',hp'',hk2⟩:=ih (i+1) (acc++[false]) p s Om Om (by simp;omega) Om hp hp2
    refine⟨q,p',s',hq,hp',hp'',fun k hk=>?_⟩
    obtain⟨k,rfl⟩:=Yk k
    rw[q3c.l0,if_pos c,ht k Om,Ob,if_neg b,if_pos q1,wi]
    exact hk2 k Om
  ·refine⟨acc,p,s,by omega,hp,hp2,fun k hk=>?_⟩
   obtain⟨k,rfl⟩:=Yk k
   rw[q3c.l0,if_neg c]
theorem ZDb (d:List Int) (p s:Int) (hd:d.length<=1048576) (hp:0<=p) (hp2:p<=d.length) (W H:Int) (xs:List Int) (hx:xs.length<=64) (v w:Int) (hw:1<=w/\w<=10) :
  ∃ a b l h p' s',(0<=b/\b<60)/\l.length<=6/\h.length<=10/\0<=p'/\p'<=(d.length:Int)/\∀ k,1100<k->q4b.f k d p s W H xs v w=some (a,b,l,h,p',s'):=by
 obtain⟨b,p1,s1,e1,⟨b0,b1,_⟩,hp1,hp1'⟩:=Zj d p s 60 hd hp hp2
 obtain⟨l,p2,s2,hl1,hl,hp2a,hp2b,hk2⟩:=ZSa d hd 5 [] 1 p1 s1 Om Om (by simp) Om hp1 hp1'
 obtain⟨n,p3,s3,e3,⟨n0,n1,_⟩,hp3,hp3'⟩:=Zj d p2 s2 8 hd hp2a hp2b
 have:=n1 Om
 obtain⟨h,p4,s4,hh,hp4,hp4',hk4⟩:=Zub d hd n v w Om hw 8 0 [] p3 s3 Om Om (by simp) Om hp3 hp3'
 obtain⟨r,hr,hk5⟩:=ZRb W H xs hx 0 99
 have f2:∀ k,1100<k->q3p.f k d p1 s1=some (l,p2,s2):=fun k hk=>hk2 k Om
 have f4:∀ k,1100<k->q3c.f k d p3 s3 v w n=some (h,p4,s4):=fun k hk=>hk4 k Om
 unfold q4b.f
 by_cases c:(r.length:Int)>0
 ·obtain⟨m,p5,s5,e5,⟨m0,m1,_⟩,hp5,hp5'⟩:=Zj d p4 s4 (r.length:Int) hd hp4 hp4'
  have m2:=m1 Om
  exact⟨rd r m,b,l,h,p5,s5,⟨b0,b1 Om⟩,hl,hh,hp5,hp5',fun k hk=>by simp only[e1,Ob,f2 k hk,e3,f4 k hk,hk5 k hk,if_pos c,e5,if_pos m0,if_pos m2]⟩
 ·exact⟨0,b,l,h,p4,s4,⟨b0,b1 Om⟩,hl,hh,hp4,hp4',fun k hk=>by simp only[e1,Ob,f2 k hk,e3,f4 k hk,hk5 k hk,if_neg c]⟩
theorem Z3a (d:List Int) (hd:d.length<=1048576) (W H:Int) (xs:List Int) (hx:xs.length<=64):∀ (e:Nat) (i:Int) (ds:List S59) (p s:Int),i<=e->(ds.length:Int)+i<=3->ds.length<=3->0<=p->p<=d.length ->
  ∃ q p' s',q.length<=3/\0<=p'/\p'<=(d.length:Int)/\∀ k,1300+e<k->q2i.l0 k ds i d p s W H xs=some (q,p',s'):=by
 obtain⟨lb,oc,A⟩:=ZO W H xs Om
 intro e
 induction e with
 |zero =>
  intro i ds p s he hl hl3 hp hp2
  refine⟨ds,p,s,hl3,hp,hp2,fun k hk=>?_⟩
  obtain⟨k,rfl⟩:=Yk k
  rw[q2i.l0,if_neg Om]
 |succ e ih =>
  intro i ds p s he hl hl3 hp hp2
  by_cases c:i>0
  ·obtain⟨u,p1,s1,e1,_,hp1,hp1'⟩:=Zj d p s 20 hd hp hp2
   obtain⟨v,p2,s2,e2,_,hp2a,hp2b⟩:=Zj d p1 s1 30 hd hp1 hp1'
   obtain⟨D,o,_,hD,hL⟩:=Z4a A.toLandEv ds Om u (wrap64 (1+v))
   have hw:wrap64 (i-1)=i-1:=by clear hL;unfold wrap64;omega
   obtain⟨q,p',s',hq,hp',hp'',hk2⟩:=ih (i-1) D p2 s2 Om Om Om hp2a hp2b
   refine⟨q,p',s',hq,hp',hp'',fun k hk=>?_⟩
   obtain⟨k,rfl⟩:=Yk k
   rw[q2i.l0,if_pos c,e1,Ob,e2,Ob,(hL k Om).2,Ob,hw]
   exact hk2 k Om
  ·refine⟨ds,p,s,hl3,hp,hp2,fun k hk=>?_⟩
   obtain⟨k,rfl⟩:=Yk k
   rw[q2i.l0,if_neg c]
theorem Zib (d:List Int) (p s:Int) (hd:d.length<=1048576) (hp:0<=p) (hp2:p<=d.length) :
  ∃ W H xs base M Wi ds a b l h p' s',xs.length<=64/\ds.length<=3/\l.length<=6/\h.length<=10/\(0<=b/\b<60)/\0<=p'/\p'<=(d.length:Int)/\∀ k,1400<k->q2a.f k d p s=some (W,H,xs,base,M,Wi,ds,a,b,l,h,p',s'):=by
 obtain⟨W,H,xs,p1,s1,⟨_,hx⟩,hp1,hp1',h1⟩:=ZJa d p s hd hp hp2
 obtain⟨v,w,p2,s2,e2,hw,hp2a,hp2b⟩:=Zkc d p1 s1 hd hp1 hp1'
 obtain⟨n,p3,s3,e3,⟨n0,n1,_⟩,hp3,hp3'⟩:=Zj d p2 s2 4 hd hp2a hp2b
 have n2:=n1 Om
 obtain⟨ds,p4,s4,hds,hp4,hp4',h4⟩:=Z3a d hd W H xs hx 3 n [] p3 s3 Om (by simp;omega) (by simp) hp3 hp3'
 obtain⟨a,b,l,h,p5,s5,hb,hl,hh,hp5,hp5',h5⟩:=ZDb d p4 s4 hd hp4 hp4' W H xs hx v w hw
 obtain⟨c,p6,s6,e6,_,hp6,hp6'⟩:=Zj d p5 s5 12 hd hp5 hp5'
 have g4:∀ k,1400<k->q2i.f k d p2 s2 W H xs=some (ds,p4,s4):=fun k hk=>by
  unfold q2i.f
  rw[e3,Ob]
  exact h4 k Om
 unfold q2a.f
 by_cases c0:c=0
 ·obtain⟨u,p7,s7,e7,_,hp7,hp7'⟩:=Zj d p6 s6 20 hd hp6 hp6'
  exact⟨W,H,xs,u,v,w,ds,a,b,l,h,p7,s7,hx,hds,hl,hh,hb,hp7,hp7',fun k hk=>by simp only[h1 k Om,Ob,e2,g4 k hk,h5 k Om,e6,if_pos c0,e7]⟩
 ·by_cases c1:c=1
  ·obtain⟨W2,H2,ys,p7,s7,hy,hp7,hp7',h7⟩:=ZOb d p6 s6 hd hp6 hp6'
   exact⟨W2,H2,ys,0,v,w,ds,a,b,l,h,p7,s7,hy,hds,hl,hh,hb,hp7,hp7',fun k hk=>by simp only[h1 k Om,Ob,e2,g4 k hk,h5 k Om,e6,if_neg c0,if_pos c1,h7 k Om]⟩
  ·by_cases c2:c=2
   ·exact⟨W,H,xs,0,w,w,ds,a,b,l,h,p6,s6,hx,hds,hl,hh,hb,hp6,hp6',fun k hk=>by simp only[h1 k Om,Ob,e2,g4 k hk,h5 k Om,e6,if_neg c0,if_neg c1,if_pos c2]⟩
   ·by_cases c3:c=3
    ·exact⟨W,H,xs,0,v,w,ds,a,0,l,h,p6,s6,hx,hds,hl,hh,⟨by omega,by omega⟩,hp6,hp6',fun k hk=>by simp only[h1 k Om,Ob,e2,g4 k hk,h5 k Om,e6,if_neg c0,if_neg c1,if_neg c2,if_pos c3]⟩
    ·exact⟨W,H,xs,0,v,w,ds,a,b,l,h,p6,s6,hx,hds,hl,hh,hb,hp6,hp6',fun k hk=>by simp only[h1 k Om,Ob,e2,g4 k hk,h5 k Om,e6,if_neg c0,if_neg c1,if_neg c2,if_neg c3]⟩
theorem Zob (a b:Int) (l:List S95) (h:List Bool) (hl:l.length<=1048576):∃ R,(∀ (n:Int) (C:Nat),1<=n->n<=R->(∀ k,3 * l.length+3<k->q2p.f k l=some (C:Int))->n<=(C:Int)-b)/\∀ k,3 * l.length+3<k->q1s.f k a b l h=some R/\q4d.f k a b l h=some R:=by
 obtain⟨C,hC,hcap⟩:=Z8 l hl
 unfold q1s.f q4d.f
 by_cases c:b<0
 ·refine⟨0,fun n C2 h1 h2=>by omega,fun k hk=>?_⟩
  rw[if_pos c,(hcap k hk).2,Ob,if_pos c]
  exact⟨rfl,rfl⟩
 ·by_cases c2:b>=C
  ·refine⟨0,fun n C2 h1 h2=>by omega,fun k hk=>?_⟩
   simp only[if_neg c,(hcap k hk).1,(hcap k hk).2,Ob,if_pos c2,and_self]
  ·have hw:wrap64 (C-b)=C-b:=Yw
   refine⟨C-b,fun n C2 h1 h2 h3=>?_,fun k hk=>?_⟩
   ·have e:=h3 (3 * l.length+4) Om
    rw[(hcap (3 * l.length+4) Om).1] at e
    have:=Option.some.inj e
    omega
   ·simp only[if_neg c,(hcap k hk).1,(hcap k hk).2,Ob,if_neg c2,hw,and_self]
theorem Zsb (d:List Int) (hd:d.length<=1048576):∃ W H xs base M Wi ds a b l h n,xs.length<=64/\ds.length<=3/\l.length<=6/\h.length<=10/\∀ k,d.length+1500<k->q4w.f k d=some (W,H,xs,base,M,Wi,ds,a,b,l,h,n):=by
 obtain⟨s,hs⟩:=Zvb d hd
 obtain⟨W,H,xs,base,M,Wi,ds,a,b,l,h,p1,s1,hx,hds,hl,hh,hb,hp1,hp1',h1⟩:=Zib d 0 s hd Om Om
 obtain⟨n,p2,s2,e2,_,_⟩:=Zba d p1 s1 [1,3,10,b,wrap64 (b+1),0] (by simp) hd hp1 hp1'
 refine⟨W,H,xs,base,M,Wi,ds,a,b,l,h,n,hx,hds,hl,hh,fun k hk=>?_⟩
 unfold q4w.f q2x.f
 simp only[hs k Om,Ob,h1 k Om,e2]
theorem Zeb (d:List Int) (hd:d.length<=1048576):∃ W H xs base M Wi ds a b l h n,xs.length<=64/\ds.length<=3/\l.length<=6/\h.length<=10/\∀ k,d.length+1500<k->q0p.f k d=some (W,H,xs,base,M,Wi,ds,a,b,l,h,n):=by
 obtain⟨s,hs⟩:=Zvb d hd
 obtain⟨W,H,xs,base,M,Wi,ds,a,b,l,h,p1,s1,hx,hds,hl,hh,hb,hp1,hp1',h1⟩:=Zib d 0 s hd Om Om
 have fin:∀ (a2 p s:Int),0<=p->p<=d.length->∃ n,∀ k,1400<k->q0p.j1 k base ds d p s W H xs M Wi a2 b l h=some (W,H,xs,base,M,Wi,ds,a2,b,l,h,n):=by
  intro a2 p s hp hp2
  obtain⟨f,hf⟩:=ZS ds Om a2
  obtain⟨R,_,hR⟩:=Zob a2 b l h Om
  obtain⟨n,p2,s2,e2,_,_⟩:=Zba d p s [1,2,f,R,wrap64 (R+1),0] (by simp) hd hp hp2
  refine⟨n,fun k hk=>?_⟩
  obtain⟨k,rfl⟩:=Yk k
  simp only[q0p.j1,(hf k Om).2,(hR k Om).2,Ob,e2]
 by_cases c:(ds.length:Int)>0
 ·obtain⟨f,p2,s2,e2,hp2,hp2'⟩:=ZBa d p1 s1 3 hd hp1 hp1'
  have c0:0<(ds.length:Int):=c
  cases f with
  |true =>
   obtain⟨n,hn⟩:=fin a p2 s2 hp2 hp2'
   refine⟨W,H,xs,base,M,Wi,ds,a,b,l,h,n,hx,hds,hl,hh,fun k hk=>?_⟩
   obtain⟨k,rfl⟩:=Yk k
   unfold q0p.f
   simp only[hs (k+1) Om,Ob,h1 (k+1) Om,if_pos c,e2,q0p.j0,Bool.not_true,Bool.false_eq_true,if_false,hn k Om]
  |false =>
   obtain⟨n,hn⟩:=fin (q0e ds 0).f0 p2 s2 hp2 hp2'
   refine⟨W,H,xs,base,M,Wi,ds,(q0e ds 0).f0,b,l,h,n,hx,hds,hl,hh,fun k hk=>?_⟩
   obtain⟨k,rfl⟩:=Yk k
   unfold q0p.f
   simp only[hs (k+1) Om,Ob,h1 (k+1) Om,if_pos c,e2,q0p.j0,Bool.not_false,if_true,if_pos c0,hn k Om]
 ·obtain⟨n,hn⟩:=fin a p1 s1 hp1 hp1'
  refine⟨W,H,xs,base,M,Wi,ds,a,b,l,h,n,hx,hds,hl,hh,fun k hk=>?_⟩
  obtain⟨k,rfl⟩:=Yk k
  unfold q0p.f
  simp only[hs (k+1) Om,Ob,h1 (k+1) Om,if_neg c,q0p.j0,Bool.false_eq_true,if_false,hn k Om]
def Zda (l:List Bool):Nat:=l.count true
def Z2b (l:List Bool) (n:Nat):List Bool:=l.drop (l.length-n)
def Zva (M W:Int) (l:List Bool):Bool:=Zo M W && decide ((Zda (Z2b l (W-1).toNat):Int)<M)
theorem ZZb {M W:Int} (h:Zo M W=true):(1<=W/\W<=10)/\0<=M/\M<=W-1:=by
 unfold Zo at h
 rw[Bool.and_eq_true,decide_eq_true_eq,decide_eq_true_eq] at h
 exact h
theorem Z9 (l:List Bool) (hl:l.length<=1048576):∀ (e i a:Nat),l.length=i+e->a<=i->∀ k,e<k->q1d.l0 k (a:Int) l (l.length:Int) (i:Int)=some ((a+Zda (l.drop i):Nat):Int)
 |0,i,a,h,_,k,hk=>by
  obtain⟨k,rfl⟩:∃ j,k=j+1:=⟨k-1,by omega⟩
  have c:¬ (i:Int)<(l.length:Int):=by omega
  rw[q1d.l0,if_neg c,List.drop_eq_nil_of_le Om];rfl
 |e+1,i,a,h,ha,k,hk=>by
  obtain⟨k,rfl⟩:∃ j,k=j+1:=⟨k-1,by omega⟩
  have c:(i:Int)<(l.length:Int):=by omega
  have c0:(0:Int)<=(i:Int):=by omega
  have w1:wrap64 ((a:Int)+1)=((a+1:Nat):Int):=Yw
  have w2:wrap64 ((i:Int)+1)=((i+1:Nat):Int):=Yw
  have hd:l.drop i=l[i]' Om :: l.drop (i+1):=List.drop_eq_getElem_cons Om
  have hr:rdOf false l (i:Int)=l[i]' Om:=by unfold rdOf;rw[Int.toNat_natCast,List.getD_eq_getElem?_getD,List.getElem?_eq_getElem Om];rfl
  rw[q1d.l0,if_pos c,if_pos c0,if_pos c,hr,hd]
  by_cases q:l[i]' Om=true
  ·rw[if_pos q,w1,w2,Z9 l hl e (i+1) (a+1) Om Om k Om,q]
   unfold Zda;rw[List.count_cons_self];congr 2;omega
  ·rw[if_neg q,w2,Z9 l hl e (i+1) a Om Om k Om]
   have q':l[i]' Om=false:=by simpa using q
   unfold Zda;rw[q',List.count_cons_of_ne (by decide)]
theorem Zga (M W:Int) (l:List Bool) (hl:l.length<=1048576):∀ k,l.length<k->q2g.f k M W l=some (Zva M W l):=by
 intro k hk
 obtain⟨r1,_⟩:=ZB M W
 by_cases h:Zo M W=true
 ·have hW:=(ZZb h).1
  have e1:wrap64 (W-1)=W-1:=Yw
  have e2:wrap64 ((l.length:Int)-(W-1))=(l.length:Int)-(W-1):=Yw
  obtain⟨t,ht⟩:∃ t:Nat,t=l.length-(W-1).toNat:=⟨_,rfl⟩
  have e3:mx ((l.length:Int)-(W-1)) 0=(t:Int):=by unfold mx;split <;> omega
  have e4:(0:Int)<=(t:Int):=by omega
  have e5:(t:Int)<=(l.length:Int):=by omega
  have hc:=Z9 (l.drop t) (by rw[List.length_drop];omega) (l.drop t).length 0 0 Om Om k (by rw[List.length_drop];omega)
  rw[List.drop_zero,Nat.zero_add] at hc
  have hc':q1d.f k (l.drop t)=some ((Zda (l.drop t):Nat):Int):=hc
  unfold q2g.f q4f.f Zva Z2b
  rw[r1]
  simp only[h,Ob,if_true,e1,e2,e3,if_pos e4,if_pos e5,Int.toNat_natCast,hc',<-ht,Bool.true_and]
 ·unfold q2g.f Zva
  rw[r1]
  simp[h]
def Zy (M W:Int) (N C:Nat) (D:Int->Nat):Nat->List Bool->List Int->Nat->Option Nat
 |0,_,_,_=>none
 |_+1,_,[],b=>some b
 |f+1,h,c :: cs,b=>if b<N then none else if Zva M W h=true then Zy M W N C D f (Zn h true) (c :: cs) (b-N) else Zy M W N C D f (Zn h false) cs (b-N+min (C-(b-N)) (D c))
theorem ZXa (a b n:Int) (l:List S95) (h:List Bool) (hl:l.length<=1048576) (hh:h.length<=1048576) (hb:0<=b/\b<=1000000) (hn:0<=n/\n<=1000000) {C:Nat} (hC:C<=800) (hcap:∀ k,3 * l.length+3<k->q2p.f k l=some (C:Int)) :
  ∀ k,3 * l.length+3<k->q4c.f k a b l h n=some (a,((b.toNat+min (C-b.toNat) n.toNat:Nat):Int),l,h,((min (C-b.toNat) n.toNat:Nat):Int)):=by
 intro k hk
 have c1:=(Zr a b l h hl hh).1
 have h1:¬ n<0:=by omega
 have h2:¬ b<0:=by omega
 have hr:q1s.f k a b l h=some (((C-b.toNat:Nat)):Int):=by
  unfold q1s.f
  rw[if_neg h2,hcap k hk,Ob]
  by_cases c:b>=(C:Int)
  ·rw[if_pos c];congr 1;omega
  ·rw[if_neg c,Ob]
   have hw:wrap64 ((C:Int)-b)=(C:Int)-b:=Yw
   rw[hw];congr 1;omega
 have hm:mn n (((C-b.toNat:Nat)):Int)=((min (C-b.toNat) n.toNat:Nat):Int):=by unfold mn;split <;> omega
 have hw:wrap64 (b+((min (C-b.toNat) n.toNat:Nat):Int))=((b.toNat+min (C-b.toNat) n.toNat:Nat):Int):=by
  have:min (C-b.toNat) n.toNat<=800:=by omega
  unfold wrap64;omega
 unfold q4c.f
 simp only[c1,Ob,if_neg h1,hr,hm,hw]
theorem ZTa (i:Nat) (h:i<1000000):wrap64 ((i:Int)+1)=((i+1:Nat):Int):=Yw
theorem Zsc (b N:Nat) (h:N<=b) (h2:b<1000000):wrap64 ((b:Int)-(N:Int))=((b-N:Nat):Int):=Yw
theorem Zqb (ws:List Int) (hws:ws.length<=64) (ds:List S59) (hds:ds.length<=1048576) (M W:Int) (l:List S95) (hl:l.length<=8) {N C G:Nat} (hN:1<=N/\N<=80) (hC:C<=800) (hG:801<=G)
  (hc:∀ k,l.length<k->q0u.f k l=some true) (hneed:∀ k,2 * l.length+3<k->q3h.f k l=some (N:Int)) (hcap:∀ k,3 * l.length+3<k->q2p.f k l=some (C:Int))
  {D:Int->Nat} (hD:∀ c,D c<=10000) (hfood:∀ c k,ds.length<k->q2f.f k ds c=some (D c:Int)) :
  ∀ (F:Nat) (i:Nat) (at_:Int) (b:Nat) (h days:List Bool),i+1<=ws.length->h.length<=10->(ws.drop (i+1)).length * G+b<F->F<=1000000000->b<=20000->days.length+F<=2000000000 ->
  ∃ ys,∀ k,ds.length+100+F<k->q0z.l0 k ws ds days (i:Int) M W at_ (b:Int) l h=some (match Zy M W N C D F h (ws.drop (i+1)) b with|some v=>((v:Int),ys,true)|none=>(0,ys,false)):=by
 intro F
 induction F with
 |zero=>intro i at_ b h days h1 h2 h3;omega
 |succ F ih =>
  intro i at_ b h days hi hh hF hF2 hb hdl
  by_cases e:i+1<ws.length
  ·have hlt:((i+1:Nat):Int)<(ws.length:Int):=by omega
   have h0:(0:Int)<=((i+1:Nat):Int):=by omega
   have hdr:ws.drop (i+1)=ws[i+1]'e :: ws.drop (i+1+1):=List.drop_eq_getElem_cons e
   have hrd:rd ws ((i+1:Nat):Int)=ws[i+1]'e:=by unfold rd;rw[Int.toNat_natCast,List.getD_eq_getElem?_getD,List.getElem?_eq_getElem e];rfl
   have hdays:days.length<140737488355328:=by omega
   have hlen:(ws.drop (i+1)).length * G=(ws.drop (i+1+1)).length * G+G:=by rw[hdr,List.length_cons,Nat.succ_mul]
   have heat:∀ k,2 * l.length+3<k->q3s.f k at_ (b:Int) l h=some (if b<N then(at_,(b:Int),l,h,false) else(at_,((b-N:Nat):Int),l,h,true)):=by
    intro k hk
    have c1:=(Zr at_ (b:Int) l h Om Om).1
    unfold q3s.f
    simp only[c1,Ob,hc k Om,if_true,hneed k hk]
    by_cases q:b<N
    ·rw[if_pos q,if_pos Om]
    ·rw[if_neg q,if_neg Om,Zsc b N Om Om]
   rw[hdr,Zy]
   by_cases q:b<N
   ·refine⟨days,fun k hk=>?_⟩
    obtain⟨k,rfl⟩:=Yk k
    rw[q0z.l0,ZTa i Om,if_pos hlt,heat k Om,if_pos q,if_pos q]
    simp only[Ob,Bool.false_eq_true,if_false]
   ·by_cases s:Zva M W h=true
    ·have a1:=(Zfa h true Om).1
     have hl2:=ZA h true
     obtain⟨ys,hys⟩:=ih i at_ (b-N) (Zn h true) (days++[true]) hi hl2 Om Om Om (by rw[List.length_append,List.length_singleton];omega)
     rw[hdr] at hys
     refine⟨ys,fun k hk=>?_⟩
     obtain⟨k,rfl⟩:=Yk k
     rw[q0z.l0,ZTa i Om,if_pos hlt,heat k Om,if_neg q,if_neg q,if_pos s]
     simp only[Ob,if_true,Zga M W h Om k Om,s,a1,if_pos hdays]
     exact hys k Om
    ·have s2:Zva M W h=false:=by simpa using s
     have a1:=(Zfa h false Om).1
     have hl2:=ZA h false
     have hp:=ZXa (rd ws ((i+1:Nat):Int)) ((b-N:Nat):Int) ((D (ws[i+1]'e):Nat):Int) l h Om Om Om (by have:=hD (ws[i+1]'e);omega) hC hcap
     rw[Int.toNat_natCast,Int.toNat_natCast] at hp
     obtain⟨ys,hys⟩:=ih (i+1) (rd ws ((i+1:Nat):Int)) (b-N+min (C-(b-N)) (D (ws[i+1]'e))) (Zn h false) (days++[false]) Om hl2 Om Om Om (by rw[List.length_append,List.length_singleton];omega)
     refine⟨ys,fun k hk=>?_⟩
     obtain⟨k,rfl⟩:=Yk k
     rw[q0z.l0,ZTa i Om,if_pos hlt,heat k Om,if_neg q,if_neg q,if_neg s]
     simp only[Ob,if_true,Zga M W h Om k Om,s2,Bool.false_eq_true,if_false,if_pos h0]
     rw[hfood _ k Om,hrd,Ob]
     rw[hrd] at hp hys
     rw[hp k Om,Ob]
     simp only[a1,Ob,if_pos hdays]
     exact hys k Om
  ·have hd0:ws.drop (i+1)=[]:=List.drop_eq_nil_of_le Om
   have hlt:¬ ((i+1:Nat):Int)<(ws.length:Int):=by omega
   refine⟨days,fun k hk=>?_⟩
   obtain⟨k,rfl⟩:=Yk k
   rw[q0z.l0,ZTa i Om,if_neg hlt,hd0,Zy]
structure Lv (M Wi:Int) (ds:List S59) (b:Int) (l:List S95) (h:List Bool) (N C:Nat):Prop where
 rule:Zo M Wi=true
 food:0<=b/\b<=10000
 past:h.length<=10
 crew:l.length<=8
 day:1<=N/\N<=80
 cap:C<=800
 need:∀ k,2 * l.length+3<k->q3h.f k l=some (N:Int)
 room:∀ k,3 * l.length+3<k->q2p.f k l=some (C:Int)
 good:∀ k,l.length<k->q0u.f k l=some true
 fd:Fd ds
 asc:ds.Pairwise (fun x y=>x.f0<y.f0)
 dl:ds.length<=20
def Zq (ds:List S59) (c:Int):Nat:=(Zi c ds).toNat
theorem ZQ {ds:List S59} (h:Fd ds) (c:Int):(Zq ds c:Int)=Zi c ds/\Zq ds c<=10000:=by
 have:=ZQa h c
 unfold Zq
 omega
theorem Z3b (W H:Int) (xs:List Int) (hx:xs.length<=64) (base M Wi:Int) (ds:List S59) (hds:ds.length<=100) (a b:Int) (l:List S95) (hl:l.length<=100) (h:List Bool) :
  ∃ ws n d p,Home W H xs base a ws n/\(∀ k,2000<k->q0l.f k W H xs ds=some d)/\(∀ k,2000<k->q3n.f k W H xs a b l h=some p) /\
  ((¬ (Zo M Wi=true/\d=true/\p=true/\ws≠[])/\∀ k,5100000<k->q2v.f k W H xs base M Wi ds a b l h=some (-1)) \/
     (d=true/\ws≠[]/\∃ N C,Lv M Wi ds b l h N C/\∀ k,5100000<k->q2v.f k W H xs base M Wi ds a b l h=some (match Zy M Wi N C (Zq ds) 4000000 h (ws.drop 1) (b.toNat+min (C-b.toNat) (Zq ds a)) with|some v=>(v:Int)|none=>-1))):=by
 obtain⟨lb,oc,A⟩:=ZO W H xs Om
 obtain⟨ws,n,Hm⟩:=Zac W H xs Om base a
 obtain⟨r1,_⟩:=ZB M Wi
 obtain⟨d,hd,hdk⟩:=Zt A.toLandEv ds Om ds.length 0 Om Om
 obtain⟨p,hp,hpk⟩:=Zla A.toLandEv a b l h Om
 have hk0:∀ k,2000<k->q0l.f k W H xs ds=some d:=fun k hk=>(hdk k Om).1
 have hk1:∀ k,2000<k->q3n.f k W H xs a b l h=some p:=fun k hk=>(hpk k Om).1
 have hway:∀ k,2000<k->q1v.f k W H xs a base=some ws:=fun k hk=>Hm.way k Om
 have hws:=Hm.len
 refine⟨ws,n,d,p,Hm,hk0,hk1,?_⟩
 by_cases bad:Zo M Wi=true/\d=true/\p=true
 ·obtain⟨rt,rfl,rfl⟩:=bad
  obtain⟨_,hl8,hb,hh,hc⟩:=hp rfl
  obtain⟨hd20,hdok⟩:=hd rfl
  by_cases hw0:ws=[]
  ·subst hw0
   refine Or.inl ⟨fun q=>q.2.2.2 rfl,fun k hk=>?_⟩
   unfold q2v.f q3x.f
   simp only[hk0 k Om,hk1 k Om,hway k Om,r1,rt,Ob,if_true,List.length_nil]
   rfl
  ·have hwl:¬ (ws.length:Int)=0:=by
    intro e
    exact hw0 (List.eq_nil_of_length_eq_zero Om)
   obtain⟨c0,Ni,hcc,ht,_,hneed⟩:=ZNa l Om
   have hc0:c0=true:=by
    have h1:=(hcc (l.length+1) Om).1
    rw[hc (l.length+1) Om] at h1
    exact(Option.some.inj h1).symm
   obtain⟨_,_,_,_,hN1,hN2⟩:=ht hc0
   obtain⟨Ci,hCi,hcap⟩:=Z8 l Om
   obtain⟨N,hN⟩:∃ N:Nat,Ni=(N:Int):=⟨Ni.toNat,by omega⟩
   obtain⟨C,hC⟩:∃ C:Nat,Ci=(C:Int):=⟨Ci.toNat,by omega⟩
   subst hN hC
   have F:=Z4b hdok
   have V:Lv M Wi ds b l h N C:=⟨rt,hb,hh,hl8,⟨by omega,by omega⟩,by omega,fun k hk=>(hneed k hk).1,fun k hk=>(hcap k hk).1,hc,F,Zmc hdok,hd20⟩
   have hfood:∀ c k,ds.length<k->q2f.f k ds c=some (Zq ds c:Int):=fun c k hk=>by rw[Zna ds Om c k hk,(ZQ F c).1]
   refine Or.inr ⟨rfl,hw0,N,C,V,fun k hk=>?_⟩
   have la:=(ZQ F a).2
   have hpk2:=ZXa a b (Zq ds a:Int) l h Om Om ⟨hb.1,by omega⟩ ⟨by omega,by omega⟩ (C:=C) Om V.room
   rw[Int.toNat_natCast] at hpk2
   have hwpos:0<ws.length:=by omega
   obtain⟨ys,hys⟩:=Zqb ws hws ds Om M Wi l hl8 (N:=N) (C:=C) (G:=30000) V.day V.cap Om hc V.need V.room (fun c=>(ZQ F c).2) hfood 4000000 0 a (b.toNat+min (C-b.toNat) (Zq ds a)) h [] Om hh (by
    have e1:(ws.drop (0+1)).length<=63:=by rw[List.length_drop];omega
    have e2:(ws.drop (0+1)).length * 30000<=63 * 30000:=Nat.mul_le_mul_right _ e1
    omega) Om Om (by simp)
   unfold q2v.f q3x.f q0z.f
   simp only[hk0 k Om,hk1 k Om,hway k Om,r1,rt,Ob,if_true,if_neg hwl,hfood a k Om,hpk2 k Om]
   rw[show ((0:Int))=((0:Nat):Int) from rfl,hys k Om]
   simp only[Nat.zero_add,Ob]
   cases Zy M Wi N C (Zq ds) 4000000 h (ws.drop 1) (b.toNat+min (C-b.toNat) (Zq ds a)) <;> rfl
 ·refine Or.inl ⟨fun q=>bad ⟨q.1,q.2.1,q.2.2.1⟩,fun k hk=>?_⟩
  unfold q2v.f q3x.f
  rw[r1]
  by_cases q1:Zo M Wi=true
  ·by_cases q2:d=true
   ·have q3:¬ p=true:=fun q3=>bad ⟨q1,q2,q3⟩
    simp only[hk0 k Om,hk1 k Om,q1,q2,q3,Ob,if_true,Bool.false_eq_true,if_false,List.length_nil]
    rfl
   ·simp only[hk0 k Om,q1,q2,Ob,if_true,Bool.false_eq_true,if_false,List.length_nil]
    rfl
  ·simp only[q1,Ob,Bool.false_eq_true,if_false,List.length_nil]
   rfl
theorem Zrc {W H:Int} {xs:List Int} (hx:xs.length<=64) {base M Wi:Int} {ds:List S59} (hds:ds.length<=100) {a b:Int} {l:List S95} (hl:l.length<=100) {h:List Bool} (hr:Zo M Wi=true)
  (hd:q0l.f 3000 W H xs ds=some true) (hp:q3n.f 3000 W H xs a b l h=some true) {ws:List Int} {n:Int} (Hm:Home W H xs base a ws n) (hne:ws≠[])
  (hleft:∀ N C,Lv M Wi ds b l h N C->∃ v,Zy M Wi N C (Zq ds) 4000000 h (ws.drop 1) (b.toNat+min (C-b.toNat) (Zq ds a))=some v):∀ k,5100000<k->q1a.f k W H xs base M Wi ds a b l h=some true:=by
 obtain⟨ws2,n2,d,p,H2,hk0,hk1,hor⟩:=Z3b W H xs hx base M Wi ds hds a b l hl h
 obtain⟨rfl,rfl⟩:=Zza Hm H2
 rw[hk0 3000 Om] at hd
 rw[hk1 3000 Om] at hp
 intro k hk
 rcases hor with ⟨no,_⟩|⟨_,_,N,C,V,hv⟩
 ·exact absurd ⟨hr,Option.some.inj hd,Option.some.inj hp,hne⟩ no
 ·obtain⟨v,e⟩:=hleft N C V
  unfold q1a.f
  rw[hv k hk,e]
  simp
theorem Zfb {W H:Int} {xs:List Int} (L:LandOk W H xs) (ds:List S59) (hds:ds.length<=20) (hok:∀ j,0<=j->j<(ds.length:Int)->okD (opn xs) ds j):∀ (e:Nat) (i:Int),0<=i->(ds.length:Int)-i=e->∀ k,100+e<k->q0l.l0 k ds ds (ds.length:Int) i W H xs=some true:=by
 intro e
 induction e with
 |zero =>
  intro i h0 hd k hk
  obtain⟨k,rfl⟩:∃ j,k=j+1:=⟨k-1,by omega⟩
  have hlt:¬ i<(ds.length:Int):=by omega
  have h20:(ds.length:Int)<=20:=by omega
  simp only[q0l.l0,if_neg hlt,(L.ev k Om).1,Ob,if_true,decide_eq_true h20]
 |succ e ih =>
  intro i h0 hd k hk
  obtain⟨k,rfl⟩:∃ j,k=j+1:=⟨k-1,by omega⟩
  have hlt:i<(ds.length:Int):=by omega
  have hw:wrap64 (i-1)=i-1:=Yw
  have hw2:wrap64 (i+1)=i+1:=Yw
  have ok:=hok i h0 hlt
  have e2:1<=(q0e ds i).f1/\(q0e ds i).f1<=10000:=ok.1.2
  have b1:=ih (i+1) Om Om k Om
  simp only[q0l.l0,if_pos hlt,if_pos h0,(Zk L (q0e ds i).f0 k Om).1,ok.1.1,Zb,Ob,decide_eq_true_eq,if_true,if_pos e2,hw,hw2]
  by_cases hi:i>0
  ·have h1:0<=i-1:=by omega
   have h2:i-1<(ds.length:Int):=by omega
   have h3:=ok.2 hi
   have h4:¬ (q0e ds i).f0<=(q0e ds (i-1)).f0:=by omega
   simp only[if_pos hi,if_pos h1,if_pos h2,if_neg h4]
   exact b1
  ·simp only[if_neg hi]
   exact b1
theorem Zqc {xs:List Int} {ds:List S59} (F:Fd ds) (ho:∀ d∈ds,opn xs d.f0=true) (ha:ds.Pairwise (fun x y=>x.f0<y.f0)):∀ j,0<=j->j<(ds.length:Int)->okD (opn xs) ds j:=by
 intro j h0 h1
 obtain⟨m,rfl⟩:∃ m:Nat,j=(m:Int):=⟨j.toNat,by omega⟩
 have hm:m<ds.length:=by omega
 have e:=ZW ds m hm
 have hd:ds[m]∈ds:=List.getElem_mem hm
 refine⟨⟨by rw[e];exact ho _ hd,by rw[e];exact F _ hd⟩,fun hp=>?_⟩
 rw[List.pairwise_iff_getElem] at ha
 have:=ha (m-1) m Om hm Om
 rw[show (m:Int)-1=((m-1:Nat):Int) by omega,ZW ds (m-1) Om,e]
 exact this
theorem ZY {c n:Int}:∀ {ds:List S59} {x:S59},x∈Ze c n ds->∃ d∈ds,x.f0=d.f0
 |[],x,h=>by simp[Ze] at h
 |d :: r,x,h=>by
  rw[Ze] at h
  have up:x∈Ze c n r->∃ d'∈d :: r,x.f0=d'.f0:=fun q=>by
   obtain⟨y,hy,e⟩:=ZY q
   exact⟨y,by simp[hy],e⟩
  by_cases q:d.f0=c
  ·rw[if_pos q] at h
   by_cases z:d.f1-n>0
   ·rw[if_pos z] at h
    rcases List.mem_cons.mp h with e|e
    ·exact⟨d,by simp,by rw[e]⟩
    ·exact up e
   ·rw[if_neg z] at h;exact up h
  ·rw[if_neg q] at h
   by_cases z:d.f1>0
   ·rw[if_pos z] at h
    rcases List.mem_cons.mp h with e|e
    ·exact⟨d,by simp,by rw[e]⟩
    ·exact up e
   ·rw[if_neg z] at h;exact up h
theorem Z1a {c n:Int}:∀ {ds:List S59},ds.Pairwise (fun x y=>x.f0<y.f0)->(Ze c n ds).Pairwise (fun x y=>x.f0<y.f0)
 |[],_=>by simp[Ze]
 |d :: r,h=>by
  obtain⟨h1,h2⟩:=List.pairwise_cons.mp h
  have ih:=Z1a (c:=c) (n:=n) h2
  have hd:∀ z:Int,z=d.f0->∀ y∈Ze c n r,z<y.f0:=fun z e y hy=>by
   obtain⟨d',hd',e'⟩:=ZY hy
   have:=h1 d' hd'
   omega
  rw[Ze]
  by_cases q:d.f0=c
  ·rw[if_pos q]
   by_cases z:d.f1-n>0
   ·rw[if_pos z];exact List.pairwise_cons.mpr ⟨hd _ rfl,ih⟩
   ·rw[if_neg z];exact ih
  ·rw[if_neg q]
   by_cases z:d.f1>0
   ·rw[if_pos z];exact List.pairwise_cons.mpr ⟨hd _ rfl,ih⟩
   ·rw[if_neg z];exact ih
theorem ZKa {c:Int}:∀ {ds:List S59},(∀ d∈ds,d.f0≠c)->Zi c ds=0
 |[],_=>rfl
 |d :: r,h=>by
  rw[Zi,if_neg (h d (by simp))]
  exact ZKa (fun x hx=>h x (by simp[hx]))
theorem Ztb {ds:List S59} (F:Fd ds) (a n:Int) {c:Int} (hc:c≠a):Zi c (Ze a n ds)=Zi c ds:=by
 induction ds with
 |nil=>rfl
 |cons d r ih =>
  have f1:=F d (by simp)
  have ih2:=ih (fun x hx=>F x (by simp[hx]))
  rw[Ze]
  by_cases q:d.f0=a
  ·have hd:¬ d.f0=c:=by omega
   rw[if_pos q]
   by_cases z:d.f1-n>0
   ·rw[if_pos z,Zi,Zi,if_neg hd,if_neg hd,ih2]
   ·rw[if_neg z,Zi,if_neg hd,ih2]
  ·rw[if_neg q,if_pos (show d.f1>0 by omega),Zi,Zi,ih2]
theorem Zzb {ds:List S59} (F:Fd ds) (ha:ds.Pairwise (fun x y=>x.f0<y.f0)) (a:Int) {n:Int} (hn:1<=n) (hn2:n<=Zi a ds):Zi a (Ze a n ds)=Zi a ds-n:=by
 induction ds with
 |nil=>simp[Zi] at hn2;omega
 |cons d r ih =>
  obtain⟨h1,h2⟩:=List.pairwise_cons.mp ha
  have f1:=F d (by simp)
  rw[Zi] at hn2
  rw[Ze,Zi]
  by_cases q:d.f0=a
  ·rw[if_pos q] at hn2
   rw[if_pos q,if_pos q]
   by_cases z:d.f1-n>0
   ·rw[if_pos z,Zi,if_pos q]
   ·rw[if_neg z,ZKa (fun x hx=>by
     obtain⟨d',hd',e'⟩:=ZY hx
     have:=h1 d' hd'
     omega)]
    omega
  ·rw[if_neg q] at hn2
   rw[if_neg q,if_neg q,if_pos (show d.f1>0 by omega),Zi,if_neg q,ih (fun x hx=>F x (by simp[hx])) h2 hn2]
theorem Z7 (M W:Int) (N C:Nat) {D D2:Int->Nat}:∀ (f:Nat) (h:List Bool) (cs:List Int) (b:Nat),(∀ c∈cs,D c=D2 c)->Zy M W N C D f h cs b=Zy M W N C D2 f h cs b
 |0,_,_,_,_=>by rw[Zy,Zy]
 |f+1,h,[],b,_=>by rw[Zy,Zy]
 |f+1,h,c :: cs,b,e=>by
  rw[Zy,Zy,Z7 M W N C f (Zn h true) (c :: cs) (b-N) e,e c (by simp),Z7 M W N C f (Zn h false) cs _ (fun x hx=>e x (by simp[hx]))]
theorem ZLa {W H:Int} {xs:List Int} (hx:xs.length<=1048576) {base:Int}:∀ (m:Nat) (a:Int) (ws:List Int) (n:Int),Home W H xs base a ws n->ws.length=m+1->∀ c∈ws.drop 1,∃ ws2 n2,Home W H xs base c ws2 n2/\n2<n
 |0,a,ws,n,h,hl,c,hc=>by
  rw[List.drop_eq_nil_of_le Om] at hc
  cases hc
 |m+1,a,ws,n,h,hl,c,hc=>by
  have hne:ws≠[]:=fun e=>by rw[e] at hl;cases hl
  have ha:a≠base:=fun e=>by have:=(h.yes hne).2.mp e;omega
  obtain⟨_,ws',h2,el,hne2⟩:=ZHb hx h hne ha
  obtain⟨y,t,rfl⟩:∃ y t,ws'=y :: t:=by
   cases ws' with
   |nil=>exact absurd rfl hne2
   |cons y t=>exact⟨y,t,rfl⟩
  have ex:rd ws 1=y:=by rw[el];rfl
  rw[ex] at h2
  rw[el,List.drop_one,List.tail_cons] at hc
  rcases List.mem_cons.mp hc with e|e
  ·rw[e];exact⟨_,_,h2,by omega⟩
  ·obtain⟨ws2,n2,q1,q2⟩:=ZLa hx m y (y :: t) (n-1) h2 (by rw[el] at hl;simpa using hl) c (by simpa using e)
   exact⟨ws2,n2,q1,by omega⟩
theorem Z1b {W H:Int} {xs:List Int} (hx:xs.length<=1048576) {base a:Int} {ws:List Int} {n:Int} (h:Home W H xs base a ws n):∀ c∈ws.drop 1,c≠a:=by
 intro c hc e
 have hl:ws.length≠0:=fun z=>by rw[List.eq_nil_of_length_eq_zero z] at hc;cases hc
 obtain⟨ws2,n2,q1,q2⟩:=ZLa hx (ws.length-1) a ws n h Om c hc
 rw[e] at q1
 have:=(Zza h q1).2
 omega
theorem Z8b {M Wi:Int} {ds ds2:List S59} {b b2:Int} {l:List S95} {h h2:List Bool} {N C N2 C2:Nat} (V:Lv M Wi ds b l h N C) (V2:Lv M Wi ds2 b2 l h2 N2 C2):N2=N/\C2=C:=by
 have e1:=V.need (2 * l.length+4) Om
 rw[V2.need (2 * l.length+4) Om] at e1
 have e2:=V.room (3 * l.length+4) Om
 rw[V2.room (3 * l.length+4) Om] at e2
 have:=Option.some.inj e1
 have:=Option.some.inj e2
 omega
theorem ZSb {W H:Int} {xs:List Int} {l:List S95} {a b:Int} {h:List Bool} (hl:l.length<=100) (hg:∀ k,l.length<k->q0u.f k l=some true) (hb:0<=b/\b<=10000) (hh:h.length<=10) (ho:q1r.f 3000 W H xs a=some true):q3n.f 3000 W H xs a b l h=some true:=by
 unfold q3n.f
 rw[ho,hg 3000 Om]
 simp only[Ob,if_true,Zb,hb,and_self,decide_true]
 have:(h.length:Int)<=10:=by omega
 simp[this]
theorem Z6a {W H:Int} {xs:List Int} (hx:xs.length<=64) {base M Wi:Int} {ds:List S59} (hds:ds.length<=100) {a b:Int} {l:List S95} (hl:l.length<=100) {h:List Bool} (hc:q1a.f 5100001 W H xs base M Wi ds a b l h=some true) :
  LandOk W H xs/\ds.length<=20/\(∀ j,0<=j->j<(ds.length:Int)->okD (opn xs) ds j)/\∃ ws n0 N C,Home W H xs base a ws n0/\ws≠[]/\Lv M Wi ds b l h N C/\∃ v,Zy M Wi N C (Zq ds) 4000000 h (ws.drop 1) (b.toNat+min (C-b.toNat) (Zq ds a))=some v:=by
 obtain⟨ws,n,d,p,Hm,hk0,hk1,hor⟩:=Z3b W H xs hx base M Wi ds hds a b l hl h
 unfold q1a.f at hc
 rcases hor with ⟨_,hv⟩|⟨rfl,hne,N,C,V,hv⟩
 ·rw[hv 5100001 Om] at hc
  simp at hc
 ·rw[hv 5100001 Om] at hc
  have L:LandOk W H xs:=by
   rcases ZD W H xs Om with L|no
   ·exact L
   ·have e1:=Hm.way (xs.length+1001) Om
    rw[(Z4 a base _ (no _ Om)).1] at e1
    exact absurd (Option.some.inj e1).symm hne
  have E:LandEv W H xs (xs.length+1000) true (opn xs):=⟨fun k hk=>L.ev k Om,fun m k hk=>Zk L m k Om⟩
  obtain⟨d2,hd2,hk2⟩:=Zt E ds Om ds.length 0 Om Om
  have e0:=(hk2 2001 Om).1
  have e3:=hk0 2001 Om
  unfold q0l.f at e3
  rw[e0] at e3
  obtain⟨q1,q2⟩:=hd2 (Option.some.inj e3)
  cases hl2:Zy M Wi N C (Zq ds) 4000000 h (ws.drop 1) (b.toNat+min (C-b.toNat) (Zq ds a)) with
  |none=>rw[hl2] at hc;simp at hc
  |some v=>exact⟨L,q1,q2,ws,n,N,C,Hm,hne,V,v,hl2⟩
theorem ZYb {W H:Int} {xs:List Int} (hx:xs.length<=64) {base M Wi:Int} {ds:List S59} (hds:ds.length<=100) {a b:Int} {l:List S95} (hl:l.length<=100) {h:List Bool} (hc:q1a.f 5100001 W H xs base M Wi ds a b l h=some true)
  {n:Int} (hn:1<=n) (hn2:n<=Zi a ds) (hn3:∀ C:Nat,(∀ k,3 * l.length+3<k->q2p.f k l=some (C:Int))->n<=(C:Int)-b) :
  (0<=b/\b+n<=800)/\Fd ds/\Fd (Ze a n ds)/\ds.length<=20/\(Ze a n ds).length<=20/\Zf (Ze a n ds)=Zf ds-n/\∀ k,5100000<k->q1a.f k W H xs base M Wi (Ze a n ds) a (b+n) l h=some true:=by
 obtain⟨L,h20,hok,ws,n0,N,C,Hm,hne,V,v,hv⟩:=Z6a hx hds hl hc
 have hroom:=hn3 C V.room
 have hbf:=V.food
 have hC:=V.cap
 have hl8:=V.crew
 have F:=V.fd
 obtain⟨F2,hl2⟩:=Zdc F a (n:=n) Om
 have ho:∀ d∈ds,opn xs d.f0=true:=fun d hd=>by
  obtain⟨j,hj,e⟩:=ZCb ds d hd
  have:=(hok (j:Int) Om Om).1.1
  rwa [e] at this
 have ho2:∀ d∈Ze a n ds,opn xs d.f0=true:=fun d hd=>by
  obtain⟨d',hd',e⟩:=ZY hd
  rw[e];exact ho d' hd'
 have ok2:=Zqc F2 ho2 (Z1a V.asc)
 have hdep:q0l.f 3000 W H xs (Ze a n ds)=some true:=by
  unfold q0l.f
  exact Zfb L _ Om ok2 (Ze a n ds).length 0 Om Om 3000 Om
 refine⟨by omega,F,F2,h20,by omega,ZMb F V.asc a hn hn2,?_⟩
 refine Zrc hx Om Om V.rule hdep (ZSb Om V.good Om V.past (Hm.op hne 3000 Om)) Hm hne ?_
 intro N2 C2 V2
 obtain⟨rfl,rfl⟩:=Z8b V V2
 have hD:∀ c∈ws.drop 1,Zq (Ze a n ds) c=Zq ds c:=fun c hc2=>by
  unfold Zq
  rw[Ztb F a n (Z1b Om Hm c hc2)]
 have hla:=ZQ F a
 have e2:Zq (Ze a n ds) a+n.toNat=Zq ds a:=by
  have:=Zzb F V.asc a hn hn2
  unfold Zq
  rw[this]
  omega
 have e3:(b+n).toNat+min (C2-(b+n).toNat) (Zq (Ze a n ds) a)=b.toNat+min (C2-b.toNat) (Zq ds a):=by omega
 rw[e3,Z7 M Wi N2 C2 4000000 h (ws.drop 1) _ hD]
 exact⟨v,hv⟩
theorem Zwb (ds:List S59) (hds:ds.length<=1000):∀ (e:Nat) (i acc:Int),0<=i->(ds.length:Int)-i=e->∃ v,∀ k,e<k->q2b.l0 k acc ds (ds.length:Int) i=some v:=by
 intro e
 induction e with
 |zero =>
  intro i acc h0 he
  refine⟨acc,fun k hk=>?_⟩
  obtain⟨k,rfl⟩:=Yk k
  rw[q2b.l0,if_neg Om]
 |succ e ih =>
  intro i acc h0 he
  have hlt:i<(ds.length:Int):=by omega
  have hw:wrap64 (i+1)=i+1:=Yw
  obtain⟨v,hv⟩:=ih (i+1) (wrap64 (acc+(mn (mx ((q0e ds i).f1) 0) 10000))) Om Om
  refine⟨v,fun k hk=>?_⟩
  obtain⟨k,rfl⟩:=Yk k
  rw[q2b.l0,if_pos hlt,if_pos h0,if_pos hlt,hw]
  exact hv k Om
theorem ZIa (ds:List S59) (hds:ds.length<=1000) (a b:Int) (l:List S95) (h:List Bool):∃ v,∀ k,1000<k->q1p.f k ds a b l h=some v:=by
 obtain⟨v,hv⟩:=Zwb ds hds ds.length 0 0 Om Om
 refine⟨wrap64 (v+mn (mx b 0) 10000),fun k hk=>?_⟩
 unfold q1p.f q2b.f
 rw[hv k Om];rfl
theorem Z5 {ds:List S59} (hds:ds.length<=1000) (F:Fd ds) (a:Int) {b:Int} (hb:0<=b/\b<=10000) (l:List S95) (h:List Bool) (k:Nat) (hk:1000<k):q1p.f k ds a b l h=some (wrap64 (Zf ds+b)):=by
 have hm:mn (mx b 0) 10000=b:=by unfold mn mx;split <;> split <;> omega
 unfold q1p.f
 rw[ZKb ds hds F k Om,Ob,hm]
theorem Zcc {W H:Int} {xs:List Int} (hx:xs.length<=64) (base M Wi:Int) (ds:List S59) (hds:ds.length<=100) (a b:Int) (l:List S95) (hl:l.length<=100) (h:List Bool) (hh:h.length<=100) (n:Int) :
  ∃ c D,(∀ k,5200000<k->q0x.f k W H xs base M Wi ds a b l h n=some c/\q6d.f k W H xs base M Wi ds a b l h n=some (if c=true then(a,wrap64 (b-n),l,h,D,true) else(a,b,l,h,ds,false))/\∃ p1 p2 p3 p4 p5,q6b.f k W H xs base M Wi ds a b l h n=some (p1,p2,p3,p4,p5,c)) /\
  (c=true->(1<=n/\n<=b/\b<=10000)/\Zf D=Zf ds+n/\Fd D/\Fd ds/\ds.length<=20/\D.length<=21/\∀ k,5200000<k->q1a.f k W H xs base M Wi D a (wrap64 (b-n)) l h=some true):=by
 obtain⟨lb,oc,A⟩:=ZO W H xs Om
 obtain⟨c1,c2⟩:=Zr a b l h Om Om
 obtain⟨c,hc⟩:=Z6 A base M Wi ds Om a b l Om h Om n
 obtain⟨D,o,hdo,hdl,hsum,hlay⟩:=Zhb A.toLandEv ds Om a n
 obtain⟨c0,hc0⟩:=Zw A base M Wi ds Om a b l Om h
 obtain⟨e,he⟩:=Zw A base M Wi D Om a (wrap64 (b-n)) l Om h
 have ey:([]:List S59).length+ds.length<8796093022208:=by simp;omega
 refine⟨c,D,fun k hk=>⟨(hc k Om).1,?_,?_⟩,fun ec=>?_⟩
 ·unfold q6d.f
  rw[(hc k Om).1,Ob]
  cases c with
  |true=>simp only[if_true,(hlay k Om).1,Ob,q2h.f,c1]
  |false=>simp only[Bool.false_eq_true,if_false,c1,Ob,ZT ds Om]
 ·unfold q6b.f
  rw[c2,Ob,(hc k Om).2,Ob]
  cases c with
  |true =>
   refine⟨a,wrap64 (b-n),l,h,D,?_⟩
   simp only[if_true,(hlay k Om).2,Ob]
  |false =>
   refine⟨a,b,l,h,[]++ds,?_⟩
   simp only[Bool.false_eq_true,if_false,Ob,if_pos ey]
 ·subst ec
  have q:=(hc 5200002 Om).1
  unfold q0x.f at q
  rw[(hc0 5200002 Om).1,Ob] at q
  cases c0 with
  |false=>simp[q0x.j0] at q
  |true =>
   rw[if_pos rfl,Zb,Ob] at q
   by_cases g:1<=n/\n<=b
   ·rw[decide_eq_true g,Bool.not_true,q0x.j0,if_neg Bool.false_ne_true,(hlay 5200001 Om).1,Ob] at q
    cases o with
    |false=>rw[if_neg Bool.false_ne_true] at q;cases q
    |true =>
     rw[if_pos rfl] at q
     unfold q2h.f at q
     rw[c1] at q
     simp only[Ob] at q
     rw[(he 5200001 Om).1] at q
     obtain rfl:e=true:=by simpa using q
     have k1:q1a.f 5100001 W H xs base M Wi ds a b l h=some true:=(hc0 5100001 Om).1
     have k2:q1a.f 5100001 W H xs base M Wi D a (wrap64 (b-n)) l h=some true:=(he 5100001 Om).1
     obtain⟨_,h20,_,ws,n0,N,C,_,_,V,_⟩:=Z6a hx hds hl k1
     obtain⟨_,_,_,ws2,n2,N2,C2,_,_,V2,_⟩:=Z6a hx Om hl k2
     have:=V.food
     exact⟨⟨g.1,g.2,by omega⟩,hsum rfl,V2.fd,V.fd,h20,by omega,fun k hk=>(he k Om).1⟩
   ·rw[decide_eq_false g,Bool.not_false,q0x.j0,if_pos rfl] at q;cases q
theorem ZQb {W H:Int} {xs:List Int} (hx:xs.length<=64) (base M Wi:Int) (ds:List S59) (hds:ds.length<=100) (a b:Int) (l:List S95) (hl:l.length<=100) (h:List Bool) (hh:h.length<=100) (n:Int) :
  ∃ t D,(∀ k,5200000<k->q2o.f k W H xs base M Wi ds a b l h n=some (if t=true then(a,b+n,l,h,D,true) else(a,b,l,h,ds,false))) /\
  (t=true->(0<=b/\1<=n/\b+n<=800)/\Zf D=Zf ds-n/\Fd D/\Fd ds/\ds.length<=20/\D.length<=20/\∀ k,5200000<k->q1a.f k W H xs base M Wi D a (b+n) l h=some true):=by
 obtain⟨lb,oc,A⟩:=ZO W H xs Om
 obtain⟨c1,c2⟩:=Zr a b l h Om Om
 obtain⟨d,hd,hdk⟩:=Zt A.toLandEv ds Om ds.length 0 Om Om
 obtain⟨c0,hc0⟩:=Zw A base M Wi ds Om a b l Om h
 obtain⟨R,hR,hroom⟩:=Zob a b l h Om
 have hk0:∀ k,2000<k->q0l.f k W H xs ds=some d:=fun k hk=>(hdk k Om).1
 have no:∀ (k:Nat) (y:List S59),q2o.j0 (k+1) ds n y true a b l h=some (a,b,l,h,ds,false):=fun k y=>by
  simp only[q2o.j0,if_true,c1,Ob,ZT ds Om]
 by_cases g:d=true/\1<=n/\n<=Zi a ds
 ·obtain⟨rfl,hn,hn2⟩:=g
  have F:=Z4b (hd rfl).2
  have hfb:=ZQa F a
  have ht:∀ k,3000<k->q2u.f k W H xs ds a n=some (Ze a n ds,true):=fun k hk=>by
   obtain⟨k,rfl⟩:=Yk k
   unfold q2u.f
   rw[hk0 (k+1) Om,Ob,if_pos rfl,Zna ds Om a (k+1) Om,Ob,Zb,Ob,decide_eq_true ⟨hn,hn2⟩,Bool.not_true,q2u.j0,if_neg Bool.false_ne_true]
   exact ZR ds Om F a n Om ds.length 0 [] Om (by simp) k Om
  by_cases g2:c0=true/\n<=R
  ·obtain⟨rfl,hnR⟩:=g2
   obtain⟨q1,q2,q3,q4,q5,q6,q7⟩:=ZYb hx hds hl (hc0 5100001 Om).1 hn hn2 (fun C hC=>hR n C hn hnR hC)
   have hw:wrap64 (b-wrap64 (-n))=b+n:=Yw
   refine⟨true,Ze a n ds,fun k hk=>?_,fun _=>⟨by omega,q6,q3,q2,q4,q5,fun k hk=>q7 k Om⟩⟩
   obtain⟨k,rfl⟩:=Yk k
   have hng:decide (n>R)=false:=by rw[decide_eq_false_iff_not];omega
   unfold q2o.f
   rw[ht (k+1) Om,Ob,if_pos rfl,(hc0 (k+1) Om).1,Ob,if_pos rfl,(hroom (k+1) Om).1,Ob,hng]
   simp only[q2o.j0,Bool.false_eq_true,if_false,q2h.f,c1,Ob,hw,if_true]
  ·refine⟨false,ds,fun k hk=>?_,fun e=>by cases e⟩
   obtain⟨k,rfl⟩:=Yk k
   unfold q2o.f
   rw[ht (k+1) Om,Ob,if_pos rfl,(hc0 (k+1) Om).1,Ob]
   cases c0 with
   |false=>rw[if_neg Bool.false_ne_true,no];rfl
   |true =>
    have hng:decide (n>R)=true:=by rw[decide_eq_true_eq];by_cases q:n<=R;exact absurd ⟨rfl,q⟩ g2;omega
    rw[if_pos rfl,(hroom (k+1) Om).1,Ob,hng,no];rfl
 ·refine⟨false,ds,fun k hk=>?_,fun e=>by cases e⟩
  obtain⟨k,rfl⟩:=Yk k
  have ht:q2u.f (k+1) W H xs ds a n=some (ds,false):=by
   unfold q2u.f
   rw[hk0 (k+1) Om,Ob]
   by_cases q:d=true
   ·have q2:¬ (1<=n/\n<=Zi a ds):=fun z=>g ⟨q,z⟩
    rw[if_pos q,Zna ds Om a (k+1) Om,Ob,Zb,Ob,decide_eq_false q2,Bool.not_false,q2u.j0,if_pos rfl,ZT ds Om];rfl
   ·rw[if_neg q,q2u.j0,if_pos rfl,ZT ds Om];rfl
  unfold q2o.f
  rw[ht,Ob,if_neg Bool.false_ne_true,no];rfl
structure Valid (W H:Int) (xs:List Int) (K:Nat) (oc:Int->Bool) (base M Wi:Int) (ds:List S59) (a b:Int) (l:List S95) (h:List Bool) (ws:List Int):Prop where
 rule:Zo M Wi=true
 dep:∀ k,K+ds.length+1<k->q0l.f k W H xs ds=some true/\q0m.f k W H xs ds=some true
 dep20:ds.length<=20
 party:∀ k,K+l.length<k->q3n.f k W H xs a b l h=some true/\q4p.f k W H xs a b l h=some true
 crew:∀ k,l.length<k->q0u.f k l=some true
 crew8:l.length<=8
 food:0<=b/\b<=10000
 past:h.length<=10
 wlen:ws.length<=64
 wne:ws≠[]
 way:∀ k,K<k->q1v.f k W H xs a base=some ws/\q1u.f k W H xs a base=some ws
theorem Zrb {W H:Int} {xs:List Int} {K:Nat} {lb:Bool} {oc:Int->Bool} (E:LandEv W H xs K lb oc) (a b b':Int) (l:List S95) (h:List Bool) (hl:l.length<=8) (hb:0<=b/\b<=10000) (hb':0<=b'/\b'<=10000)
  (hp:∀ k,K+l.length<k->q3n.f k W H xs a b l h=some true/\q4p.f k W H xs a b l h=some true) :
  ∀ k,K+l.length<k->q3n.f k W H xs a b' l h=some true/\q4p.f k W H xs a b' l h=some true:=by
 intro k hk
 have q:=hp k hk
 unfold q3n.f q4p.f at q ⊢
 obtain⟨o1,o2⟩:=E.open_ a k Om
 obtain⟨c,hc,_⟩:=ZM l Om
 simp only[o1,o2,(hc k Om).1,(hc k Om).2,Ob,Zb,Zg,decide_eq_true hb,decide_eq_true hb'] at q ⊢
 exact q
theorem ZPa {W H:Int} {xs:List Int} {K:Nat} {lb:Bool} {oc:Int->Bool} (A:LandAll W H xs K lb oc) {base M Wi:Int} {ds:List S59} {a b:Int} {l:List S95} {h:List Bool} {ws:List Int} (V:Valid W H xs K oc base M Wi ds a b l h ws) :
  ∃ v ok ys,(ok=true->0<=v)/\∀ k,K+ds.length+l.length+3000000<k->q3x.f k W H xs base M Wi ds a b l h=some ws/\q0z.f k ws M Wi ds a b l h=some (v,ys,ok) /\
   q1a.f k W H xs base M Wi ds a b l h=some ok/\q2y.f k W H xs base M Wi ds a b l h=some ok:=by
 obtain⟨r1,r2⟩:=ZB M Wi
 have rt:=V.rule
 have hd20:=V.dep20
 have hl8:=V.crew8
 have hb:=V.food
 have hwl:¬ (ws.length:Int)=0:=by
  intro e
  exact V.wne (List.eq_nil_of_length_eq_zero Om)
 obtain⟨n,hn⟩:=ZS ds Om a
 obtain⟨b',o,hb',hpu⟩:=ZL a b n l h Om (by have:=V.past;omega) ⟨hb.1,by omega⟩
 obtain⟨v,ok,ys,hv,w1,w2⟩:=Zsa ws V.wlen ds hd20 M Wi l hl8 V.crew 2000000 0 a b' h [] Om Om V.past Om Om Om (by simp)
 refine⟨v,ok,ys,hv,fun k hk=>?_⟩
 obtain⟨k,rfl⟩:∃ j,k=j+1:=⟨k-1,by omega⟩
 have hk0:=V.dep (k+1) Om
 have hk1:=V.party (k+1) Om
 have hk2:=V.way (k+1) Om
 have w2':=w2 k Om
 have w1':=w1 (k+1) Om
 have hbq:((ws.length:Int)==0)=false:=beq_eq_false_iff_ne.mpr hwl
 rw[show (0:Int)+1=1 from rfl] at w2'
 have e1:q3x.f (k+1) W H xs base M Wi ds a b l h=some ws:=by
  unfold q3x.f
  simp only[hk0.1,hk1.1,hk2.1,r1,rt,Ob,if_true]
 have e2:q0z.f (k+1) ws M Wi ds a b l h=some (v,ys,ok):=by
  unfold q0z.f
  simp only[(hn (k+1) Om).1,(hpu (k+1) Om).1,Ob,w1']
 refine⟨e1,e2,?_,?_⟩
 ·unfold q1a.f q2v.f
  simp only[e1,e2,Ob,if_neg hwl]
  cases ok with
  |true=>simp[hv rfl]
  |false=>simp
 ·unfold q2y.f q0o.f
  simp only[hk0.2,hk1.2,hk2.2,r2,rt,Ob,if_true,hbq,q0o.j0,Bool.false_eq_true,if_false,(hn k Om).2,(hpu k Om).2,w2']
  cases ok with
  |true=>simp[hv rfl]
  |false=>simp
theorem ZGb {W H:Int} {xs:List Int} {K:Nat} {lb:Bool} {oc:Int->Bool} (A:LandAll W H xs K lb oc) (base M Wi:Int) (ds:List S59) (hds:ds.length<=1048576) (a b:Int) (l:List S95) (hl:l.length<=1048576) (h:List Bool) :
  (∃ ws,Valid W H xs K oc base M Wi ds a b l h ws)\/∀ k,K+ds.length+l.length+3000000<k->q3x.f k W H xs base M Wi ds a b l h=some []/\q1a.f k W H xs base M Wi ds a b l h=some false/\q2y.f k W H xs base M Wi ds a b l h=some false:=by
 obtain⟨ws,hws,hway⟩:=A.way a base
 obtain⟨r1,r2⟩:=ZB M Wi
 obtain⟨d,hd,hdk⟩:=Zt A.toLandEv ds hds ds.length 0 Om Om
 obtain⟨p,hp,hpk⟩:=Zla A.toLandEv a b l h hl
 by_cases bad:(Zo M Wi=true/\d=true/\p=true)/\ws≠[]
 ·obtain⟨⟨rt,rfl,rfl⟩,hne⟩:=bad
  obtain⟨_,hl8,hb,hh,hc⟩:=hp rfl
  exact .inl ⟨ws,rt,hdk,(hd rfl).1,hpk,hc,hl8,hb,hh,hws,hne,hway⟩
 ·refine .inr fun k hk=>?_
  obtain⟨k,rfl⟩:∃ j,k=j+1:=⟨k-1,by omega⟩
  have hk0:=hdk (k+1) Om
  have hk1:=hpk (k+1) Om
  have hk2:=hway (k+1) Om
  have e1:q3x.f (k+1) W H xs base M Wi ds a b l h=some []:=by
   unfold q3x.f q0l.f
   simp only[hk0.1,hk1.1,hk2.1,r1,Ob]
   by_cases c1:Zo M Wi=true
   ·cases d with
    |false=>simp[c1]
    |true =>
     cases p with
     |false=>simp[c1]
     |true =>
      have hw0:ws=[]:=by
       by_cases q:ws=[]
       ·exact q
       ·exact absurd ⟨⟨c1,rfl,rfl⟩,q⟩ bad
      simp[c1,hw0]
   ·simp[c1]
  refine⟨e1,?_,?_⟩
  ·unfold q1a.f q2v.f
   rw[e1];simp
  ·unfold q2y.f q0o.f q0m.f
   simp only[hk0.2,hk1.2,hk2.2,r2,Ob,q0o.j0]
   by_cases c1:Zo M Wi=true
   ·cases d with
    |false=>simp[c1]
    |true =>
     cases p with
     |false=>simp[c1]
     |true =>
      have hw0:ws=[]:=by
       by_cases q:ws=[]
       ·exact q
       ·exact absurd ⟨⟨c1,rfl,rfl⟩,q⟩ bad
      simp[c1,hw0]
   ·simp[c1]
theorem ZTb {W H:Int} {xs:List Int} {K:Nat} {lb:Bool} {oc:Int->Bool} (A:LandAll W H xs K lb oc) {base M Wi:Int} {ds:List S59} {a b:Int} {l:List S95} {h:List Bool} {ws:List Int} (V:Valid W H xs K oc base M Wi ds a b l h ws)
  (hc:∀ k,K+ds.length+l.length+3000000<k->q2y.f k W H xs base M Wi ds a b l h=some true) (n:Int) (hn:1<=n/\n<=b) :
  ∃ c,(∀ k,K+3000800<k->q2d.f k W H xs base M Wi ds a b l h n=some c) /\
   ∀ k,K+3000800<k->∀ (r:Option Int),((q1e.f k W H xs ds a n).bind fun bt=>(if bt.2=true then((q2h.f a b l h n).bind fun bt1=>((q0z.f k ws M Wi bt.1 bt1.1 bt1.2.1 bt1.2.2.1 bt1.2.2.2).bind fun bt2=>(if bt2.2.2=true then(some n) else r))) else r))=if c=true then some n else r:=by
 have hd20:=V.dep20
 have hl8:=V.crew8
 have hb:=V.food
 have hp:=V.past
 obtain⟨c1,c2⟩:=Zr a b l h Om Om
 obtain⟨d,o,hdo,hdl,hlay⟩:=Z4a A.toLandEv ds Om a n
 cases o with
 |false =>
  refine⟨false,fun k hk=>?_,fun k hk r=>?_⟩
  ·obtain⟨k,rfl⟩:∃ j,k=j+1:=⟨k-1,by omega⟩
   unfold q2d.f
   rw[hc (k+1) Om]
   simp only[Ob,Zg,decide_eq_true hn,if_true,q2d.j0,Bool.not_true,Bool.false_eq_true,if_false,(hlay k Om).2,c2]
  ·rw[(hlay k Om).1];rfl
 |true =>
  obtain⟨h20,hdep⟩:=hdo rfl
  have hw:wrap64 (b-n)=b-n:=Yw
  have V2:Valid W H xs K oc base M Wi d a (b-n) l h ws :=
   ⟨V.rule,hdep,h20,Zrb A.toLandEv a b (b-n) l h hl8 hb Om V.party,V.crew,hl8,by omega,hp,V.wlen,V.wne,V.way⟩
  obtain⟨v,ok,ys,hv,hr⟩:=ZPa A V2
  refine⟨ok,fun k hk=>?_,fun k hk r=>?_⟩
  ·obtain⟨k,rfl⟩:∃ j,k=j+1:=⟨k-1,by omega⟩
   unfold q2d.f
   rw[hc (k+1) Om]
   simp only[Ob,Zg,decide_eq_true hn,if_true,q2d.j0,Bool.not_true,Bool.false_eq_true,if_false,(hlay k Om).2,c2,hw,(hr k Om).2.2.2]
  ·rw[(hlay k Om).1]
   simp only[Ob,if_true,q2h.f,c1,hw,(hr k Om).2.1]
theorem Zkb {W H:Int} {xs:List Int} {K:Nat} {lb:Bool} {oc:Int->Bool} (A:LandAll W H xs K lb oc) {base M Wi:Int} {ds:List S59} {a b:Int} {l:List S95} {h:List Bool} {ws:List Int} (V:Valid W H xs K oc base M Wi ds a b l h ws)
  (hc:∀ k,K+ds.length+l.length+3000000<k->q2y.f k W H xs base M Wi ds a b l h=some true):∀ (e:Nat) (n:Int),n=e->n<=b ->
  ∃ v,(0<=v/\v<=n)/\(∀ k,K+3000800+e+1<k->q1g.l0 k ds ws n W H xs M Wi a b l h=some v)/\(0<v->∀ k,K+3000800<k->q2d.f k W H xs base M Wi ds a b l h v=some true) /\
  ∀ n',n'<=n->(∀ k,K+3000800<k->q2d.f k W H xs base M Wi ds a b l h n'=some true)->n'<=v
 |0,n,hn,_=>by
  refine⟨0,by omega,fun k hk=>?_,fun h=>by omega,fun n' h1 _=>by omega⟩
  obtain⟨k,rfl⟩:∃ j,k=j+1:=⟨k-1,by omega⟩
  have g1:¬ n>=1:=by omega
  rw[q1g.l0,if_neg g1]
 |e+1,n,hn,hb=>by
  have g1:n>=1:=by omega
  have hbb:=V.food
  have hw:wrap64 (n-1)=n-1:=Yw
  obtain⟨v,hv0,hv,hv1,hv2⟩:=Zkb A V hc e (n-1) Om Om
  obtain⟨c,hs,hi⟩:=ZTb A V hc n ⟨by omega,hb⟩
  cases c with
  |true =>
   refine⟨n,by omega,fun k hk=>?_,fun _=>hs,fun n' h1 _=>h1⟩
   obtain⟨k,rfl⟩:∃ j,k=j+1:=⟨k-1,by omega⟩
   rw[q1g.l0,if_pos g1,hi k Om,if_pos rfl]
  |false =>
   refine⟨v,by omega,fun k hk=>?_,hv1,fun n' h1 h2=>?_⟩
   ·obtain⟨k,rfl⟩:∃ j,k=j+1:=⟨k-1,by omega⟩
    rw[q1g.l0,if_pos g1,hw,hv k Om,hi k Om,if_neg Bool.false_ne_true]
   ·by_cases q:n'=n
    ·have e1:=h2 (K+3000801) Om
     rw[q,hs (K+3000801) Om] at e1
     cases e1
    ·exact hv2 n' Om h2
theorem ZXb {W H:Int} {xs:List Int} (hx:xs.length<=64) (base M Wi:Int) (ds:List S59) (hds:ds.length<=100) (a b:Int) (l:List S95) (hl:l.length<=100) (h:List Bool) (hh:h.length<=100) :
  ∃ m,0<=m/\(∀ k,5200000<k->q1g.f k W H xs base M Wi ds a b l h=some m)/\(0<m->∀ k,5200000<k->q0x.f k W H xs base M Wi ds a b l h m=some true)/\∀ n,(∀ k,5200000<k->q0x.f k W H xs base M Wi ds a b l h n=some true)->n<=b->n<=m:=by
 obtain⟨lb,oc,A⟩:=ZO W H xs Om
 obtain⟨c0,hc0⟩:=Zw A base M Wi ds Om a b l Om h
 have may:∀ n,∃ c,∀ k,3100000<k->q0x.f k W H xs base M Wi ds a b l h n=some c/\q2d.f k W H xs base M Wi ds a b l h n=some c:=fun n=>by
  obtain⟨c,hc⟩:=Z6 A base M Wi ds Om a b l Om h Om n
  exact⟨c,fun k hk=>hc k Om⟩
 have none_:c0=false->∀ ws,(∀ k,3100000<k->q3x.f k W H xs base M Wi ds a b l h=some ws)->∃ m,0<=m/\(∀ k,5200000<k->q1g.f k W H xs base M Wi ds a b l h=some m)/\(0<m->∀ k,5200000<k->q0x.f k W H xs base M Wi ds a b l h m=some true)/\∀ n,(∀ k,5200000<k->q0x.f k W H xs base M Wi ds a b l h n=some true)->n<=b->n<=m:=by
  intro e ws hws
  subst e
  refine⟨0,by omega,fun k hk=>?_,fun h=>by omega,fun n hn=>?_⟩
  ·unfold q1g.f
   rw[hws k Om,Ob,(hc0 k Om).1];rfl
  ·have q:=hn 5200002 Om
   unfold q0x.f at q
   rw[(hc0 5200002 Om).1] at q
   simp[q0x.j0] at q
 rcases ZGb A base M Wi ds Om a b l Om h with ⟨ws,V⟩|no
 ·obtain⟨v0,ok,ys,_,hr⟩:=ZPa A V
  cases c0 with
  |false=>exact none_ rfl ws (fun k hk=>(hr k Om).1)
  |true =>
   have hbb:=V.food
   obtain⟨v,hv0,hv,hv1,hv2⟩:=Zkb A V (fun k hk=>(hc0 k Om).2) b.toNat b Om Om
   refine⟨v,hv0.1,fun k hk=>?_,fun h1 k hk=>?_,fun n hn hnb=>?_⟩
   ·unfold q1g.f
    rw[(hr k Om).1,Ob,(hc0 k Om).1,Ob,if_pos rfl]
    exact hv k Om
   ·obtain⟨c,hc⟩:=may v
    have e1:=hv1 h1 3100001 Om
    rw[(hc 3100001 Om).2] at e1
    rw[(hc k Om).1,e1]
   ·refine hv2 n hnb (fun k hk=>?_)
    obtain⟨c,hc⟩:=may n
    have e1:=hn 5200001 Om
    rw[(hc 5200001 Om).1] at e1
    obtain⟨c2,hc2⟩:=Z6 A base M Wi ds Om a b l Om h Om n
    have e2:=(hc2 5200001 Om).1
    rw[hn 5200001 Om] at e2
    by_cases q:3100000<k
    ·rw[(hc k q).2,e1]
    ·rw[(hc2 k (by have:=V.dep20;have:=V.crew8;omega)).2,<-e2]
 ·have e0:=(no 5200001 Om).2.1
  rw[(hc0 5200001 Om).1] at e0
  exact none_ (Option.some.inj e0) [] (fun k hk=>(no k Om).1)
theorem Zxb (d:List Int) (hd:d.length<=1048576) (k:Nat) (hk:d.length+5200010<k):q0h.j1 k d false=some true:=by
 obtain⟨k,rfl⟩:=Yk k
 obtain⟨W,H,xs,base,M,Wi,ds,a,b,l,h,n,hx,hds,hl,hh,h1⟩:=Zeb d hd
 obtain⟨t,D,ht,hy⟩:=ZQb (W:=W) (H:=H) hx base M Wi ds Om a b l Om h Om n
 obtain⟨v,hv⟩:=ZIa ds Om a b l h
 cases t with
 |false=>simp only[q0h.j1,Bool.false_eq_true,if_false,h1 k Om,Ob,ht k Om,hv k Om,if_true]
 |true =>
  obtain⟨hb,hs,F2,F,h20,h202,hc⟩:=hy rfl
  have e1:=Z5 (ds:=D) Om F2 a (b:=b+n) Om l h k Om
  have e2:=Z5 (ds:=ds) Om F a (b:=b) Om l h k Om
  have e3:wrap64 (Zf D+(b+n))=wrap64 (Zf ds+b):=by congr 1;omega
  have hw:wrap64 (b+n)=b+n:=Yw
  simp only[q0h.j1,Bool.false_eq_true,if_false,h1 k Om,Ob,ht k Om,if_true,e1,e2,e3,hc k Om,hw,beq_self_eq_true]
theorem FnCaches:q0h.Stmt:=by
 intro d
 by_cases hbig:(d.length:Int)>1048576
 ·exact fun _=>⟨0,by unfold q0h.f q7w.f;simp only[hbig,decide_true,Ob,if_true]⟩
 intro _
 have hd:d.length<=1048576:=by omega
 obtain⟨W,H,xs,base,M,Wi,ds,a,b,l,h,n,hx,hds,hl,hh,h1⟩:=Zsb d hd
 obtain⟨c,D,hlaw,hy⟩:=Zcc (W:=W) (H:=H) hx base M Wi ds Om a b l Om h Om n
 obtain⟨m,hm0,hm,hm1,hm2⟩:=ZXb (W:=W) (H:=H) hx base M Wi ds Om a b l Om h Om
 obtain⟨v,hv⟩:=ZIa ds Om a b l h
 obtain⟨k,hk⟩:∃ k,k=d.length+5200100:=⟨_,rfl⟩
 have hj:=Zxb d hd k Om
 obtain⟨p1,p2,p3,p4,p5,hsp⟩:=(hlaw (k+2) Om).2.2
 have nm:¬ m<0:=by omega
 have j0:q0h.j0 (k+2) d base ds n c false W H xs M Wi a b l h=some true:=by
  have fin:(if c=true then(q0h.j1 (k+1) d (decide (n>m))) else(q0h.j1 (k+1) d false))=some true:=by
   have hj2:=Zxb d hd (k+1) Om
   cases c with
   |false=>rw[if_neg Bool.false_ne_true];exact hj2
   |true =>
    have:=hm2 n (fun k hk=>(hlaw k hk).1) (hy rfl).1.2.1
    rw[if_pos rfl,decide_eq_false (show ¬ n>m by omega)];exact hj2
  rw[q0h.j0,if_neg Bool.false_ne_true,hm (k+1) Om,Ob,if_neg nm]
  by_cases q:m>0
  ·rw[if_pos q,hm1 q (k+1) Om,Ob,if_pos rfl];exact fin
  ·rw[if_neg q];exact fin
 refine⟨k+2,?_⟩
 simp only[q0h.f,q7w.f,hbig,decide_false,Ob,Bool.false_eq_true,if_false,h1 (k+2) Om,(hlaw (k+2) Om).2.1,hsp,(hlaw (k+2) Om).1,hv (k+2) Om]
 cases c with
 |false=>simp only[Bool.false_eq_true,if_false,bne_self_eq_false,hv (k+2) Om,Ob,if_true,j0]
 |true =>
  obtain⟨hn,hs,F2,F,h20,h202,hc⟩:=hy rfl
  have hw:wrap64 (b-n)=b-n:=Yw
  have e1:=Z5 (ds:=D) Om F2 a (b:=b-n) Om l h (k+2) Om
  have e2:=Z5 (ds:=ds) Om F a (b:=b) Om l h (k+2) Om
  rw[hv (k+2) Om] at e2
  have e3:wrap64 (Zf D+(b-n))=v:=by rw[Option.some.inj e2];congr 1;omega
  have hcc:=hc (k+2) Om
  rw[hw] at hcc
  simp only[if_true,bne_self_eq_false,Bool.false_eq_true,if_false,hw,e1,e3,Ob,hcc,Bool.not_true,j0]

end Go.Proofs.Ytkonccdanjhngaa.Pure
