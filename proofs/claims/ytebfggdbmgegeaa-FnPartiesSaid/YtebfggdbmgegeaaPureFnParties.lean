/- A party eats as long as its food lasts, takes up no more than it can carry, and two parties are equal either way round: the law FnParties holds for every code (a code of more than 2^20 bytes the law lets pass). No further condition. -/
import Derived.Test.YtebfggdbmgegeaaSFnParties
namespace Go.Proofs.Ytebfggdbmgegeaa.Pure
open Go.RowKit Go.Proofs.Ytebfggdbmgegeaa.Q Go.Proofs.YtebfggdbmgegeaaW.PrintWords Go.Proofs.YtebfggdbmgegeaaW.PrintLast Go.Proofs.YtebfggdbmgegeaaW.PrintMore
set_option linter.unusedVariables false
set_option linter.unusedSimpArgs false
theorem ext_getD {α:Type} {d:α} {a b:List α} (h:a.length=b.length) (hj:∀ j,j<a.length→a.getD j d=b.getD j d):a=b:=by
 apply List.ext_getElem h
 intro j h1 h2
 have:=hj j h1
 simpa [List.getD_eq_getElem?_getD,List.getElem?_eq_getElem h1,List.getElem?_eq_getElem h2] using this
theorem getD_set {α:Type} {d:α} (a:List α) (i j:Nat) (v:α) (h:i<a.length):(a.set i v).getD j d=if i=j then v else a.getD j d:=by
 simp only[List.getD_eq_getElem?_getD,List.getElem?_set]
 by_cases e:i=j
 ·subst e;simp[h]
 ·simp[e]
theorem wrap_small {i:Int} {n:Nat} (h0:0≤i) (h:i<(n:Int)) (hn:n≤1048576):wrap64 (i+1)=i+1:=by
 unfold wrap64;omega
theorem drop_step {α:Type} (d:α) (l:List α) (i:Int) (h0:0≤i) (h:i<(l.length:Int)):l.drop i.toNat=l.getD i.toNat d :: l.drop (i+1).toNat:=by
 have h1:i.toNat<l.length:=by omega
 rw[List.drop_eq_getElem_cons h1,show (i+1).toNat=i.toNat+1 by omega]
 congr 1
 simp[List.getD_eq_getElem?_getD,List.getElem?_eq_getElem h1]
theorem l1In_eq (a b c:Int):spec_l1In.f a b c=some (decide (b≤a∧a≤c)):=by
 unfold spec_l1In.f
 by_cases h:a≥b
 ·rw[if_pos h];congr 1;have:b≤a:=h;simp[this]
 ·rw[if_neg h];have:¬ b≤a:=h;simp[this]
theorem inRange_eq (a b c:Int):impl_InRange.f a b c=some (decide (b≤a∧a≤c)):=by
 unfold impl_InRange.f
 by_cases h:b≤a
 ·rw[if_pos h];simp[h]
 ·rw[if_neg h];simp[h]
theorem wrapNat (n:Nat) (h:n≤1073741823):Go.IntKind.wrap .i64 (n:Int)=(n:Int):=by
 have e1:(Go.IntKind.i64).bits=64:=rfl
 have e2:(Go.IntKind.i64).signed=true:=rfl
 unfold Go.IntKind.wrap
 simp only[e1,e2,Bool.true_and,decide_eq_true_eq]
 have e3:(2:Int) ^ 64=18446744073709551616:=by decide
 have e4:(2:Int) ^ (64-1)=9223372036854775808:=by decide
 rw[e3,e4,if_neg (by omega)];omega
theorem and255 (x:Int):0≤Go.bits .and .i64 x 255∧Go.bits .and .i64 x 255≤255:=by
 have h:(BitVec.ofInt 64 x &&& BitVec.ofInt 64 255).toNat≤255:=by
  rw[BitVec.toNat_and];exact Nat.le_trans Nat.and_le_right (by decide)
 show 0≤Go.IntKind.wrap .i64 ((BitVec.ofInt 64 x &&& BitVec.ofInt 64 255).toNat:Int)∧Go.IntKind.wrap .i64 ((BitVec.ofInt 64 x &&& BitVec.ofInt 64 255).toNat:Int)≤255
 generalize (BitVec.ofInt 64 x &&& BitVec.ofInt 64 255).toNat=n at h ⊢
 rw[wrapNat n (by omega)];omega
theorem byte_ev (d:List Int) (p s:Int) (hd:d.length≤1048576) (hp:0≤p) (hp2:p≤d.length):∃ v p' s',spec_l1Byte.f d p s=some (v,p',s')∧(0≤v∧v≤255)∧0≤p'∧p'≤d.length:=by
 unfold spec_l1Byte.f
 by_cases h:p<(d.length:Int)
 ·rw[if_pos h,if_pos hp]
  exact⟨_,_,_,rfl,and255 _,by unfold wrap64;omega,by unfold wrap64;omega⟩
 ·rw[if_neg h]
  exact⟨_,_,_,rfl,and255 _,hp,hp2⟩
theorem tmod_range (x n:Int) (hx:0≤x) (hn:0<n):0≤Int.tmod x n∧Int.tmod x n<n:=by
 rw[Int.tmod_eq_emod_of_nonneg hx]
 exact⟨Int.emod_nonneg _ (by omega),Int.emod_lt_of_pos _ hn⟩
theorem below_ev (d:List Int) (p s n:Int) (hd:d.length≤1048576) (hp:0≤p) (hp2:p≤d.length):∃ v p' s',spec_l1Below.f d p s n=some (v,p',s')∧(0≤v∧(0<n→v<n)∧(n≤0→v=0))∧0≤p'∧p'≤d.length:=by
 unfold spec_l1Below.f
 by_cases h:n≤0
 ·rw[if_pos h];exact⟨0,p,s,rfl,⟨by omega,by omega,by omega⟩,hp,hp2⟩
 ·have hz:¬ n=0:=by omega
  rw[if_neg h]
  by_cases h2:n≤256
  ·rw[if_pos h2]
   obtain⟨v,p',s',hb,hv,hp',hp2'⟩:=byte_ev d p s hd hp hp2
   rw[hb];simp only[Option.bind_some,if_neg hz]
   have:=tmod_range v n hv.1 (by omega)
   exact⟨_,_,_,rfl,⟨this.1,fun _=>this.2,by omega⟩,hp',hp2'⟩
  ·rw[if_neg h2]
   obtain⟨v,p',s',hb,hv,hp',hp2'⟩:=byte_ev d p s hd hp hp2
   rw[hb];simp only[Option.bind_some]
   obtain⟨v2,p2,s2,hb2,hv2,hq,hq2⟩:=byte_ev d p' s' hd hp' hp2'
   rw[hb2];simp only[Option.bind_some]
   obtain⟨v3,p3,s3,hb3,hv3,hr,hr2⟩:=byte_ev d p2 s2 hd hq hq2
   rw[hb3];simp only[Option.bind_some,if_neg hz]
   have:=tmod_range (wrap64 (wrap64 (wrap64 (v * 65536)+wrap64 (v2 * 256))+v3)) n (by unfold wrap64;omega) (by omega)
   exact⟨_,_,_,rfl,⟨this.1,fun _=>this.2,by omega⟩,hr,hr2⟩
theorem int_ev (d:List Int) (p s:Int) (l:List Int) (hl:0<l.length) (hd:d.length≤1048576) (hp:0≤p) (hp2:p≤d.length):∃ v p' s',spec_l1Int.f d p s l=some (v,p',s')∧v∈l∧0≤p'∧p'≤d.length:=by
 unfold spec_l1Int.f
 obtain⟨v,p',s',hb,hv,hp',hp2'⟩:=below_ev d p s (l.length:Int) hd hp hp2
 have h2:=hv.2.1 (by omega)
 rw[hb];simp only[Option.bind_some,if_pos hv.1,if_pos h2]
 refine⟨_,_,_,rfl,?_,hp',hp2'⟩
 have h3:v.toNat<l.length:=by omega
 unfold rd
 simp[List.getD_eq_getElem?_getD,List.getElem?_eq_getElem h3]
theorem new_loop (d:List Int) (hd:d.length≤1048576):∀ (e:Nat) (s i:Int),0≤i→(d.length:Int)-i≤e→∃ s',∀ k,e<k→spec_l1New.l0 k d s i=some (d,0,s'):=by
 intro e
 induction e with
 |zero =>
  intro s i h0 he
  refine⟨s,fun k hk=>?_⟩
  obtain⟨k,rfl⟩:∃ m,k=m+1:=⟨k-1,by omega⟩
  simp only[spec_l1New.l0]
  rw[if_neg (by omega)]
 |succ e ih =>
  intro s i h0 he
  by_cases h:i<(d.length:Int)∧i<4000
  ·obtain⟨s',hs⟩:=ih (Go.bits .and .i64 (wrap64 ((wrap64 ((wrap64 (s * 137))+(wrap64 (rd d i))))+11)) 1073741823) (i+1) (by omega) (by omega)
   refine⟨s',fun k hk=>?_⟩
   obtain⟨k,rfl⟩:∃ m,k=m+1:=⟨k-1,by omega⟩
   simp only[spec_l1New.l0,if_pos h.1,if_pos h.2,if_pos h0,wrap_small (n:=d.length) h0 h.1 hd]
   exact hs k (by omega)
  ·refine⟨s,fun k hk=>?_⟩
   obtain⟨k,rfl⟩:∃ m,k=m+1:=⟨k-1,by omega⟩
   simp only[spec_l1New.l0]
   by_cases h1:i<(d.length:Int)
   ·rw[if_pos h1,if_neg (fun h2=>h ⟨h1,h2⟩)]
   ·rw[if_neg h1]
theorem new_ev (d:List Int) (hd:d.length≤1048576):∃ s,∀ k,d.length<k→spec_l1New.f k d=some (d,0,s) :=
 new_loop d hd d.length _ 0 (by omega) (by omega)
theorem landCells_loop (W H:Int) (xs:List Int) (hn:xs.length≤1048576):∀ (d:Nat) (i:Int),0≤i→(xs.length:Int)-i=d →
  ∃ b,(∀ k,d<k→spec_IsLand.l0 k i W H xs=some b)∧(b=true→∀ j:Int,i≤j→j<(xs.length:Int)→0≤rd xs j∧rd xs j≤2):=by
 intro d
 induction d with
 |zero =>
  intro i h0 hd
  have hlt:¬ i<(xs.length:Int):=by omega
  refine⟨true,fun k hk=>?_,fun _ j h1 h2=>by omega⟩
  obtain⟨k,rfl⟩:∃ m,k=m+1:=⟨k-1,by omega⟩
  simp only[spec_IsLand.l0,if_neg hlt]
 |succ d ih =>
  intro i h0 hd
  have hlt:i<(xs.length:Int):=by omega
  obtain⟨b,hb,hp⟩:=ih (i+1) (by omega) (by omega)
  by_cases e:0≤rd xs i∧rd xs i≤2
  ·refine⟨b,fun k hk=>?_,fun h j h1 h2=>?_⟩
   ·obtain⟨k,rfl⟩:∃ m,k=m+1:=⟨k-1,by omega⟩
    simp only[spec_IsLand.l0,if_pos hlt,if_pos h0,l1In_eq,inRange_eq,e,and_self,decide_true,Option.bind_some,if_true,wrap_small (n:=xs.length) h0 hlt hn]
    exact hb k (by omega)
   ·by_cases h3:j=i
    ·subst h3;exact e
    ·exact hp h j (by omega) h2
  ·refine⟨false,fun k hk=>?_,fun h=>by cases h⟩
   obtain⟨k,rfl⟩:∃ m,k=m+1:=⟨k-1,by omega⟩
   simp only[spec_IsLand.l0,if_pos hlt,if_pos h0,l1In_eq,inRange_eq,e,decide_false,Option.bind_some,Bool.false_eq_true,if_false,and_self]
theorem isLand_ev (W H:Int) (xs:List Int) (hn:xs.length≤1048576):∃ b,(∀ k,xs.length+1<k→spec_IsLand.f k W H xs=some b) ∧
  (b=true→(1≤W∧W≤8)∧(1≤H∧H≤8)∧(xs.length:Int)=W * H∧1≤xs.length∧xs.length≤64∧∀ j:Int,0≤j→j<(xs.length:Int)→0≤rd xs j∧rd xs j≤2):=by
 by_cases hW:1≤W∧W≤8
 ·by_cases hH:1≤H∧H≤8
  ·have h1:W * H≤8 * 8:=Int.mul_le_mul hW.2 hH.2 (by omega) (by omega)
   have h2:1 * 1≤W * H:=Int.mul_le_mul hW.1 hH.1 (by omega) (by omega)
   have hw:wrap64 (W * H)=W * H:=by unfold wrap64;omega
   by_cases hl:(xs.length:Int)=W * H
   ·obtain⟨b,hb,hp⟩:=landCells_loop W H xs hn xs.length 0 (by omega) (by omega)
    refine⟨b,fun k hk=>?_,fun e=>⟨hW,hH,hl,by omega,by omega,hp e⟩⟩
    obtain⟨k,rfl⟩:∃ m,k=m+1:=⟨k-1,by omega⟩
    have e:((xs.length:Int) != W * H)=false:=by simp[hl]
    have b2:=hb k (by omega)
    unfold spec_IsLand.f
    simp only[l1In_eq,inRange_eq,hW,hH,and_self,decide_true,Option.bind_some,if_true,hw,if_pos hl,e,spec_IsLand.j0,Bool.false_eq_true,if_false,b2]
   ·refine⟨false,fun k hk=>?_,fun e=>by cases e⟩
    obtain⟨k,rfl⟩:∃ m,k=m+1:=⟨k-1,by omega⟩
    have e:((xs.length:Int) != W * H)=true:=by simp[hl]
    unfold spec_IsLand.f
    simp only[l1In_eq,inRange_eq,hW,hH,and_self,decide_true,Option.bind_some,if_true,hw,if_neg hl,e,spec_IsLand.j0]
  ·refine⟨false,fun k hk=>?_,fun e=>by cases e⟩
   obtain⟨k,rfl⟩:∃ m,k=m+1:=⟨k-1,by omega⟩
   unfold spec_IsLand.f
   simp only[l1In_eq,inRange_eq,hW,hH,and_self,decide_true,decide_false,Option.bind_some,if_true,Bool.false_eq_true,if_false,spec_IsLand.j0]
 ·refine⟨false,fun k hk=>?_,fun e=>by cases e⟩
  obtain⟨k,rfl⟩:∃ m,k=m+1:=⟨k-1,by omega⟩
  unfold spec_IsLand.f
  simp only[l1In_eq,inRange_eq,hW,decide_false,Option.bind_some,if_true,Bool.false_eq_true,if_false,spec_IsLand.j0,and_self]
structure LandOk (W H:Int) (xs:List Int):Prop where
 w:1≤W∧W≤8
 h:1≤H∧H≤8
 len:(xs.length:Int)=W * H
 pos:1≤xs.length
 le:xs.length≤64
 ev:∀ k,70<k→spec_IsLand.f k W H xs=some true
theorem land_cases (W H:Int) (xs:List Int) (hn:xs.length≤1048576):LandOk W H xs∨∀ k,xs.length+1<k→spec_IsLand.f k W H xs=some false:=by
 obtain⟨b,hb,hp⟩:=isLand_ev W H xs hn
 cases b with
 |false=>exact Or.inr hb
 |true =>
  obtain⟨h1,h2,h3,h4,h5,_⟩:=hp rfl
  exact Or.inl ⟨h1,h2,h3,h4,h5,fun k hk=>hb k (by omega)⟩
def opn (xs:List Int) (m:Int):Bool:=decide (0≤m∧m<(xs.length:Int)) && (rd xs m != 2)
theorem opn_in {xs:List Int} {m:Int} (h:opn xs m=true):0≤m∧m<(xs.length:Int):=by
 unfold opn at h
 rw[Bool.and_eq_true,decide_eq_true_eq] at h
 exact h.1
theorem isCell_ok {W H:Int} {xs:List Int} (L:LandOk W H xs) (m:Int) (k:Nat) (hk:70<k):spec_IsCell.f k W H xs m=some (decide (0≤m∧m<(xs.length:Int))):=by
 have:=L.pos
 have:=L.le
 have e:wrap64 ((xs.length:Int)-1)=(xs.length:Int)-1:=by unfold wrap64;omega
 have e2:decide (0≤m∧m≤(xs.length:Int)-1)=decide (0≤m∧m<(xs.length:Int)):=decide_eq_decide.mpr (by omega)
 unfold spec_IsCell.f
 simp only[L.ev k hk,Option.bind_some,if_true,e,l1In_eq,e2]
theorem isOpen_ok {W H:Int} {xs:List Int} (L:LandOk W H xs) (m:Int) (k:Nat) (hk:70<k):spec_IsOpen.f k W H xs m=some (opn xs m):=by
 have c2:=isCell_ok L m k hk
 unfold spec_IsOpen.f
 rw[c2]
 unfold opn
 by_cases h:0≤m∧m<(xs.length:Int)
 ·simp only[h,and_self,decide_true,Option.bind_some,if_true,Bool.true_and]
 ·simp only[h,decide_false,Option.bind_some,Bool.false_eq_true,if_false,Bool.false_and]
theorem isCell_no {W H:Int} {xs:List Int} (m:Int) (k:Nat) (h:spec_IsLand.f k W H xs=some false):spec_IsCell.f k W H xs m=some false:=by
 unfold spec_IsCell.f
 simp only[h,Option.bind_some,Bool.false_eq_true,if_false]
theorem isOpen_no {W H:Int} {xs:List Int} (m:Int) (k:Nat) (h:spec_IsLand.f k W H xs=some false):spec_IsOpen.f k W H xs m=some false:=by
 have c2:=isCell_no m k h
 unfold spec_IsOpen.f
 simp only[c2,Option.bind_some,Bool.false_eq_true,if_false]
theorem w_cases {W:Int} (h:1≤W∧W≤8):W=1∨W=2∨W=3∨W=4∨W=5∨W=6∨W=7∨W=8:=by omega
def nearL (W:Int) (xs:List Int) (n:Int):List Int :=
 (((if W≤n∧rd xs (n-W)≠2 then [n-W] else [])++(if 0<n % W∧rd xs (n-1)≠2 then [n-1] else []))++(if n % W<W-1∧rd xs (n+1)≠2 then [n+1] else []))++(if n+W<(xs.length:Int)∧rd xs (n+W)≠2 then [n+W] else [])
theorem row_end {W H n l:Int} (hw:1≤W∧W≤8) (hl:l=W * H) (hn:n<l) (h0:0≤n) (h:n % W<W-1):n+1<l:=by
 rcases w_cases hw with e|e|e|e|e|e|e|e <;> subst e <;> omega
theorem l4Near_ok {W H:Int} {xs:List Int} (L:LandOk W H xs) (n:Int) (hn:0≤n∧n<(xs.length:Int)) (k:Nat) (hk:5<k):spec_l4Near.f k W H xs n=some (nearL W xs n):=by
 obtain⟨k,rfl⟩:∃ j,k=j+5:=⟨k-5,by omega⟩
 have hw:=L.w
 have:=L.le
 have t1:Int.tmod n W=n % W:=Int.tmod_eq_emod_of_nonneg hn.1
 have e1:wrap64 (n-W)=n-W:=by unfold wrap64;omega
 have e2:wrap64 (n-1)=n-1:=by unfold wrap64;omega
 have e3:wrap64 (n+1)=n+1:=by unfold wrap64;omega
 have e4:wrap64 (n+W)=n+W:=by unfold wrap64;omega
 have e5:wrap64 (W-1)=W-1:=by unfold wrap64;omega
 have hw0:¬ W=0:=by omega
 have hr:=fun h=>row_end hw L.len hn.2 hn.1 h
 have hp:0<n % W→0≤n-1:=fun h=>by
  by_cases h0:n=0
  ·subst h0;simp at h
  ·omega
 have j4:∀ (j:Nat) (acc:List Int) (c:Bool),acc.length≤10→spec_l4Near.j4 (j+1) n acc c W H xs=some ((acc++(if c=true then [n+1] else []))++(if n+W<(xs.length:Int)∧rd xs (n+W)≠2 then [n+W] else [])):=by
  intro j acc c ha
  have q1:acc.length<17592186044416:=by omega
  have q2:(acc++[n+1]).length<17592186044416:=by simp;omega
  have q3:0≤n+W:=by omega
  rw[spec_l4Near.j4]
  simp only[e3,e4,if_pos q1,if_pos q2,if_pos q3,Option.bind_some]
  by_cases c0:c=true
  ·by_cases c1:n+W<(xs.length:Int)
   ·by_cases c2:rd xs (n+W)=2
    ·simp[c0,c1,c2]
    ·simp[c0,c1,c2]
   ·simp[c0,c1]
  ·by_cases c1:n+W<(xs.length:Int)
   ·by_cases c2:rd xs (n+W)=2
    ·simp[c0,c1,c2]
    ·simp[c0,c1,c2]
   ·simp[c0,c1]
 have j3:∀ (j:Nat) (acc:List Int),acc.length≤10→spec_l4Near.j3 (j+2) n acc W H xs=some ((acc++(if n % W<W-1∧rd xs (n+1)≠2 then [n+1] else []))++(if n+W<(xs.length:Int)∧rd xs (n+W)≠2 then [n+W] else [])):=by
  intro j acc ha
  rw[spec_l4Near.j3]
  simp only[if_neg hw0,t1,e3,e5]
  by_cases c1:n % W<W-1
  ·have q1:=hr c1
   have q2:0≤n+1:=by omega
   rw[if_pos c1,if_pos q2,if_pos q1,j4 j acc _ ha]
   by_cases c2:rd xs (n+1)=2
   ·simp[c1,c2]
   ·simp[c1,c2]
  ·rw[if_neg c1,j4 j acc _ ha]
   simp[c1]
 have j2:∀ (j:Nat) (acc:List Int) (c:Bool),acc.length≤8→spec_l4Near.j2 (j+3) n acc c W H xs=some (((acc++(if c=true then [n-1] else []))++(if n % W<W-1∧rd xs (n+1)≠2 then [n+1] else []))++(if n+W<(xs.length:Int)∧rd xs (n+W)≠2 then [n+W] else [])):=by
  intro j acc c ha
  have q1:acc.length<17592186044416:=by omega
  rw[spec_l4Near.j2]
  simp only[e2,if_pos q1]
  by_cases c0:c=true
  ·rw[if_pos c0,j3 j _ (by simp;omega),if_pos c0]
  ·rw[if_neg c0,j3 j _ (by omega),if_neg c0,List.append_nil]
 have j1:∀ (j:Nat) (acc:List Int),acc.length≤8→spec_l4Near.j1 (j+4) n acc W H xs=some (((acc++(if 0<n % W∧rd xs (n-1)≠2 then [n-1] else []))++(if n % W<W-1∧rd xs (n+1)≠2 then [n+1] else []))++(if n+W<(xs.length:Int)∧rd xs (n+W)≠2 then [n+W] else [])):=by
  intro j acc ha
  rw[spec_l4Near.j1]
  simp only[if_neg hw0,t1,e2,gt_iff_lt]
  by_cases c1:0<n % W
  ·have q1:=hp c1
   have q2:n-1<(xs.length:Int):=by omega
   rw[if_pos c1,if_pos q1,if_pos q2,j2 j acc _ ha]
   by_cases c2:rd xs (n-1)=2
   ·simp[c1,c2]
   ·simp[c1,c2]
  ·rw[if_neg c1,j2 j acc _ ha]
   simp[c1]
 unfold spec_l4Near.f nearL
 simp only[Option.bind_some,e1,ge_iff_le]
 have q0:([]:List Int).length<17592186044416:=by simp
 by_cases c1:W≤n
 ·have q1:0≤n-W:=by omega
  have q2:n-W<(xs.length:Int):=by omega
  rw[if_pos c1,if_pos q1,if_pos q2,spec_l4Near.j0]
  simp only[e1,if_pos q0]
  by_cases c2:rd xs (n-W)=2
  ·simp only[c2,bne_self_eq_false,Bool.false_eq_true,if_false]
   rw[j1 k [] (by simp)]
   simp[c1]
  ·rw[if_pos (by simp[c2]),j1 k _ (by simp)]
   simp[c1,c2]
 ·rw[if_neg c1,spec_l4Near.j0]
  simp only[Bool.false_eq_true,if_false]
  rw[j1 k [] (by simp)]
  simp[c1]
def negs:List Int→Nat
 |[]=>0
 |v :: vs=>(if v<0 then 1 else 0)+negs vs
theorem negs_set:∀ (l:List Int) (i:Nat) (v:Int),i<l.length→l.getD i 0<0→0≤v→negs (l.set i v)+1=negs l
 |x :: xs,0,v,_,h,hv=>by
  simp only[List.getD_cons_zero] at h
  simp only[List.set_cons_zero,negs,if_pos h]
  rw[if_neg (by omega)];omega
 |x :: xs,i+1,v,hi,h,hv=>by
  have:=negs_set xs i v (by simpa using hi) (by simpa using h) hv
  simp only[List.set_cons_succ,negs];omega
def visit (d q:List Int) (own:Int):List Int→List Int × List Int
 |[]=>(d,q)
 |b :: bs=>if rd d b<0 then visit (d.set b.toNat (rd d own+1)) (q++[b]) own bs else visit d q own bs
def bfs (adj:Int→List Int):Nat→List Int→List Int→List Int
 |0,d,_=>d
 |_+1,d,[]=>d
 |f+1,d,own :: rest=>bfs adj f (visit d rest own (adj own)).1 (visit d rest own (adj own)).2
theorem rd_set_b (l:List Int) (x j v:Int) (hx:0≤x) (hx2:x<(l.length:Int)) (hj:0≤j):rd (l.set x.toNat v) j=if j=x then v else rd l j:=by
 unfold rd
 rw[List.getD_eq_getElem?_getD,List.getD_eq_getElem?_getD,List.getElem?_set]
 by_cases e:j=x
 ·subst e
  have h:j.toNat<l.length:=by omega
  simp[h]
 ·rw[if_neg (show ¬ x.toNat=j.toNat by omega),if_neg e]
structure Visited (d q:List Int) (own:Int) (bs:List Int) (d' q':List Int):Prop where
 len:d'.length=d.length
 old:∀ v,0≤v→0≤rd d v→rd d' v=rd d v
 new:∀ v,0≤v→rd d v<0→rd d' v=rd d v∨(v∈bs∧rd d' v=rd d own+1)
 seen:∀ b∈bs,0≤rd d' b
 que:∃ ns,q'=q++ns∧ns.length+negs d'=negs d∧(∀ x∈ns,x∈bs∧rd d' x=rd d own+1)∧∀ v,0≤v→rd d v<0→0≤rd d' v→v∈ns
theorem visit_spec (n:Nat) (own:Int) (hown:0≤own):∀ (bs d q:List Int),d.length=n→0≤rd d own→(∀ b∈bs,0≤b∧b<(n:Int))→Visited d q own bs (visit d q own bs).1 (visit d q own bs).2
 |[],d,q,hl,h0,hb=>⟨rfl,fun _ _ _=>rfl,fun _ _ _=>Or.inl rfl,fun b hb=>(by cases hb),⟨[],(by simp[visit]),(by simp[visit]),fun x hx=>(by cases hx),fun v h1 h2 h3=>(by simp only[visit] at h3;omega)⟩⟩
 |b :: bs,d,q,hl,h0,hb=>by
  have hbb:=hb b (List.mem_cons_self)
  unfold visit
  by_cases c:rd d b<0
  ·rw[if_pos c]
   have hr:=fun j hj=>rd_set_b d b j (rd d own+1) hbb.1 (by omega) hj
   have hob:own≠b:=fun e=>by rw[e] at h0;omega
   have ho2:rd (d.set b.toNat (rd d own+1)) own=rd d own:=by rw[hr own hown,if_neg hob]
   have ih:=visit_spec n own hown bs (d.set b.toNat (rd d own+1)) (q++[b]) (by simpa using hl) (by rw[ho2];exact h0) (fun x hx=>hb x (List.mem_cons_of_mem _ hx))
   obtain⟨i1,i2,i3,i4,ns,i5,i6,i7,i8⟩:=ih
   rw[ho2] at i3 i7
   have hb1:rd (d.set b.toNat (rd d own+1)) b=rd d own+1:=by rw[hr b hbb.1,if_pos rfl]
   have hb2:=i2 b hbb.1 (by rw[hb1];omega)
   rw[hb1] at hb2
   refine⟨by rw[i1,List.length_set],fun v hv h=>?_,fun v hv h=>?_,fun x hx=>?_,b :: ns,by rw[i5];simp,?_,fun x hx=>?_,fun v hv h1 h2=>?_⟩
   ·have hvb:v≠b:=fun e=>by rw[e] at h;omega
    rw[i2 v hv (by rw[hr v hv,if_neg hvb];exact h),hr v hv,if_neg hvb]
   ·by_cases e:v=b
    ·subst e;exact Or.inr ⟨List.mem_cons_self,hb2⟩
    ·have h2:=i3 v hv (by rw[hr v hv,if_neg e];exact h)
     rw[hr v hv,if_neg e] at h2
     rcases h2 with h2|⟨h2,h3⟩
     ·exact Or.inl h2
     ·exact Or.inr ⟨List.mem_cons_of_mem _ h2,h3⟩
   ·rcases List.mem_cons.mp hx with h|h
    ·rw[h,hb2];omega
    ·exact i4 x h
   ·have:=negs_set d b.toNat (rd d own+1) (by omega) (by exact c) (by omega)
    simp only[List.length_cons];omega
   ·rcases List.mem_cons.mp hx with h|h
    ·rw[h];exact⟨List.mem_cons_self,hb2⟩
    ·exact⟨List.mem_cons_of_mem _ (i7 x h).1,(i7 x h).2⟩
   ·by_cases e:v=b
    ·rw[e];exact List.mem_cons_self
    ·exact List.mem_cons_of_mem _ (i8 v hv (by rw[hr v hv,if_neg e];exact h1) h2)
  ·rw[if_neg c]
   obtain⟨i1,i2,i3,i4,ns,i5,i6,i7,i8⟩:=visit_spec n own hown bs d q hl h0 (fun x hx=>hb x (List.mem_cons_of_mem _ hx))
   refine⟨i1,i2,fun v hv h=>?_,fun x hx=>?_,ns,i5,i6,fun x hx=>⟨List.mem_cons_of_mem _ (i7 x hx).1,(i7 x hx).2⟩,i8⟩
   ·rcases i3 v hv h with h2|⟨h2,h3⟩
    ·exact Or.inl h2
    ·exact Or.inr ⟨List.mem_cons_of_mem _ h2,h3⟩
   ·rcases List.mem_cons.mp hx with h|h
    ·rw[h,i2 b hbb.1 (by omega)];omega
    ·exact i4 x h
structure BInv (adj:Int→List Int) (n:Nat) (src:Int) (d q:List Int) (m:Int):Prop where
 len:d.length=n
 m0:0≤m
 src0:rd d src=0
 zero:∀ v,0≤v→v<(n:Int)→rd d v=0→v=src
 lvl:∃ A B,q=A++B∧(∀ x∈A,0≤x∧x<(n:Int)∧rd d x=m)∧(∀ x∈B,0≤x∧x<(n:Int)∧rd d x=m+1)
 top:∀ v,0≤v→rd d v≤m+1
 from_:∀ v,0≤v→v<(n:Int)→0≤rd d v→v≠src→∃ u,0≤u∧u<(n:Int)∧v∈adj u∧0≤rd d u∧rd d u=rd d v-1
 done:∀ u,0≤u→u<(n:Int)→0≤rd d u→u ∉ q→∀ v∈adj u,0≤rd d v∧rd d v≤rd d u+1
structure BEnd (adj:Int→List Int) (n:Nat) (src:Int) (d:List Int):Prop where
 len:d.length=n
 src0:rd d src=0
 zero:∀ v,0≤v→v<(n:Int)→rd d v=0→v=src
 from_:∀ v,0≤v→v<(n:Int)→0≤rd d v→v≠src→∃ u,0≤u∧u<(n:Int)∧v∈adj u∧0≤rd d u∧rd d u=rd d v-1
 done:∀ u,0≤u→u<(n:Int)→0≤rd d u→∀ v∈adj u,0≤rd d v∧rd d v≤rd d u+1
theorem bfs_end (adj:Int→List Int) (n:Nat) (src:Int) (hs:0≤src) (hs1:src<(n:Int)) (hadj:∀ u,0≤u→u<(n:Int)→∀ v∈adj u,0≤v∧v<(n:Int)):∀ (f:Nat) (d q:List Int) (m:Int),BInv adj n src d q m→q.length+negs d≤f→BEnd adj n src (bfs adj f d q):=by
 have endq:∀ (d:List Int) (m:Int),BInv adj n src d [] m→BEnd adj n src d:=fun d m h=>⟨h.len,h.src0,h.zero,h.from_,fun u hu hu1 h2=>h.done u hu hu1 h2 (by simp)⟩
 intro f
 induction f with
 |zero =>
  intro d q m h hf
  have:q=[]:=List.eq_nil_of_length_eq_zero (by omega)
  subst this
  exact endq d m h
 |succ f ih =>
  intro d q m h hf
  cases q with
  |nil=>exact endq d m h
  |cons own rest =>
   have key:∃ m',m≤m'∧BInv adj n src d (own :: rest) m'∧(0≤own∧own<(n:Int)∧rd d own=m')∧∃ A B,rest=A++B∧(∀ x∈A,0≤x∧x<(n:Int)∧rd d x=m')∧(∀ x∈B,0≤x∧x<(n:Int)∧rd d x=m'+1):=by
    obtain⟨A,B,e,hA,hB⟩:=h.lvl
    cases A with
    |cons a A =>
     simp only[List.cons_append,List.cons.injEq] at e
     obtain⟨rfl,rfl⟩:=e
     exact⟨m,Int.le_refl _,h,hA own List.mem_cons_self,A,B,rfl,fun x hx=>hA x (List.mem_cons_of_mem _ hx),hB⟩
    |nil =>
     simp only[List.nil_append] at e
     subst e
     refine⟨m+1,by omega,⟨h.len,by have:=h.m0;omega,h.src0,h.zero,⟨own :: rest,[],by simp,hB,fun x hx=>by cases hx⟩,fun v hv=>by have:=h.top v hv;omega,h.from_,h.done⟩,hB own List.mem_cons_self,rest,[],by simp,fun x hx=>hB x (List.mem_cons_of_mem _ hx),fun x hx=>by cases hx⟩
   obtain⟨m',_,h',⟨ho0,ho1,ho2⟩,A,B,hr,hA,hB⟩:=key
   have hm0:=h'.m0
   obtain⟨v1,v2,v3,v4,ns,v5,v6,v7,v8⟩:=visit_spec n own ho0 (adj own) d rest h'.len (by omega) (hadj own ho0 ho1)
   show BEnd adj n src (bfs adj f (visit d rest own (adj own)).1 (visit d rest own (adj own)).2)
   obtain⟨d',hd'⟩:∃ d',d'=(visit d rest own (adj own)).1:=⟨_,rfl⟩
   obtain⟨q',hq'⟩:∃ q',q'=(visit d rest own (adj own)).2:=⟨_,rfl⟩
   rw[←hd'] at v1 v2 v3 v4 v6 v7 v8 ⊢
   rw[←hq'] at v5 ⊢
   have keep:∀ x,0≤x→0≤rd d x→rd d' x=rd d x:=v2
   have hsrc:rd d' src=0:=by rw[keep src hs (by rw[h'.src0];omega),h'.src0]
   refine ih d' q' m' ⟨by rw[v1,h'.len],hm0,hsrc,fun v hv hv1 e=>?_,?_,fun v hv=>?_,fun v hv hv1 e hne=>?_,fun u hu hu1 e hnq v hvu=>?_⟩ ?_
   ·by_cases c:0≤rd d v
    ·exact h'.zero v hv hv1 (by rw[←keep v hv c];exact e)
    ·rcases v3 v hv (by omega) with h2|⟨_,h2⟩ <;> omega
   ·refine⟨A,B++ns,by rw[v5,hr,List.append_assoc],fun x hx=>?_,fun x hx=>?_⟩
    ·have:=hA x hx
     exact⟨this.1,this.2.1,by rw[keep x this.1 (by omega)];exact this.2.2⟩
    ·rcases List.mem_append.mp hx with h2|h2
     ·have:=hB x h2
      exact⟨this.1,this.2.1,by rw[keep x this.1 (by omega)];exact this.2.2⟩
     ·obtain⟨h3,h4⟩:=v7 x h2
      have:=hadj own ho0 ho1 x h3
      exact⟨this.1,this.2,by rw[h4,ho2]⟩
   ·by_cases c:0≤rd d v
    ·rw[keep v hv c];exact h'.top v hv
    ·rcases v3 v hv (by omega) with h2|⟨_,h2⟩ <;> omega
   ·by_cases c:0≤rd d v
    ·obtain⟨u,u1,u2,u3,u4,u5⟩:=h'.from_ v hv hv1 c hne
     exact⟨u,u1,u2,u3,by rw[keep u u1 u4];exact u4,by rw[keep u u1 u4,keep v hv c];exact u5⟩
    ·rcases v3 v hv (by omega) with h2|⟨h2,h3⟩
     ·omega
     ·exact⟨own,ho0,ho1,h2,by rw[keep own ho0 (by omega)];omega,by rw[keep own ho0 (by omega),h3];omega⟩
   ·by_cases c:0≤rd d u
    ·rw[keep u hu c]
     by_cases e2:u=own
     ·subst e2
      refine⟨v4 v hvu,?_⟩
      have hvr:=hadj u ho0 ho1 v hvu
      by_cases c2:0≤rd d v
      ·rw[keep v hvr.1 c2,ho2];exact h'.top v hvr.1
      ·rcases v3 v hvr.1 (by omega) with h2|⟨_,h2⟩
       ·have:=v4 v hvu;omega
       ·omega
     ·have hnq2:u ∉ own :: rest:=by
       intro hm
       rcases List.mem_cons.mp hm with h2|h2
       ·exact e2 h2
       ·exact hnq (by rw[v5];exact List.mem_append_left _ h2)
      obtain⟨h2,h3⟩:=h'.done u hu hu1 c hnq2 v hvu
      have hv0:0≤v:=(hadj u hu hu1 v hvu).1
      rw[keep v hv0 h2]
      exact⟨h2,h3⟩
    ·exfalso
     exact hnq (by rw[v5];exact List.mem_append_right _ (v8 u hu (by omega) e))
   ·have:(own :: rest).length=rest.length+1:=rfl
    rw[v5,List.length_append];omega
theorem mem_if1 {c:Prop} [Decidable c] {a v:Int}:v∈(if c then [a] else [])↔c∧v=a:=by
 split <;> simp_all
theorem mem_near {W n v:Int} {xs:List Int}:v∈nearL W xs n↔((((W≤n∧rd xs (n-W)≠2)∧v=n-W)∨((0<n % W∧rd xs (n-1)≠2)∧v=n-1))∨((n % W<W-1∧rd xs (n+1)≠2)∧v=n+1))∨((n+W<(xs.length:Int)∧rd xs (n+W)≠2)∧v=n+W):=by
 unfold nearL
 simp only[List.mem_append,mem_if1]
theorem near_len (W n:Int) (xs:List Int):(nearL W xs n).length≤4:=by
 unfold nearL
 have h:∀ (c:Prop) [Decidable c] (a:Int),(if c then [a] else([]:List Int)).length≤1:=fun c _ a=>by split <;> simp
 simp only[List.length_append]
 have:=h (W≤n∧rd xs (n-W)≠2) (n-W)
 have:=h (0<n % W∧rd xs (n-1)≠2) (n-1)
 have:=h (n % W<W-1∧rd xs (n+1)≠2) (n+1)
 have:=h (n+W<(xs.length:Int)∧rd xs (n+W)≠2) (n+W)
 omega
theorem opn_iff {xs:List Int} {m:Int}:opn xs m=true↔(0≤m∧m<(xs.length:Int))∧rd xs m≠2:=by
 unfold opn
 rw[Bool.and_eq_true,decide_eq_true_eq,bne_iff_ne]
theorem near_open {W H n:Int} {xs:List Int} (L:LandOk W H xs) (hn:0≤n∧n<(xs.length:Int)):∀ v∈nearL W xs n,opn xs v=true:=by
 intro v hv
 have hw:=L.w
 rw[opn_iff]
 rcases mem_near.mp hv with ((⟨⟨h1,h2⟩,h3⟩|⟨⟨h1,h2⟩,h3⟩)|⟨⟨h1,h2⟩,h3⟩)|⟨⟨h1,h2⟩,h3⟩ <;> subst h3
 ·exact⟨by omega,h2⟩
 ·refine⟨⟨?_,by omega⟩,h2⟩
  by_cases h0:n=0
  ·subst h0;simp at h1
  ·omega
 ·have:=row_end hw L.len hn.2 hn.1 h1
  exact⟨by omega,h2⟩
 ·exact⟨by omega,h2⟩
structure Good (n:Nat) (d q:List Int):Prop where
 len:d.length=n
 bnd:∀ v,0≤v→rd d v+(negs d:Int)+1≤(n:Int)
 mem:∀ x∈q,0≤x∧x<(n:Int)∧0≤rd d x
theorem set_bnd {n:Nat} {d:List Int} {own b:Int} (hl:d.length=n) (hb:∀ v,0≤v→rd d v+(negs d:Int)+1≤(n:Int)) (ho:0≤own) (h0:0≤rd d own) (b0:0≤b) (b1:b<(n:Int)) (c:rd d b<0) :
  ∀ v,0≤v→rd (d.set b.toNat (rd d own+1)) v+(negs (d.set b.toNat (rd d own+1)):Int)+1≤(n:Int):=by
 intro v hv
 have h1:=negs_set d b.toNat (rd d own+1) (by omega) c (by omega)
 have h2:=hb v hv
 have h3:=hb own ho
 rw[rd_set_b d b v (rd d own+1) b0 (by omega) hv]
 split <;> omega
theorem visit_bnd (n:Nat) (own:Int) (ho:0≤own):∀ (bs d q:List Int),d.length=n→(∀ v,0≤v→rd d v+(negs d:Int)+1≤(n:Int))→0≤rd d own→(∀ b∈bs,0≤b∧b<(n:Int)) →
  ∀ v,0≤v→rd (visit d q own bs).1 v+(negs (visit d q own bs).1:Int)+1≤(n:Int)
 |[],d,q,hl,hb,h0,hr=>hb
 |b :: bs,d,q,hl,hb,h0,hr=>by
  have hbb:=hr b List.mem_cons_self
  unfold visit
  by_cases c:rd d b<0
  ·rw[if_pos c]
   have hne:own≠b:=fun e=>by rw[e] at h0;omega
   have h2:rd (d.set b.toNat (rd d own+1)) own=rd d own:=by rw[rd_set_b d b own _ hbb.1 (by omega) ho,if_neg hne]
   exact visit_bnd n own ho bs _ _ (by simpa using hl) (set_bnd hl hb ho h0 hbb.1 hbb.2 c) (by rw[h2];exact h0) (fun x hx=>hr x (List.mem_cons_of_mem _ hx))
  ·rw[if_neg c]
   exact visit_bnd n own ho bs d q hl hb h0 (fun x hx=>hr x (List.mem_cons_of_mem _ hx))
theorem visit_good {n:Nat} {d rest bs:List Int} {own:Int} (G:Good n d (own :: rest)) (hr:∀ b∈bs,0≤b∧b<(n:Int)):Good n (visit d rest own bs).1 (visit d rest own bs).2∧(visit d rest own bs).2.length+negs (visit d rest own bs).1=rest.length+negs d:=by
 obtain⟨o1,o2,o3⟩:=G.mem own List.mem_cons_self
 obtain⟨v1,v2,v3,v4,ns,v5,v6,v7,v8⟩:=visit_spec n own o1 bs d rest G.len o3 hr
 refine⟨⟨by rw[v1];exact G.len,visit_bnd n own o1 bs d rest G.len G.bnd o3 hr,fun x hx=>?_⟩,by rw[v5,List.length_append];omega⟩
 rw[v5] at hx
 rcases List.mem_append.mp hx with h|h
 ·obtain⟨x1,x2,x3⟩:=G.mem x (List.mem_cons_of_mem _ h)
  exact⟨x1,x2,by rw[v2 x x1 x3];exact x3⟩
 ·obtain⟨h1,h2⟩:=v7 x h
  exact⟨(hr x h1).1,(hr x h1).2,by omega⟩
theorem visit_drop (own:Int) (j:Nat):∀ (bs d q:List Int),j≤q.length→(visit d q own bs).1=(visit d (q.drop j) own bs).1∧(visit d q own bs).2.drop j=(visit d (q.drop j) own bs).2∧q.length≤(visit d q own bs).2.length
 |[],d,q,h=>⟨rfl,rfl,Nat.le_refl _⟩
 |b :: bs,d,q,h=>by
  unfold visit
  by_cases c:rd d b<0
  ·rw[if_pos c,if_pos c]
   have h1:=visit_drop own j bs (d.set b.toNat (rd d own+1)) (q++[b]) (by simp;omega)
   rw[List.drop_append_of_le_length h] at h1
   refine⟨h1.1,h1.2.1,?_⟩
   have:=h1.2.2
   simp only[List.length_append,List.length_cons,List.length_nil] at this
   omega
  ·rw[if_neg c,if_neg c]
   exact visit_drop own j bs d q h
theorem fromIn (W H:Int) (xs:List Int) (n:Nat) (hn:n≤64) (own:Int) (ho:0≤own) (bs:List Int) (hb4:bs.length≤4) (hr:∀ b∈bs,0≤b∧b<(n:Int)) (hon:own<(n:Int)) (K:Nat) (r:List Int) (p:Int) (hp0:0≤p) (hp1:p≤200) :
  ∀ (e:Nat) (i:Int) (d Q:List Int),0≤i→(bs.length:Int)-i=e→d.length=n→(∀ v,0≤v→rd d v+(negs d:Int)+1≤(n:Int))→0≤rd d own→Q.length+negs d≤200→p<(Q.length:Int)→rd Q p=own →
  (∀ k,K<k→spec_l5From.l1 k (visit d Q own (bs.drop i.toNat)).1 (visit d Q own (bs.drop i.toNat)).2 (p+1) W H xs=some r) →
  ∀ k,K+e+1<k→spec_l5From.l2 k d Q p bs i W H xs=some r:=by
 intro e
 induction e with
 |zero =>
  intro i d q h0 hd hl hb hown hq hpq hpo hk2 k hk
  obtain⟨k,rfl⟩:∃ j,k=j+1:=⟨k-1,by omega⟩
  have hlt:¬ i<(bs.length:Int):=by omega
  rw[List.drop_eq_nil_of_le (by omega)] at hk2
  rw[spec_l5From.l2,if_neg hlt,show wrap64 (p+1)=p+1 by unfold wrap64;omega]
  exact hk2 k (by omega)
 |succ e ih =>
  intro i d q h0 hd hl hb hown hq hpq hpo hk2 k hk
  obtain⟨k,rfl⟩:∃ j,k=j+1:=⟨k-1,by omega⟩
  have hlt:i<(bs.length:Int):=by omega
  have hw:wrap64 (i+1)=i+1:=by unfold wrap64;omega
  have hmem:rd bs i∈bs:=by
   have h1:i.toNat<bs.length:=by omega
   unfold rd
   rw[List.getD_eq_getElem?_getD,List.getElem?_eq_getElem h1]
   exact List.getElem_mem h1
  obtain⟨b0,b1⟩:=hr _ hmem
  rw[drop_step 0 bs i h0 hlt,show bs.getD i.toNat 0=rd bs i from rfl] at hk2
  unfold visit at hk2
  have hd1:rd bs i<(d.length:Int):=by omega
  have hd2:own<(d.length:Int):=by omega
  have hq1:q.length<17592186044416:=by omega
  have hbo:=hb own ho
  have hw2:wrap64 (rd d own+1)=rd d own+1:=by unfold wrap64;omega
  simp only[spec_l5From.l2,if_pos hlt,if_pos h0,if_pos b0,if_pos hd1,if_pos hp0,if_pos hpq,hpo,if_pos ho,if_pos hd2,if_pos hq1,hw,hw2]
  by_cases c:rd d (rd bs i)<0
  ·rw[if_pos c]
   rw[if_pos c] at hk2
   have hne:own≠rd bs i:=fun e=>by rw[e] at hown;omega
   have h2:rd (d.set (rd bs i).toNat (rd d own+1)) own=rd d own:=by rw[rd_set_b d _ own _ b0 (by omega) ho,if_neg hne]
   have h3:=negs_set d (rd bs i).toNat (rd d own+1) (by omega) c (by omega)
   refine ih (i+1) _ _ (by omega) (by omega) (by simpa using hl) (set_bnd hl hb ho hown b0 b1 c) (by rw[h2];exact hown) (by simp only[List.length_append,List.length_cons,List.length_nil];omega) (by simp only[List.length_append,List.length_cons,List.length_nil];omega) ?_ hk2 k (by omega)
   have h4:p.toNat<q.length:=by omega
   unfold rd at hpo ⊢
   rw[List.getD_eq_getElem?_getD,List.getElem?_append_left h4,←List.getD_eq_getElem?_getD]
   exact hpo
  ·rw[if_neg c]
   rw[if_neg c] at hk2
   exact ih (i+1) d q (by omega) (by omega) hl hb hown hq hpq hpo hk2 k (by omega)
theorem fromOut {W H:Int} {xs:List Int} (L:LandOk W H xs):∀ (f:Nat) (d Q:List Int) (p:Int),0≤p→p≤(Q.length:Int)→Q.length+negs d≤64→Good xs.length d (Q.drop p.toNat)→(Q.drop p.toNat).length+negs d≤f→f≤64→∀ k,110+8 * f<k→spec_l5From.l1 k d Q p W H xs=some (bfs (nearL W xs) f d (Q.drop p.toNat)):=by
 intro f
 induction f with
 |zero =>
  intro d Q p hp0 hp1 hQ G hf _ k hk
  obtain⟨k,rfl⟩:∃ j,k=j+1:=⟨k-1,by omega⟩
  rw[List.length_drop] at hf
  have c:¬ p<(Q.length:Int):=by omega
  rw[spec_l5From.l1,if_neg c]
  rfl
 |succ f ih =>
  intro d Q p hp0 hp1 hQ G hf hf6 k hk
  obtain⟨k,rfl⟩:∃ j,k=j+1:=⟨k-1,by omega⟩
  by_cases c:p<(Q.length:Int)
  ·have hcons:=drop_step 0 Q p hp0 c
   obtain⟨own,hown⟩:∃ own,own=rd Q p:=⟨_,rfl⟩
   rw[show Q.getD p.toNat 0=own from hown.symm] at hcons
   rw[hcons] at G hf ⊢
   obtain⟨rest,hrest⟩:∃ rest,rest=Q.drop (p+1).toNat:=⟨_,rfl⟩
   rw[←hrest] at G hf ⊢
   obtain⟨o1,o2,o3⟩:=G.mem own List.mem_cons_self
   have hle:=L.le
   have hr:∀ b∈nearL W xs own,0≤b∧b<(xs.length:Int):=fun b hb=>opn_in (near_open L ⟨o1,o2⟩ b hb)
   have g:=visit_good G hr
   have hlen:(own :: rest).length=rest.length+1:=rfl
   have h4:=near_len W own xs
   have vd:=visit_drop own (p+1).toNat (nearL W xs own) d Q (by omega)
   rw[←hrest] at vd
   rw[spec_l5From.l1,if_pos c,if_pos hp0,←hown,l4Near_ok L own ⟨o1,o2⟩ k (by omega),Option.bind_some]
   refine fromIn W H xs xs.length hle own o1 (nearL W xs own) h4 hr o2 (110+8 * f) _ p hp0 (by omega) (nearL W xs own).length 0 d Q (by omega) (by omega) G.len G.bnd o3 (by omega) c hown.symm (fun k hk=>?_) k (by omega)
   rw[Int.toNat_zero,List.drop_zero]
   have v6:(visit d Q own (nearL W xs own)).2.length+negs (visit d Q own (nearL W xs own)).1=Q.length+negs d:=by
    have e1:=g.2
    rw[←vd.2.1,←vd.1,List.length_drop] at e1
    rw[hrest,List.length_drop] at e1
    have:=vd.2.2
    omega
   rw[ih _ _ (p+1) (by omega) (by have:=vd.2.2;omega) (by omega) (by rw[vd.1,vd.2.1];exact g.1) (by rw[vd.1,vd.2.1];omega) (by omega) k hk,vd.1,vd.2.1]
   rfl
  ·rw[spec_l5From.l1,if_neg c,List.drop_eq_nil_of_le (by omega)]
   rfl
theorem negs_rep:∀ n:Nat,negs (List.replicate n (-1))=n
 |0=>rfl
 |n+1=>by
  rw[List.replicate_succ,negs,negs_rep n]
  simp
  omega
theorem rd_rep (n:Nat) (v:Int) (hv:0≤v):rd (List.replicate n (-1)) v=if v<(n:Int) then -1 else 0:=by
 unfold rd
 rw[List.getD_eq_getElem?_getD,List.getElem?_replicate]
 by_cases h:v<(n:Int)
 ·rw[if_pos h,if_pos (by omega)];rfl
 ·rw[if_neg h,if_neg (by omega)];rfl
def dist (W:Int) (xs:List Int) (a:Int):List Int:=bfs (nearL W xs) xs.length ((List.replicate xs.length (-1)).set a.toNat 0) [a]
theorem dist_good {n:Nat} {a:Int} (ha:0≤a∧a<(n:Int)):Good n ((List.replicate n (-1)).set a.toNat 0) [a]∧negs ((List.replicate n (-1)).set a.toNat 0)+1=n∧∀ v,0≤v→rd ((List.replicate n (-1)).set a.toNat 0) v=if v=a then 0 else if v<(n:Int) then -1 else 0:=by
 have h1:=negs_set (List.replicate n (-1)) a.toNat 0 (by simp;omega) (by have:=rd_rep n a ha.1;unfold rd at this;rw[this,if_pos ha.2];omega) (by omega)
 rw[negs_rep] at h1
 have hr:∀ v,0≤v→rd ((List.replicate n (-1)).set a.toNat 0) v=if v=a then 0 else if v<(n:Int) then -1 else 0:=fun v hv=>by
  rw[rd_set_b _ a v 0 ha.1 (by simp;omega) hv,rd_rep n v hv]
 refine⟨⟨by simp,fun v hv=>?_,fun x hx=>?_⟩,h1,hr⟩
 ·rw[hr v hv];split
  ·omega
  ·split <;> omega
 ·rw[List.mem_singleton] at hx
  subst hx
  rw[hr x ha.1,if_pos rfl]
  exact⟨ha.1,ha.2,by omega⟩
theorem dist_end {W H a:Int} {xs:List Int} (L:LandOk W H xs) (ha:0≤a∧a<(xs.length:Int)):BEnd (nearL W xs) xs.length a (dist W xs a):=by
 obtain⟨g,g2,hr⟩:=dist_good ha
 refine bfs_end (nearL W xs) xs.length a ha.1 ha.2 (fun u h0 h1 v hv=>opn_in (near_open L ⟨h0,h1⟩ v hv)) xs.length _ [a] 0 ⟨g.len,by omega,by rw[hr a ha.1,if_pos rfl],fun v hv h1 h2=>?_,⟨[a],[],rfl,fun x hx=>?_,fun x hx=>(by cases hx)⟩,fun v hv=>?_,fun v hv h1 h2 h3=>?_,fun u hu h1 h2 h3=>?_⟩ (by simp only[List.length_cons,List.length_nil];omega)
 ·rw[hr v hv] at h2
  by_cases e:v=a
  ·exact e
  ·rw[if_neg e,if_pos h1] at h2;omega
 ·rw[List.mem_singleton] at hx
  subst hx
  exact⟨ha.1,ha.2,by rw[hr x ha.1,if_pos rfl]⟩
 ·rw[hr v hv];split
  ·omega
  ·split <;> omega
 ·rw[hr v hv,if_neg h3,if_pos h1] at h2;omega
 ·have:u≠a:=fun e=>h3 (by rw[e];exact List.mem_singleton.mpr rfl)
  rw[hr u hu,if_neg this,if_pos h1] at h2;omega
theorem bfs_bnd {W H:Int} {xs:List Int} (L:LandOk W H xs):∀ (f:Nat) (d q:List Int),Good xs.length d q→∀ v,0≤v→rd (bfs (nearL W xs) f d q) v+1≤(xs.length:Int)
 |0,d,q,G,v,hv=>by have:=G.bnd v hv;simp only[bfs];omega
 |f+1,d,[],G,v,hv=>by have:=G.bnd v hv;simp only[bfs];omega
 |f+1,d,own :: rest,G,v,hv=>by
  obtain⟨o1,o2,o3⟩:=G.mem own List.mem_cons_self
  exact bfs_bnd L f _ _ (visit_good G (fun b hb=>opn_in (near_open L ⟨o1,o2⟩ b hb))).1 v hv
theorem dist_bnd {W H a:Int} {xs:List Int} (L:LandOk W H xs) (ha:0≤a∧a<(xs.length:Int)) (v:Int) (hv:0≤v):rd (dist W xs a) v≤63:=by
 have:=bfs_bnd L xs.length _ _ (dist_good ha).1 v hv
 have:=L.le
 unfold dist;omega
theorem dist_okS {W H:Int} {xs:List Int} (L:LandOk W H xs) (a:Int) (ha:opn xs a=true) (k:Nat) (hk:1000<k):spec_l5From.f k W H xs a=some (dist W xs a):=by
 obtain⟨a0,a1⟩:=opn_in ha
 have hle:=L.le
 obtain⟨g,g2,hr⟩:=dist_good (n:=xs.length) ⟨a0,a1⟩
 have build:∀ (e:Nat) (i:Int),0≤i→(xs.length:Int)-i=e→∀ k,800+e<k→spec_l5From.l0 k a (List.replicate i.toNat (-1)) i W H xs=some (dist W xs a):=by
  intro e
  induction e with
  |zero =>
   intro i h0 hd k hk
   have hlt:¬ i<(xs.length:Int):=by omega
   have hi:i.toNat=xs.length:=by omega
   have hlen:((List.replicate xs.length (-1:Int)).length:Int)=xs.length:=by simp
   obtain⟨k,rfl⟩:∃ j,k=j+1:=⟨k-1,by omega⟩
   have hlt2:a<((List.replicate xs.length (-1:Int)).length:Int):=by omega
   rw[spec_l5From.l0,if_neg hlt,hi,if_pos a0,if_pos hlt2]
   exact fromOut L xs.length _ [a] 0 (by omega) (by simp) (by simp only[List.length_cons,List.length_nil];omega) g (by simp only[Int.toNat_zero,List.drop_zero,List.length_cons,List.length_nil];omega) hle k (by omega)
  |succ e ih =>
   intro i h0 hd k hk
   have hlt:i<(xs.length:Int):=by omega
   have hw:wrap64 (i+1)=i+1:=by unfold wrap64;omega
   have hrep:List.replicate i.toNat (-1:Int)++[-1]=List.replicate (i+1).toNat (-1):=by
    rw[show (i+1).toNat=i.toNat+1 by omega,List.replicate_succ']
   have q1:(List.replicate i.toNat (-1:Int)).length<17592186044416:=by simp;omega
   obtain⟨k,rfl⟩:∃ j,k=j+1:=⟨k-1,by omega⟩
   rw[spec_l5From.l0,if_pos hlt,if_pos q1,hw,hrep]
   exact ih (i+1) (by omega) (by omega) k (by omega)
 unfold spec_l5From.f
 exact build xs.length 0 (by omega) (by omega) k (by omega)
theorem reach_loop (n:Int) (ds:List Int) (hn:ds.length≤64):∀ (e:Nat) (i:Int) (acc:List Int),0≤i→(ds.length:Int)-i=e→(acc.length:Int)≤i →
  ∃ r,r.length≤64∧∀ k,e<k→spec_Reach.l0 k n acc ds i=some r:=by
 intro e
 induction e with
 |zero =>
  intro i acc h0 he ha
  refine⟨acc,by omega,fun k hk=>?_⟩
  obtain⟨k,rfl⟩:∃ m,k=m+1:=⟨k-1,by omega⟩
  rw[spec_Reach.l0,if_neg (by omega)]
 |succ e ih =>
  intro i acc h0 he ha
  have hlt:i<(ds.length:Int):=by omega
  have hw:wrap64 (i+1)=i+1:=by unfold wrap64;omega
  have q1:acc.length<17592186044416:=by omega
  by_cases c:rd ds i≥0∧rd ds i≤n
  ·obtain⟨r,hr,hk2⟩:=ih (i+1) (acc++[i]) (by omega) (by omega) (by simp;omega)
   refine⟨r,hr,fun k hk=>?_⟩
   obtain⟨k,rfl⟩:∃ m,k=m+1:=⟨k-1,by omega⟩
   rw[spec_Reach.l0,if_pos hlt,if_pos h0,if_pos c.1,if_pos c.2,if_pos q1,hw]
   exact hk2 k (by omega)
  ·obtain⟨r,hr,hk2⟩:=ih (i+1) acc (by omega) (by omega) (by omega)
   refine⟨r,hr,fun k hk=>?_⟩
   obtain⟨k,rfl⟩:∃ m,k=m+1:=⟨k-1,by omega⟩
   rw[spec_Reach.l0,if_pos hlt,if_pos h0,hw]
   by_cases c1:rd ds i≥0
   ·rw[if_pos c1,if_neg (fun c2=>c ⟨c1,c2⟩)]
    exact hk2 k (by omega)
   ·rw[if_neg c1]
    exact hk2 k (by omega)
theorem reach_ev (W H:Int) (xs:List Int) (hn:xs.length≤64) (a n:Int):∃ r,r.length≤64∧∀ k,1100<k→spec_Reach.f k W H xs a n=some r:=by
 rcases land_cases W H xs (by omega) with L|no
 ·by_cases ha:opn xs a=true
  ·have hl:=(dist_end L (opn_in ha)).len
   obtain⟨r,hr,hk2⟩:=reach_loop n (dist W xs a) (by omega) xs.length 0 [] (by omega) (by omega) (by simp)
   refine⟨r,hr,fun k hk=>?_⟩
   unfold spec_Reach.f
   simp only[Option.bind_some,isOpen_ok L a k (by omega),if_pos ha,dist_okS L a ha k (by omega)]
   exact hk2 k (by omega)
  ·refine⟨[],by simp,fun k hk=>?_⟩
   unfold spec_Reach.f
   simp only[Option.bind_some,isOpen_ok L a k (by omega),if_neg ha]
 ·refine⟨[],by simp,fun k hk=>?_⟩
  unfold spec_Reach.f
  simp only[Option.bind_some,isOpen_no a k (no k (by omega)),Bool.false_eq_true,if_false]
def fitM (m:S46):Prop:=1≤m.f0∧m.f0≤99∧0≤m.f1∧m.f1≤100∧1≤m.f2∧m.f2≤10
theorem areCrew_loop (xs:List S46) (hn:xs.length≤1048576):∀ (d:Nat) (i:Int),0≤i→(xs.length:Int)-i=d →
  ∃ b,(∀ k,d<k→impl_AreCrew.l0 k xs xs (xs.length:Int) i=some b)∧(b=true→(1≤xs.length∧xs.length≤8)∧∀ j:Int,i≤j→j<(xs.length:Int)→fitM (rd_T46 xs j)):=by
 intro d
 induction d with
 |zero =>
  intro i h0 hd
  have hlt:¬ i<(xs.length:Int):=by omega
  refine⟨decide (1≤(xs.length:Int)∧(xs.length:Int)≤8),fun k hk=>?_,fun hb=>?_⟩
  ·obtain⟨k,rfl⟩:∃ m,k=m+1:=⟨k-1,by omega⟩
   simp only[impl_AreCrew.l0,if_neg hlt,inRange_eq,Option.bind_some]
  ·have:=of_decide_eq_true hb
   exact⟨by omega,fun j h1 h2=>by omega⟩
 |succ d ih =>
  intro i h0 hd
  have hlt:i<(xs.length:Int):=by omega
  obtain⟨b,hb,hp⟩:=ih (i+1) (by omega) (by omega)
  have hw:wrap64 (i-1)=i-1:=by unfold wrap64;omega
  by_cases ok:(1≤(rd_T46 xs i).f0∧(rd_T46 xs i).f0≤99∧0≤(rd_T46 xs i).f1∧(rd_T46 xs i).f1≤100∧1≤(rd_T46 xs i).f2∧(rd_T46 xs i).f2≤10)∧(i>0→(rd_T46 xs (i-1)).f0<(rd_T46 xs i).f0)
  ·refine⟨b,fun k hk=>?_,fun e=>⟨(hp e).1,fun j h1 h2=>?_⟩⟩
   ·obtain⟨k,rfl⟩:∃ m,k=m+1:=⟨k-1,by omega⟩
    have b1:=hb k (by omega)
    have e1:1≤(rd_T46 xs i).f0∧(rd_T46 xs i).f0≤99:=⟨ok.1.1,ok.1.2.1⟩
    have e2:0≤(rd_T46 xs i).f1∧(rd_T46 xs i).f1≤100:=⟨ok.1.2.2.1,ok.1.2.2.2.1⟩
    have e3:1≤(rd_T46 xs i).f2∧(rd_T46 xs i).f2≤10:=ok.1.2.2.2.2
    simp only[impl_AreCrew.l0,if_pos hlt,if_pos h0,inRange_eq,Option.bind_some,decide_eq_true_eq,if_pos e1,if_pos e2,if_pos e3,hw,wrap_small (n:=xs.length) h0 hlt hn]
    by_cases hi:i>0
    ·have h1:0≤i-1:=by omega
     have h2:i-1<(xs.length:Int):=by omega
     have h3:=ok.2 hi
     have h4:¬ (rd_T46 xs i).f0≤(rd_T46 xs (i-1)).f0:=by omega
     have h5:¬ (rd_T46 xs (i-1)).f0≥(rd_T46 xs i).f0:=by omega
     simp only[if_pos hi,if_pos h1,if_pos h2,if_neg h4,if_neg h5]
     exact b1
    ·simp only[if_neg hi]
     exact b1
   ·by_cases e2:j=i
    ·subst e2;exact ok.1
    ·exact(hp e).2 j (by omega) h2
  ·refine⟨false,fun k hk=>?_,fun e=>by cases e⟩
   obtain⟨k,rfl⟩:∃ m,k=m+1:=⟨k-1,by omega⟩
   simp only[impl_AreCrew.l0,if_pos hlt,if_pos h0,inRange_eq,Option.bind_some,decide_eq_true_eq,hw]
   repeat' split
   all_goals first|rfl|(exfalso;omega)
theorem areCrew_ev (xs:List S46) (hn:xs.length≤1048576):∃ b,(∀ k,xs.length<k→impl_AreCrew.f k xs=some b)∧(b=true→(1≤xs.length∧xs.length≤8)∧∀ j:Int,0≤j→j<(xs.length:Int)→fitM (rd_T46 xs j)):=by
 obtain⟨b,h,hp⟩:=areCrew_loop xs hn xs.length 0 (by omega) (by omega)
 exact⟨b,h,hp⟩
def fsM:List S46→Int
 |[]=>0
 |m :: ms=>m.f2+fsM ms
theorem fsM_bound:∀ l:List S46,(∀ m∈l,fitM m)→(l.length:Int)≤fsM l∧fsM l≤10 * (l.length:Int)
 |[],_=>by simp[fsM]
 |m :: ms,h=>by
  have h1:=fsM_bound ms (fun x hx=>h x (List.mem_cons_of_mem _ hx))
  have h2:=h m (List.mem_cons_self)
  unfold fitM at h2
  simp only[fsM,List.length_cons]
  omega
theorem fit_mem {xs:List S46} (h:∀ j:Int,0≤j→j<(xs.length:Int)→fitM (rd_T46 xs j)):∀ m∈xs,fitM m:=by
 intro m hm
 obtain⟨j,hj,rfl⟩:=List.mem_iff_getElem.mp hm
 have:=h (j:Int) (by omega) (by omega)
 unfold rd_T46 at this
 simpa [List.getD_eq_getElem?_getD,List.getElem?_eq_getElem hj] using this
theorem needOf_loop (xs:List S46) (hn:xs.length≤8) (hfit:∀ m∈xs,fitM m):∀ (d:Nat) (i a:Int),0≤i→(xs.length:Int)-i=d→0≤a→a≤1000-10 * d →
  ∀ k,xs.length+d+2<k→impl_NeedOf.l0 k a xs (xs.length:Int) i=some (a+fsM (xs.drop i.toNat)):=by
 intro d
 induction d with
 |zero =>
  intro i a h0 hd _ _ k hk
  obtain⟨k,rfl⟩:∃ m,k=m+1:=⟨k-1,by omega⟩
  have hlt:¬ i<(xs.length:Int):=by omega
  simp only[impl_NeedOf.l0,if_neg hlt,List.drop_eq_nil_of_le (show xs.length≤i.toNat by omega),fsM,Int.add_zero]
 |succ d ih =>
  intro i a h0 hd ha hb k hk
  obtain⟨k,rfl⟩:∃ m,k=m+1:=⟨k-1,by omega⟩
  have hlt:i<(xs.length:Int):=by omega
  have hm:fitM (rd_T46 xs i):=hfit _ (by
   unfold rd_T46
   have h1:i.toNat<xs.length:=by omega
   simp[List.getD_eq_getElem?_getD,List.getElem?_eq_getElem h1])
  unfold fitM at hm
  have hw:wrap64 (a+(rd_T46 xs i).f2)=a+(rd_T46 xs i).f2:=by unfold wrap64;omega
  have h1:=ih (i+1) (a+(rd_T46 xs i).f2) (by omega) (by omega) (by omega) (by omega) k (by omega)
  rw[drop_step z46 xs i h0 hlt,show xs.getD i.toNat z46=rd_T46 xs i from rfl]
  simp only[impl_NeedOf.l0,if_pos hlt,if_pos h0,hw,wrap_small (n:=xs.length) h0 hlt (by omega),fsM,h1,Int.add_assoc]
theorem needOf_ev (xs:List S46) (hn:xs.length≤1048576):∃ b c,(∀ k,xs.length<k→impl_AreCrew.f k xs=some b) ∧
  (b=true→c=fsM xs∧1≤xs.length∧xs.length≤8∧(∀ m∈xs,fitM m)∧1≤c∧c≤80)∧(b=false→c=0) ∧
  ∀ k,2 * xs.length+3<k→impl_NeedOf.f k xs=some c:=by
 obtain⟨b,hb,hp⟩:=areCrew_ev xs hn
 cases b with
 |true =>
  obtain⟨⟨h1,h8⟩,hf⟩:=hp rfl
  have hm:=fit_mem hf
  have hbd:=fsM_bound xs hm
  refine⟨true,fsM xs,hb,fun _=>⟨rfl,h1,h8,hm,by omega,by omega⟩,(fun e=>by cases e),fun k hk=>?_⟩
  have h3:=needOf_loop xs h8 hm xs.length 0 0 (by omega) (by omega) (by omega) (by omega) k (by omega)
  rw[Int.toNat_zero,List.drop_zero,Int.zero_add] at h3
  unfold impl_NeedOf.f
  simp only[hb k (by omega),Option.bind_some,if_true]
  exact h3
 |false =>
  refine⟨false,0,hb,fun e=>(by cases e),fun _=>rfl,fun k hk=>?_⟩
  unfold impl_NeedOf.f
  simp only[hb k (by omega),Option.bind_some,Bool.false_eq_true,if_false]
theorem capOf2_loop (xs:List S46) (hn:xs.length≤1048576) (h8:xs.length≤8) (hf:∀ j:Int,0≤j→j<(xs.length:Int)→fitM (rd_T46 xs j)):∀ (d:Nat) (i a:Int),0≤i→(xs.length:Int)-i=d→0≤a→a≤100 * i →
  ∃ c,(0≤c∧c≤800)∧∀ k,xs.length+2 * d+2<k→impl_CapOf.l0 k a xs (xs.length:Int) i=some c:=by
 intro d
 induction d with
 |zero =>
  intro i a h0 hd ha ha2
  have hlt:¬ i<(xs.length:Int):=by omega
  refine⟨a,⟨ha,by omega⟩,fun k hk=>?_⟩
  obtain⟨k,rfl⟩:∃ m,k=m+2:=⟨k-2,by omega⟩
  simp only[impl_CapOf.l0,if_neg hlt]
 |succ d ih =>
  intro i a h0 hd ha ha2
  have hm:=hf i h0 (by omega)
  unfold fitM at hm
  have hwa:wrap64 (a+(rd_T46 xs i).f1)=a+(rd_T46 xs i).f1:=by unfold wrap64;omega
  have hlt:i<(xs.length:Int):=by omega
  by_cases hf:(rd_T46 xs i).f3=true
  ·obtain⟨c,hcb,hk2⟩:=ih (i+1) a (by omega) (by omega) ha (by omega)
   refine⟨c,hcb,fun k hk=>?_⟩
   obtain⟨k,rfl⟩:∃ m,k=m+2:=⟨k-2,by omega⟩
   have h1:=hk2 (k+1) (by omega)
   rw[impl_CapOf.l0]
   simp only[if_pos hlt,if_pos h0,if_pos hf,wrap_small (n:=xs.length) h0 hlt hn]
   exact h1
  ·obtain⟨c,hcb,hk2⟩:=ih (i+1) (wrap64 (a+(rd_T46 xs i).f1)) (by omega) (by omega) (by omega) (by omega)
   refine⟨c,hcb,fun k hk=>?_⟩
   obtain⟨k,rfl⟩:∃ m,k=m+2:=⟨k-2,by omega⟩
   have h1:=hk2 (k+1) (by omega)
   rw[impl_CapOf.l0]
   simp only[if_pos hlt,if_pos h0,if_neg hf,wrap_small (n:=xs.length) h0 hlt hn]
   exact h1
theorem capOf_ev2 (xs:List S46) (hn:xs.length≤1048576):∃ c,(0≤c∧c≤800)∧∀ k,3 * xs.length+3<k→impl_CapOf.f k xs=some c:=by
 obtain⟨b,hb,hp⟩:=areCrew_ev xs hn
 cases b with
 |true =>
  obtain⟨⟨h1,h8⟩,hf⟩:=hp rfl
  obtain⟨c,hcb,hc⟩:=capOf2_loop xs hn h8 hf xs.length 0 0 (by omega) (by omega) (by omega) (by omega)
  refine⟨c,hcb,fun k hk=>?_⟩
  unfold impl_CapOf.f
  simp only[hb k (by omega),Option.bind_some,if_true]
  exact hc k (by omega)
 |false =>
  refine⟨0,by omega,fun k hk=>?_⟩
  unfold impl_CapOf.f
  simp only[hb k (by omega),Option.bind_some,Bool.false_eq_true,if_false]
theorem copied_ev (a b:Int) (l:List S46) (h:List Bool) (hl:l.length≤1048576) (hh:h.length≤1048576):impl_Party_copied.f a b l h=some (a,b,l,h)∧spec_l9Copy.f a b l h=some (a,b,l,h):=by
 have e1:([]:List S46).length+l.length<4398046511104:=by simp;omega
 have e2:([]:List Bool).length+h.length<140737488355328:=by simp;omega
 unfold impl_Party_copied.f spec_l9Copy.f impl_copyCrew.f
 simp only[Option.bind_some,if_pos e1,if_pos e2,List.nil_append,and_self]
theorem pickUp_law (a b n:Int) (l:List S46) (h:List Bool) (hl:l.length≤1048576) (hh:h.length≤1048576) (hb:-1≤b∧b≤10001) (hn:-1≤n∧n≤10000) :
  ∃ o R C,0≤o∧o≤R∧(0<o→o≤n∧b+o≤C)∧(0≤C∧C≤800)∧(0≤R∧R≤801)∧(∀ k,3 * l.length+3<k→impl_CapOf.f k l=some C)∧(∀ k,3 * l.length+3<k→impl_RoomFor.f k a b l h=some R)∧∀ k,3 * l.length+3<k→impl_PickUp.f k a b l h n=some (a,b+o,l,h,o):=by
 obtain⟨C,hC,hcap⟩:=capOf_ev2 l hl
 have c1:=(copied_ev a b l h hl hh).1
 obtain⟨R,hR,hRC,hroom⟩:∃ R,(0≤R∧R≤801)∧(0<R→R=C-b∧0≤b)∧∀ k,3 * l.length+3<k→impl_RoomFor.f k a b l h=some R:=by
  by_cases h1:b<0
  ·refine⟨0,by omega,by omega,fun k hk=>?_⟩
   unfold impl_RoomFor.f
   simp only[if_pos h1]
  ·by_cases h2:b≥C
   ·refine⟨0,by omega,by omega,fun k hk=>?_⟩
    unfold impl_RoomFor.f
    simp only[hcap k hk,Option.bind_some,if_neg h1,if_pos h2]
   ·refine⟨C-b,by omega,by omega,fun k hk=>?_⟩
    have hw:wrap64 (C-b)=C-b:=by unfold wrap64;omega
    unfold impl_RoomFor.f
    simp only[hcap k hk,Option.bind_some,if_neg h1,if_neg h2,hw]
 by_cases h0:n<0
 ·refine⟨0,R,C,by omega,by omega,by omega,hC,hR,hcap,hroom,fun k hk=>?_⟩
  unfold impl_PickUp.f
  simp only[c1,Option.bind_some,if_pos h0,Int.add_zero]
 ·have e:mn n R≤n∧mn n R≤R∧0≤mn n R:=by unfold mn;split <;> omega
  have hw:wrap64 (b+mn n R)=b+mn n R:=by unfold wrap64;omega
  refine⟨mn n R,R,C,by omega,by omega,by omega,hC,hR,hcap,hroom,fun k hk=>?_⟩
  unfold impl_PickUp.f
  simp only[c1,Option.bind_some,if_neg h0,hroom k hk,hw]
structure Eats (a:Int) (l:List S46) (h:List Bool) (N:Int) (c:Bool):Prop where
 crew:∀ k,3 * l.length+3<k→impl_AreCrew.f k l=some c
 need:∀ k,3 * l.length+3<k→impl_NeedOf.f k l=some N
 pos:c=true→1≤N∧N≤80
theorem eat_yes {a b N:Int} {l:List S46} {h:List Bool} (E:Eats a l h N true) (hl:l.length≤1048576) (hh:h.length≤1048576) (hb:N≤b) (hb2:b≤10001) (k:Nat) (hk:3 * l.length+3<k):impl_Eat.f k a b l h=some (a,b-N,l,h,true):=by
 have c1:=(copied_ev a b l h hl hh).1
 have hp:=E.pos rfl
 have hw:wrap64 (b-N)=b-N:=by unfold wrap64;omega
 unfold impl_Eat.f
 simp only[c1,Option.bind_some,E.crew k hk,E.need k hk,if_true,if_neg (show ¬ b<N by omega),hw]
theorem eat_no {a b N:Int} {l:List S46} {h:List Bool} {c:Bool} (E:Eats a l h N c) (hl:l.length≤1048576) (hh:h.length≤1048576) (hb:c=true→b<N) (k:Nat) (hk:3 * l.length+3<k):impl_Eat.f k a b l h=some (a,b,l,h,false):=by
 have c1:=(copied_ev a b l h hl hh).1
 unfold impl_Eat.f
 cases c with
 |true=>simp only[c1,Option.bind_some,E.crew k hk,E.need k hk,if_true,if_pos (hb rfl)]
 |false=>simp only[c1,Option.bind_some,E.crew k hk,Bool.false_eq_true,if_false]
theorem eats_ev (a:Int) (l:List S46) (h:List Bool) (hl:l.length≤1048576):∃ N c,Eats a l h N c:=by
 obtain⟨c,N,h1,h2,h3,h4⟩:=needOf_ev l hl
 exact⟨N,c,fun k hk=>h1 k (by omega),fun k hk=>h4 k (by omega),fun e=>⟨(h2 e).2.2.2.2.1,(h2 e).2.2.2.2.2⟩⟩
theorem days_ev {a b N:Int} {l:List S46} {h:List Bool} {c:Bool} (E:Eats a l h N c) (hb:-1≤b∧b≤10001):∃ d:Int,0≤d∧d≤10001∧(c=true→0≤b→d * N≤b∧b<d * N+N)∧((c=false∨b<0)→d=0)∧∀ k,3 * l.length+3<k→impl_DaysOfFood.f k a b l h=some d:=by
 cases c with
 |false =>
  refine⟨0,by omega,by omega,(fun e=>by cases e),fun _=>rfl,fun k hk=>?_⟩
  unfold impl_DaysOfFood.f
  simp only[E.crew k hk,Option.bind_some,Bool.false_eq_true,if_false]
 |true =>
  have hp:=E.pos rfl
  by_cases h0:b<0
  ·refine⟨0,by omega,by omega,fun _ h=>by omega,fun _=>rfl,fun k hk=>?_⟩
   unfold impl_DaysOfFood.f
   simp only[E.crew k hk,Option.bind_some,if_true,if_pos h0]
  ·have e1:Int.tdiv b N=b / N:=Int.tdiv_eq_ediv_of_nonneg (by omega)
   have e2:0≤b / N:=Int.ediv_nonneg (by omega) (by omega)
   have e3:b / N≤b:=Int.ediv_le_self N (by omega)
   have e4:=Int.ediv_mul_le b (show N≠0 by omega)
   have e5:=Int.lt_ediv_add_one_mul_self b (show 0<N by omega)
   have hw:wrap64 (b / N)=b / N:=by unfold wrap64;omega
   refine⟨b / N,e2,by omega,fun _ _=>⟨e4,by rw[Int.add_mul,Int.one_mul] at e5;exact e5⟩,fun hh=>by(rcases hh with hh|hh;cases hh;omega),fun k hk=>?_⟩
   unfold impl_DaysOfFood.f
   simp only[E.crew k hk,E.need k hk,Option.bind_some,if_true,if_neg h0,if_neg (show ¬ N=0 by omega),e1,hw]
def allP (p:Int→Bool):Nat→Int→Bool
 |0,_=>true
 |d+1,i=>if p i=true then false else allP p d (i+1)
def pM (l9 m9:List S46) (i:Int):Bool:=(!(((rd_T46 l9 i).f0)==((rd_T46 m9 i).f0)) || (!(((rd_T46 l9 i).f1)==((rd_T46 m9 i).f1)) || (!(((rd_T46 l9 i).f2)==((rd_T46 m9 i).f2)) || (!(((rd_T46 l9 i).f3)==((rd_T46 m9 i).f3))))))
def pB (l10 m10:List Bool) (i:Int):Bool:=(rdOf false l10 i) != (rdOf false m10 i)
theorem pM_comm (l m:List S46):pM l m=pM m l:=by
 funext i
 unfold pM
 rw[BEq.comm (a:=(rd_T46 l i).f0),BEq.comm (a:=(rd_T46 l i).f1),BEq.comm (a:=(rd_T46 l i).f2),BEq.comm (a:=(rd_T46 l i).f3)]
theorem pB_comm (l m:List Bool):pB l m=pB m l:=by
 funext i
 unfold pB bne
 rw[BEq.comm (a:=rdOf false l i)]
theorem allP_no (p:Int→Bool) (h:∀ i,p i=false):∀ d i,allP p d i=true
 |0,_=>rfl
 |d+1,i=>by rw[allP,h i,if_neg (by decide)];exact allP_no p h d (i+1)
def eqv (a7:Int) (a8:Int) (l9:List S46) (l10:List Bool) (b7:Int) (b8:Int) (m9:List S46) (m10:List Bool):Bool :=
 if a7=b7∧a8=b8∧l9.length=m9.length∧l10.length=m10.length then allP (pM l9 m9) l9.length 0 && allP (pB l10 m10) l10.length 0 else false
theorem eqv_comm (a7:Int) (a8:Int) (l9:List S46) (l10:List Bool) (b7:Int) (b8:Int) (m9:List S46) (m10:List Bool):eqv a7 a8 l9 l10 b7 b8 m9 m10=eqv b7 b8 m9 m10 a7 a8 l9 l10:=by
 unfold eqv
 by_cases h:a7=b7∧a8=b8∧l9.length=m9.length∧l10.length=m10.length
 ·obtain⟨h1,h2,h3,h4⟩:=h
  rw[if_pos ⟨h1,h2,h3,h4⟩,if_pos ⟨h1.symm,h2.symm,h3.symm,h4.symm⟩,pM_comm l9,pB_comm l10,h3,h4]
 ·rw[if_neg h,if_neg (fun g=>h ⟨g.1.symm,g.2.1.symm,g.2.2.1.symm,g.2.2.2.symm⟩)]
theorem eqv_self (a7:Int) (a8:Int) (l9:List S46) (l10:List Bool):eqv a7 a8 l9 l10 a7 a8 l9 l10=true:=by
 unfold eqv
 rw[if_pos ⟨rfl,rfl,rfl,rfl⟩,allP_no _ (fun i=>by simp[pM]),allP_no _ (fun i=>by simp[pB])]
 rfl
theorem iPasts (a7:Int) (a8:Int) (l9:List S46) (l10:List Bool) (b7:Int) (b8:Int) (m9:List S46) (m10:List Bool) (hn:l10.length≤1048576) (hl:m10.length=l10.length):∀ (d k:Nat) (i:Int),0≤i→(l10.length:Int)-i=d→d<k →
  impl_EqualParties.l1 k (l10.length:Int) i a7 a8 l9 l10 b7 b8 m9 m10=some (allP (pB l10 m10) d i):=by
 intro d
 induction d with
 |zero =>
  intro k i h0 hd hk
  obtain⟨k,rfl⟩:∃ m,k=m+1:=⟨k-1,by omega⟩
  have hlt:¬ i<(l10.length:Int):=by omega
  simp only[impl_EqualParties.l1,if_neg hlt,allP]
 |succ d ih =>
  intro k i h0 hd hk
  obtain⟨k,rfl⟩:∃ m,k=m+1:=⟨k-1,by omega⟩
  have hlt:i<(l10.length:Int):=by omega
  have hlt2:i<(m10.length:Int):=by omega
  have hi:=ih k (i+1) (by omega) (by omega) (by omega)
  by_cases e:pB l10 m10 i=true
  ·have e2:=e
   unfold pB at e2
   simp only[impl_EqualParties.l1,if_pos hlt,if_pos hlt2,if_pos h0,if_pos e2,allP,if_pos e]
  ·have e2:=e
   unfold pB at e2
   simp only[impl_EqualParties.l1,if_pos hlt,if_pos hlt2,if_pos h0,if_neg e2,allP,if_neg e,wrap_small (n:=l10.length) h0 hlt hn]
   exact hi
theorem iCrews (a7:Int) (a8:Int) (l9:List S46) (l10:List Bool) (b7:Int) (b8:Int) (m9:List S46) (m10:List Bool) (hn:l9.length≤1048576) (hl:m9.length=l9.length) (hn2:l10.length≤1048576) (hl2:m10.length=l10.length):∀ (d k:Nat) (i:Int),0≤i→(l9.length:Int)-i=d→d+l10.length+2<k →
  impl_EqualParties.l0 k (l9.length:Int) i a7 a8 l9 l10 b7 b8 m9 m10=some (allP (pM l9 m9) d i && allP (pB l10 m10) l10.length 0):=by
 intro d
 induction d with
 |zero =>
  intro k i h0 hd hk
  obtain⟨k,rfl⟩:∃ m,k=m+1:=⟨k-1,by omega⟩
  have hlt:¬ i<(l9.length:Int):=by omega
  simp only[impl_EqualParties.l0,if_neg hlt,allP,iPasts a7 a8 l9 l10 b7 b8 m9 m10 hn2 hl2 l10.length k 0 (by omega) (by omega) (by omega),Bool.true_and]
 |succ d ih =>
  intro k i h0 hd hk
  obtain⟨k,rfl⟩:∃ m,k=m+1:=⟨k-1,by omega⟩
  have hlt:i<(l9.length:Int):=by omega
  have hlt2:i<(m9.length:Int):=by omega
  have hi:=ih k (i+1) (by omega) (by omega) (by omega)
  by_cases e:pM l9 m9 i=true
  ·have e2:=e
   unfold pM at e2
   simp only[impl_EqualParties.l0,if_pos hlt,if_pos hlt2,if_pos h0,if_pos e2,allP,if_pos e,Bool.false_and]
  ·have e2:=e
   unfold pM at e2
   simp only[impl_EqualParties.l0,if_pos hlt,if_pos hlt2,if_pos h0,if_neg e2,allP,if_neg e,wrap_small (n:=l9.length) h0 hlt hn]
   exact hi
theorem eqI_ev (a7:Int) (a8:Int) (l9:List S46) (l10:List Bool) (b7:Int) (b8:Int) (m9:List S46) (m10:List Bool) (hn:l9.length≤1048576) (hn2:l10.length≤1048576) (k:Nat) (hk:l9.length+l10.length+5<k):impl_EqualParties.f k a7 a8 l9 l10 b7 b8 m9 m10=some (eqv a7 a8 l9 l10 b7 b8 m9 m10):=by
 obtain⟨k,rfl⟩:∃ m,k=m+1:=⟨k-1,by omega⟩
 unfold impl_EqualParties.f eqv
 by_cases c0:a7=b7
 ·by_cases c1:a8=b8
  ·by_cases c2:(l9.length:Int)=(m9.length:Int)
   ·by_cases c3:(l10.length:Int)=(m10.length:Int)
    ·have hb:((l10.length:Int) != (m10.length:Int))=false:=by rw[c3];exact bne_self_eq_false _
     have q1:=iCrews a7 a8 l9 l10 b7 b8 m9 m10 hn (by omega) hn2 (by omega) l9.length k 0 (by omega) (by omega) (by omega)
     rw[if_pos c0,if_pos c1,if_pos c2,hb,if_pos ⟨c0,c1,by omega,by omega⟩,impl_EqualParties.j0,if_neg (by decide)]
     exact q1
    ·have hb:((l10.length:Int) != (m10.length:Int))=true:=by rw[bne_iff_ne];exact c3
     rw[if_pos c0,if_pos c1,if_pos c2,hb,if_neg (fun g=>c3 (by rw[g.2.2.2])),impl_EqualParties.j0,if_pos rfl]
   ·rw[if_pos c0,if_pos c1,if_neg c2,if_neg (fun g=>c2 (by rw[g.2.2.1])),impl_EqualParties.j0,if_pos rfl]
  ·rw[if_pos c0,if_neg c1,if_neg (fun g=>c1 g.2.1),impl_EqualParties.j0,if_pos rfl]
 ·rw[if_neg c0,if_neg (fun g=>c0 g.1),impl_EqualParties.j0,if_pos rfl]
theorem once_ev (d:List Int) (p s n:Int) (hd:d.length≤1048576) (hp:0≤p) (hp2:p≤d.length):∃ v p' s',spec_l1Once.f d p s n=some (v,p',s')∧0≤p'∧p'≤d.length:=by
 obtain⟨a,p',s',h,_,h1,h2⟩:=below_ev d p s n hd hp hp2
 exact⟨a==0,p',s',by unfold spec_l1Once.f;rw[h];rfl,h1,h2⟩
theorem crewDraw_loop (d:List Int) (hd:d.length≤1048576):∀ (e:Nat) (l:List S46) (i p s:Int),1≤i→5-i≤e→(l.length:Int)+1=i→i≤6→0≤p→p≤d.length →
  ∃ q p' s',1≤q.length∧q.length≤6∧0≤p'∧p'≤(d.length:Int)∧∀ k,e<k→spec_l7Draw.l0 k l i d p s=some (q,p',s'):=by
 intro e
 induction e with
 |zero =>
  intro l i p s h1 he hl h7 hp hp2
  obtain⟨a,p1,s1,e1,⟨ha0,ha1,_⟩,hp1,hp1'⟩:=below_ev d p s 4 hd hp hp2
  have:=ha1 (by omega)
  have hw:wrap64 (1+a)=1+a:=by unfold wrap64;omega
  have hc:¬ i≤1+a:=by omega
  refine⟨l,p1,s1,by omega,by omega,hp1,hp1',fun k hk=>?_⟩
  obtain⟨k,rfl⟩:∃ m,k=m+1:=⟨k-1,by omega⟩
  simp only[spec_l7Draw.l0,e1,Option.bind_some,hw,if_neg hc]
 |succ e ih =>
  intro l i p s h1 he hl h7 hp hp2
  obtain⟨a,p1,s1,e1,⟨ha0,ha1,_⟩,hp1,hp1'⟩:=below_ev d p s 4 hd hp hp2
  have:=ha1 (by omega)
  have hw:wrap64 (1+a)=1+a:=by unfold wrap64;omega
  by_cases hc:i≤1+a
  ·obtain⟨b,p2,s2,e2,_,hp2a,hp2b⟩:=below_ev d p1 s1 20 hd hp1 hp1'
   obtain⟨c,p3,s3,e3,_,hp3,hp3'⟩:=below_ev d p2 s2 3 hd hp2a hp2b
   obtain⟨f,p4,s4,e4,hp4,hp4'⟩:=once_ev d p3 s3 8 hd hp3 hp3'
   obtain⟨q,p',s',hq1,hq,hp',hp'',hk2⟩:=ih (l++[⟨wrap64 (2 * i),wrap64 (5+b),wrap64 (1+c),f⟩]) (i+1) p4 s4 (by omega) (by omega) (by simp;omega) (by omega) hp4 hp4'
   refine⟨q,p',s',hq1,hq,hp',hp'',fun k hk=>?_⟩
   obtain⟨k,rfl⟩:∃ m,k=m+1:=⟨k-1,by omega⟩
   have hlen:l.length<4398046511104:=by omega
   have hw2:wrap64 (i+1)=i+1:=by unfold wrap64;omega
   simp only[spec_l7Draw.l0,e1,Option.bind_some,hw,if_pos hc,e2,e3,e4,if_pos hlen,hw2]
   exact hk2 k (by omega)
  ·refine⟨l,p1,s1,by omega,by omega,hp1,hp1',fun k hk=>?_⟩
   obtain⟨k,rfl⟩:∃ m,k=m+1:=⟨k-1,by omega⟩
   simp only[spec_l7Draw.l0,e1,Option.bind_some,hw,if_neg hc]
theorem crewAny_ev (d:List Int) (p s:Int) (hd:d.length≤1048576) (hp:0≤p) (hp2:p≤d.length):∃ q p' s',q.length≤6∧0≤p'∧p'≤(d.length:Int)∧∀ k,20<k→spec_l7Any.f k d p s=some (q,p',s'):=by
 obtain⟨l,p1,s1,hl1,hl,hp1,hp1',hk1⟩:=crewDraw_loop d hd 5 [] 1 p s (by omega) (by omega) (by simp) (by omega) hp hp2
 obtain⟨b,p2,s2,e2,⟨hb0,hb1,_⟩,hp2a,hp2b⟩:=below_ev d p1 s1 (l.length:Int) hd hp1 hp1'
 have hb:=hb1 (by omega)
 obtain⟨c,p3,s3,e3,_,hp3,hp3'⟩:=below_ev d p2 s2 12 hd hp2a hp2b
 have h1:∀ k,20<k→spec_l7Draw.f k d p s=some (l,p1,s1):=fun k hk=>hk1 k (by omega)
 unfold spec_l7Any.f
 by_cases c0:c=0
 ·obtain⟨v,p4,s4,e4,_,hp4,hp4'⟩:=int_ev d p3 s3 [0,2,99,100] (by simp) hd hp3 hp3'
  refine⟨l.set b.toNat ⟨v,(rd_T46 l b).f1,(rd_T46 l b).f2,(rd_T46 l b).f3⟩,p4,s4,by rw[List.length_set];omega,hp4,hp4',fun k hk=>?_⟩
  simp only[h1 k hk,Option.bind_some,e2,e3,if_pos c0,e4,if_pos hb0,if_pos hb]
 ·by_cases c1:c=1
  ·obtain⟨v,p4,s4,e4,_,hp4,hp4'⟩:=int_ev d p3 s3 [(-1),100,101] (by simp) hd hp3 hp3'
   refine⟨l.set b.toNat ⟨(rd_T46 l b).f0,v,(rd_T46 l b).f2,(rd_T46 l b).f3⟩,p4,s4,by rw[List.length_set];omega,hp4,hp4',fun k hk=>?_⟩
   simp only[h1 k hk,Option.bind_some,e2,e3,if_neg c0,if_pos c1,e4,if_pos hb0,if_pos hb]
  ·by_cases c2:c=2
   ·obtain⟨v,p4,s4,e4,_,hp4,hp4'⟩:=int_ev d p3 s3 [0,10,11] (by simp) hd hp3 hp3'
    refine⟨l.set b.toNat ⟨(rd_T46 l b).f0,(rd_T46 l b).f1,v,(rd_T46 l b).f3⟩,p4,s4,by rw[List.length_set];omega,hp4,hp4',fun k hk=>?_⟩
    simp only[h1 k hk,Option.bind_some,e2,e3,if_neg c0,if_neg c1,if_pos c2,e4,if_pos hb0,if_pos hb]
   ·by_cases c3:c=3
    ·refine⟨[],p3,s3,by simp,hp3,hp3',fun k hk=>?_⟩
     simp only[h1 k hk,Option.bind_some,e2,e3,if_neg c0,if_neg c1,if_neg c2,if_pos c3]
    ·refine⟨l,p3,s3,hl,hp3,hp3',fun k hk=>?_⟩
     simp only[h1 k hk,Option.bind_some,e2,e3,if_neg c0,if_neg c1,if_neg c2,if_neg c3]
theorem l4Draw_loop (d:List Int) (hd:d.length≤1048576) (W H n:Int) (hn:wrap64 (W * H)=n) (h1:1≤n) (h2:n≤64):∀ (e:Nat) (i:Int) (acc:List Int) (p s:Int),0≤i→n-i=e→(acc.length:Int)=i→0≤p→p≤d.length →
  ∃ xs p' s',(xs.length:Int)=n∧0≤p'∧p'≤(d.length:Int)∧∀ k,e<k→spec_l4Draw.l0 k i d p s W H acc=some (W,H,xs,p',s'):=by
 intro e
 induction e with
 |zero =>
  intro i acc p s h0 he ha hp hp2
  refine⟨acc.set (0:Int).toNat 0,p,s,by rw[List.length_set];omega,hp,hp2,fun k hk=>?_⟩
  obtain⟨k,rfl⟩:∃ m,k=m+1:=⟨k-1,by omega⟩
  rw[spec_l4Draw.l0,hn,if_neg (by omega),if_pos (by omega)]
 |succ e ih =>
  intro i acc p s h0 he ha hp hp2
  obtain⟨v,p1,s1,e1,_,hp1,hp1'⟩:=int_ev d p s [0,0,0,0,1,2] (by simp) hd hp hp2
  obtain⟨xs,p',s',hx,hp',hp'',hk2⟩:=ih (i+1) (acc++[v]) p1 s1 (by omega) (by omega) (by simp;omega) hp1 hp1'
  refine⟨xs,p',s',hx,hp',hp'',fun k hk=>?_⟩
  obtain⟨k,rfl⟩:∃ m,k=m+1:=⟨k-1,by omega⟩
  have hw:wrap64 (i+1)=i+1:=by unfold wrap64;omega
  have q1:acc.length<17592186044416:=by omega
  rw[spec_l4Draw.l0,hn,if_pos (by omega),e1,Option.bind_some,if_pos q1,hw]
  exact hk2 k (by omega)
theorem l4Draw_ev (d:List Int) (p s:Int) (hd:d.length≤1048576) (hp:0≤p) (hp2:p≤d.length):∃ W H xs p' s',(1≤xs.length∧xs.length≤64)∧0≤p'∧p'≤(d.length:Int)∧∀ k,70<k→spec_l4Draw.f k d p s=some (W,H,xs,p',s'):=by
 obtain⟨a,p1,s1,e1,⟨a0,a1,_⟩,hp1,hp1'⟩:=below_ev d p s 5 hd hp hp2
 obtain⟨b,p2,s2,e2,⟨b0,b1,_⟩,hp2a,hp2b⟩:=below_ev d p1 s1 4 hd hp1 hp1'
 have:=a1 (by omega)
 have:=b1 (by omega)
 have w1:wrap64 (2+a)=2+a:=by unfold wrap64;omega
 have w2:wrap64 (2+b)=2+b:=by unfold wrap64;omega
 obtain⟨n,hn⟩:∃ n,n=(2+a) * (2+b):=⟨_,rfl⟩
 have m1:(2+a) * (2+b)≤6 * 5:=Int.mul_le_mul (by omega) (by omega) (by omega) (by omega)
 have m2:1 * 1≤(2+a) * (2+b):=Int.mul_le_mul (by omega) (by omega) (by omega) (by omega)
 have w3:wrap64 ((2+a) * (2+b))=n:=by rw[←hn] at m1 m2 ⊢;unfold wrap64;omega
 obtain⟨xs,p',s',hx,hp',hp'',hk2⟩:=l4Draw_loop d hd (2+a) (2+b) n w3 (by omega) (by omega) n.toNat 0 [] p2 s2 (by omega) (by omega) (by simp) hp2a hp2b
 refine⟨2+a,2+b,xs,p',s',⟨by omega,by omega⟩,hp',hp'',fun k hk=>?_⟩
 unfold spec_l4Draw.f
 rw[e1,Option.bind_some,e2,Option.bind_some]
 simp only[w1,w2]
 exact hk2 k (by omega)
theorem l4Raw_ev (d:List Int) (p s:Int) (hd:d.length≤1048576) (hp:0≤p) (hp2:p≤d.length):∃ v p' s',spec_l4Raw.f d p s=some (v,p',s')∧0≤p'∧p'≤(d.length:Int):=by
 obtain⟨v,p1,s1,e1,_,hp1,hp1'⟩:=int_ev d p s [(-1),0,8,9,64,9223372036854775807,(-9223372036854775808)] (by simp) hd hp hp2
 exact⟨v,p1,s1,by unfold spec_l4Raw.f;rw[e1];rfl,hp1,hp1'⟩
theorem l4Any_ev (d:List Int) (p s:Int) (hd:d.length≤1048576) (hp:0≤p) (hp2:p≤d.length):∃ W H xs p' s',xs.length≤64∧0≤p'∧p'≤(d.length:Int)∧∀ k,70<k→spec_l4Any.f k d p s=some (W,H,xs,p',s'):=by
 obtain⟨W,H,xs,p1,s1,⟨x1,x2⟩,hp1,hp1',h1⟩:=l4Draw_ev d p s hd hp hp2
 obtain⟨c,p2,s2,e2,_,hp2a,hp2b⟩:=below_ev d p1 s1 14 hd hp1 hp1'
 obtain⟨v,p3,s3,e3,hp3,hp3'⟩:=l4Raw_ev d p2 s2 hd hp2a hp2b
 obtain⟨u,p4,s4,e4,_,hp4,hp4'⟩:=int_ev d p2 s2 [(-1),2,3] (by simp) hd hp2a hp2b
 have q0:0<(xs.length:Int):=by omega
 have q1:1≤(xs.length:Int):=by omega
 unfold spec_l4Any.f
 by_cases c0:c=0
 ·exact⟨v,H,xs,p3,s3,x2,hp3,hp3',fun k hk=>by simp only[h1 k hk,Option.bind_some,e2,if_pos c0,e3]⟩
 ·by_cases c1:c=1
  ·exact⟨W,v,xs,p3,s3,x2,hp3,hp3',fun k hk=>by simp only[h1 k hk,Option.bind_some,e2,if_neg c0,if_pos c1,e3]⟩
  ·by_cases c2:c=2
   ·exact⟨W,H,xs.set (0:Int).toNat u,p4,s4,by rw[List.length_set];exact x2,hp4,hp4',fun k hk=>by simp only[h1 k hk,Option.bind_some,e2,if_neg c0,if_neg c1,if_pos c2,e4,if_pos q0]⟩
   ·by_cases c3:c=3
    ·exact⟨W,H,xs.drop (1:Int).toNat,p2,s2,by rw[List.length_drop];omega,hp2a,hp2b,fun k hk=>by simp only[h1 k hk,Option.bind_some,e2,if_neg c0,if_neg c1,if_neg c2,if_pos c3,if_pos q1]⟩
    ·exact⟨W,H,xs,p2,s2,x2,hp2a,hp2b,fun k hk=>by simp only[h1 k hk,Option.bind_some,e2,if_neg c0,if_neg c1,if_neg c2,if_neg c3]⟩
theorem rule_ev (d:List Int) (p s:Int) (hd:d.length≤1048576) (hp:0≤p) (hp2:p≤d.length):∃ v w p' s',spec_l6Rule.f d p s=some (v,w,p',s')∧(1≤w∧w≤10)∧0≤p'∧p'≤(d.length:Int):=by
 obtain⟨a,p1,s1,e1,⟨a0,a1,_⟩,hp1,hp1'⟩:=below_ev d p s 6 hd hp hp2
 have:=a1 (by omega)
 have w1:wrap64 (1+a)=1+a:=by unfold wrap64;omega
 obtain⟨b,p2,s2,e2,_,hp2a,hp2b⟩:=below_ev d p1 s1 (1+a) hd hp1 hp1'
 exact⟨b,1+a,p2,s2,by unfold spec_l6Rule.f;rw[e1,Option.bind_some,w1,e2,Option.bind_some],by omega,hp2a,hp2b⟩
theorem countS_loop (l:List Bool) (hl:l.length≤1048576):∀ (e:Nat) (i c:Int),0≤i→(l.length:Int)-i=e→∃ r,∀ k,e<k→spec_CountStorms.l0 k l c i=some r:=by
 intro e
 induction e with
 |zero =>
  intro i c h0 he
  refine⟨c,fun k hk=>?_⟩
  obtain⟨k,rfl⟩:∃ m,k=m+1:=⟨k-1,by omega⟩
  rw[spec_CountStorms.l0,if_neg (by omega)]
 |succ e ih =>
  intro i c h0 he
  have hlt:i<(l.length:Int):=by omega
  by_cases b:rdOf false l i=true
  ·obtain⟨r,hr⟩:=ih (i+1) (wrap64 (c+1)) (by omega) (by omega)
   refine⟨r,fun k hk=>?_⟩
   obtain⟨k,rfl⟩:∃ m,k=m+1:=⟨k-1,by omega⟩
   rw[spec_CountStorms.l0,if_pos hlt,if_pos h0,if_pos b,wrap_small (n:=l.length) h0 hlt hl]
   exact hr k (by omega)
  ·obtain⟨r,hr⟩:=ih (i+1) c (by omega) (by omega)
   refine⟨r,fun k hk=>?_⟩
   obtain⟨k,rfl⟩:∃ m,k=m+1:=⟨k-1,by omega⟩
   rw[spec_CountStorms.l0,if_pos hlt,if_pos h0,if_neg b,wrap_small (n:=l.length) h0 hlt hl]
   exact hr k (by omega)
theorem mayStormS_ev (v w:Int) (l:List Bool) (hw:1≤w∧w≤10) (hl:l.length≤1048576):∃ t,∀ k,l.length<k→spec_MayStorm.f k v w l=some t:=by
 have e1:wrap64 ((l.length:Int)+1)=(l.length:Int)+1:=by unfold wrap64;omega
 have e2:wrap64 ((l.length:Int)+1-w)=(l.length:Int)+1-w:=by unfold wrap64;omega
 have e3:wrap64 (w-1)=w-1:=by unfold wrap64;omega
 obtain⟨t,ht⟩:∃ t,t=mx 0 ((l.length:Int)+1-w):=⟨_,rfl⟩
 have hm:spec_Max.f 0 ((l.length:Int)+1-w)=some t:=by subst ht;unfold spec_Max.f mx;split <;> rfl
 have h0:0≤t∧t≤(l.length:Int):=by subst ht;unfold mx;split <;> omega
 obtain⟨c,hc⟩:=countS_loop (l.drop t.toNat) (by rw[List.length_drop];omega) (l.drop t.toNat).length 0 0 (by omega) (by omega)
 by_cases r:0≤v∧v≤w-1
 ·refine⟨decide (c<v),fun k hk=>?_⟩
  have hc2:=hc k (by rw[List.length_drop];omega)
  unfold spec_MayStorm.f spec_IsRule.f spec_CountStorms.f
  simp only[l1In_eq,hw,and_self,decide_true,Option.bind_some,if_true,e3,r,e1,e2,hm,if_pos h0.1,if_pos h0.2,hc2]
 ·refine⟨false,fun k hk=>?_⟩
  unfold spec_MayStorm.f spec_IsRule.f
  simp only[l1In_eq,hw,and_self,decide_true,Option.bind_some,if_true,e3,r,decide_false,Bool.false_eq_true,if_false]
theorem past_loop (d:List Int) (hd:d.length≤1048576) (n v w:Int) (hn:n≤10) (hw:1≤w∧w≤10):∀ (e:Nat) (i:Int) (acc:List Bool) (p s:Int),0≤i→n-i≤e→(acc.length:Int)=i→i≤10→0≤p→p≤d.length →
  ∃ q p' s',q.length≤10∧0≤p'∧p'≤(d.length:Int)∧∀ k,11+e<k→spec_l6Past.l0 k n acc i d p s v w=some (q,p',s'):=by
 intro e
 induction e with
 |zero =>
  intro i acc p s h0 he ha hi hp hp2
  refine⟨acc,p,s,by omega,hp,hp2,fun k hk=>?_⟩
  obtain⟨k,rfl⟩:∃ m,k=m+1:=⟨k-1,by omega⟩
  rw[spec_l6Past.l0,if_neg (by omega)]
 |succ e ih =>
  intro i acc p s h0 he ha hi hp hp2
  by_cases c:i<n
  ·obtain⟨t,ht⟩:=mayStormS_ev v w acc hw (by omega)
   have wi:wrap64 (i+1)=i+1:=by unfold wrap64;omega
   have q1:acc.length<140737488355328:=by omega
   by_cases b:t=true
   ·obtain⟨f,p1,s1,e1,hp1,hp1'⟩:=once_ev d p s 2 hd hp hp2
    obtain⟨q,p',s',hq,hp',hp'',hk2⟩:=ih (i+1) (acc++[f]) p1 s1 (by omega) (by omega) (by simp;omega) (by omega) hp1 hp1'
    refine⟨q,p',s',hq,hp',hp'',fun k hk=>?_⟩
    obtain⟨k,rfl⟩:∃ m,k=m+1:=⟨k-1,by omega⟩
    rw[spec_l6Past.l0,if_pos c,ht k (by omega),Option.bind_some,if_pos b,e1,Option.bind_some,if_pos q1,wi]
    exact hk2 k (by omega)
   ·obtain⟨q,p',s',hq,hp',hp'',hk2⟩:=ih (i+1) (acc++[false]) p s (by omega) (by omega) (by simp;omega) (by omega) hp hp2
    refine⟨q,p',s',hq,hp',hp'',fun k hk=>?_⟩
    obtain⟨k,rfl⟩:∃ m,k=m+1:=⟨k-1,by omega⟩
    rw[spec_l6Past.l0,if_pos c,ht k (by omega),Option.bind_some,if_neg b,if_pos q1,wi]
    exact hk2 k (by omega)
  ·refine⟨acc,p,s,by omega,hp,hp2,fun k hk=>?_⟩
   obtain⟨k,rfl⟩:∃ m,k=m+1:=⟨k-1,by omega⟩
   rw[spec_l6Past.l0,if_neg c]
theorem l9Draw_ev (d:List Int) (p s:Int) (hd:d.length≤1048576) (hp:0≤p) (hp2:p≤d.length) (W H:Int) (xs:List Int) (hx:xs.length≤64) (v w:Int) (hw:1≤w∧w≤10) :
  ∃ a b l h p' s',(0≤b∧b<60)∧l.length≤6∧h.length≤10∧0≤p'∧p'≤(d.length:Int)∧∀ k,1100<k→spec_l9Draw.f k d p s W H xs v w=some (a,b,l,h,p',s'):=by
 obtain⟨b,p1,s1,e1,⟨b0,b1,_⟩,hp1,hp1'⟩:=below_ev d p s 60 hd hp hp2
 obtain⟨l,p2,s2,hl1,hl,hp2a,hp2b,hk2⟩:=crewDraw_loop d hd 5 [] 1 p1 s1 (by omega) (by omega) (by simp) (by omega) hp1 hp1'
 obtain⟨n,p3,s3,e3,⟨n0,n1,_⟩,hp3,hp3'⟩:=below_ev d p2 s2 8 hd hp2a hp2b
 have:=n1 (by omega)
 obtain⟨h,p4,s4,hh,hp4,hp4',hk4⟩:=past_loop d hd n v w (by omega) hw 8 0 [] p3 s3 (by omega) (by omega) (by simp) (by omega) hp3 hp3'
 obtain⟨r,hr,hk5⟩:=reach_ev W H xs hx 0 99
 have f2:∀ k,1100<k→spec_l7Draw.f k d p1 s1=some (l,p2,s2):=fun k hk=>hk2 k (by omega)
 have f4:∀ k,1100<k→spec_l6Past.f k d p3 s3 v w n=some (h,p4,s4):=fun k hk=>hk4 k (by omega)
 unfold spec_l9Draw.f
 by_cases c:(r.length:Int)>0
 ·obtain⟨m,p5,s5,e5,⟨m0,m1,_⟩,hp5,hp5'⟩:=below_ev d p4 s4 (r.length:Int) hd hp4 hp4'
  have m2:=m1 (by omega)
  exact⟨rd r m,b,l,h,p5,s5,⟨b0,b1 (by omega)⟩,hl,hh,hp5,hp5',fun k hk=>by simp only[e1,Option.bind_some,f2 k hk,e3,f4 k hk,hk5 k hk,if_pos c,e5,if_pos m0,if_pos m2]⟩
 ·exact⟨0,b,l,h,p4,s4,⟨b0,b1 (by omega)⟩,hl,hh,hp4,hp4',fun k hk=>by simp only[e1,Option.bind_some,f2 k hk,e3,f4 k hk,hk5 k hk,if_neg c]⟩
theorem l9Any_ev (d:List Int) (p s:Int) (hd:d.length≤1048576) (hp:0≤p) (hp2:p≤d.length) :
  ∃ W H xs a b l h p' s',(-1≤b∧b≤10001)∧l.length≤6∧h.length≤10∧0≤p'∧p'≤(d.length:Int)∧∀ k,1100<k→spec_l9Any.f k d p s=some (W,H,xs,a,b,l,h,p',s'):=by
 obtain⟨W,H,xs,p1,s1,hx,hp1,hp1',h1⟩:=l4Any_ev d p s hd hp hp2
 obtain⟨v,w,p2,s2,e2,hw,hp2a,hp2b⟩:=rule_ev d p1 s1 hd hp1 hp1'
 obtain⟨a,b,l,h,p3,s3,hb,hl,hh,hp3,hp3',h3⟩:=l9Draw_ev d p2 s2 hd hp2a hp2b W H xs hx v w hw
 obtain⟨c,p4,s4,e4,_,hp4,hp4'⟩:=below_ev d p3 s3 12 hd hp3 hp3'
 unfold spec_l9Any.f
 by_cases c0:c=0
 ·obtain⟨u,p5,s5,e5,hp5,hp5'⟩:=l4Raw_ev d p4 s4 hd hp4 hp4'
  exact⟨W,H,xs,u,b,l,h,p5,s5,by omega,hl,hh,hp5,hp5',fun k hk=>by simp only[h1 k (by omega),Option.bind_some,e2,h3 k hk,e4,if_pos c0,e5]⟩
 ·by_cases c1:c=1
  ·obtain⟨u,p5,s5,e5,hu,hp5,hp5'⟩:=int_ev d p4 s4 [(-1),0,10000,10001] (by simp) hd hp4 hp4'
   have hu2:-1≤u∧u≤10001:=by
    simp only[List.mem_cons,List.not_mem_nil,or_false] at hu
    omega
   exact⟨W,H,xs,a,u,l,h,p5,s5,hu2,hl,hh,hp5,hp5',fun k hk=>by simp only[h1 k (by omega),Option.bind_some,e2,h3 k hk,e4,if_neg c0,if_pos c1,e5]⟩
  ·by_cases c2:c=2
   ·obtain⟨q,p5,s5,hq,hp5,hp5',h5⟩:=crewAny_ev d p4 s4 hd hp4 hp4'
    exact⟨W,H,xs,a,b,q,h,p5,s5,by omega,hq,hh,hp5,hp5',fun k hk=>by simp only[h1 k (by omega),Option.bind_some,e2,h3 k hk,e4,if_neg c0,if_neg c1,if_pos c2,h5 k (by omega)]⟩
   ·exact⟨W,H,xs,a,b,l,h,p4,s4,by omega,hl,hh,hp4,hp4',fun k hk=>by simp only[h1 k (by omega),Option.bind_some,e2,h3 k hk,e4,if_neg c0,if_neg c1,if_neg c2]⟩
theorem drawEat_ev (d:List Int) (hd:d.length≤1048576):∃ a b l h,(-1≤b∧b≤10001)∧l.length≤6∧h.length≤10∧∀ k,d.length+1100<k→spec_DrawEat.f k d=some (a,b,l,h):=by
 obtain⟨s,hs⟩:=new_ev d hd
 obtain⟨W,H,xs,a,b,l,h,p',s',hb,hl,hh,_,_,h1⟩:=l9Any_ev d 0 s hd (by omega) (by omega)
 refine⟨a,b,l,h,hb,hl,hh,fun k hk=>?_⟩
 unfold spec_DrawEat.f spec_DrawIsParty.f
 simp only[hs k (by omega),Option.bind_some,h1 k (by omega)]
theorem drawPickUp_ev (d:List Int) (hd:d.length≤1048576):∃ a b l h n,(-1≤b∧b≤10001)∧l.length≤6∧h.length≤10∧(-1≤n∧n≤10000)∧∀ k,d.length+1100<k→spec_DrawPickUp.f k d=some (a,b,l,h,n):=by
 obtain⟨s,hs⟩:=new_ev d hd
 obtain⟨a,b,l,h,hb,hl,hh,h1⟩:=drawEat_ev d hd
 obtain⟨n,p1,s1,e1,hn,_,_⟩:=int_ev d 0 s [0,1,10,100,10000,(-1)] (by simp) hd (by omega) (by omega)
 have hn2:-1≤n∧n≤10000:=by
  simp only[List.mem_cons,List.not_mem_nil,or_false] at hn
  omega
 refine⟨a,b,l,h,n,hb,hl,hh,hn2,fun k hk=>?_⟩
 unfold spec_DrawPickUp.f
 simp only[h1 k hk,hs k (by omega),Option.bind_some,e1]
theorem drawEqual_ev (d:List Int) (hd:d.length≤1048576):∃ a b l h a2 b2 l2 h2,l.length≤6∧h.length≤10∧l2.length≤6∧h2.length≤10∧∀ k,d.length+1100<k→spec_DrawEqualParties.f k d=some (a,b,l,h,a2,b2,l2,h2):=by
 obtain⟨s,hs⟩:=new_ev d hd
 obtain⟨W,H,xs,a,b,l,h,p1,s1,_,hl,hh,hp1,hp1',h1⟩:=l9Any_ev d 0 s hd (by omega) (by omega)
 obtain⟨f,p2,s2,e2,hp2,hp2'⟩:=once_ev d p1 s1 2 hd hp1 hp1'
 unfold spec_DrawEqualParties.f
 by_cases c:f=true
 ·have hc:=(copied_ev a b l h (by omega) (by omega)).2
  exact⟨a,b,l,h,a,b,l,h,hl,hh,hl,hh,fun k hk=>by simp only[hs k (by omega),Option.bind_some,h1 k (by omega),e2,if_pos c,hc]⟩
 ·obtain⟨W2,H2,xs2,a2,b2,l2,h2,p3,s3,_,hl2,hh2,_,_,h3⟩:=l9Any_ev d p2 s2 hd hp2 hp2'
  exact⟨a,b,l,h,a2,b2,l2,h2,hl,hh,hl2,hh2,fun k hk=>by simp only[hs k (by omega),Option.bind_some,h1 k (by omega),e2,if_neg c,h3 k (by omega)]⟩
theorem law_j1 (d:List Int) (hd:d.length≤1048576) (k:Nat) (hk:d.length+1200<k):laws_FnParties.j1 k d false=some true:=by
 obtain⟨k,rfl⟩:∃ m,k=m+1:=⟨k-1,by omega⟩
 obtain⟨a,b,l,h,a2,b2,l2,h2,hl,hh,hl2,hh2,h1⟩:=drawEqual_ev d hd
 have q1:=eqI_ev a b l h a2 b2 l2 h2 (by omega) (by omega) k (by omega)
 have q2:=eqI_ev a2 b2 l2 h2 a b l h (by omega) (by omega) k (by omega)
 have q3:=eqI_ev a b l h a b l h (by omega) (by omega) k (by omega)
 rw[←eqv_comm a b l h a2 b2 l2 h2] at q2
 rw[eqv_self] at q3
 simp only[laws_FnParties.j1,Bool.false_eq_true,if_false,h1 k (by omega),Option.bind_some,q1,q2,q3,beq_self_eq_true,if_true]
theorem law_j2 (d:List Int) (hd:d.length≤1048576) (D a b N:Int) (l:List S46) (h:List Bool) (c:Bool) (E:Eats a l h N c) (hl:l.length≤6) (hh:h.length≤10) (hb:b≤10001) (hD:D≤60→c=true→b<N) (k:Nat) (hk:d.length+1201<k):laws_FnParties.j2 k d D a b l h=some true:=by
 obtain⟨k,rfl⟩:∃ m,k=m+1:=⟨k-1,by omega⟩
 have hj:=law_j1 d hd k (by omega)
 by_cases y:c=true∧N≤b
 ·obtain⟨rfl,y2⟩:=y
  have hD2:¬ D≤60:=fun e=>by have:=hD e rfl;omega
  simp only[laws_FnParties.j2,eat_yes E (by omega) (by omega) y2 hb k (by omega),Option.bind_some,if_true,hD2,decide_false]
  exact hj
 ·have q:=eat_no (b:=b) E (by omega) (by omega) (fun e=>by have:¬ N≤b:=fun g=>y ⟨e,g⟩;omega) k (by omega)
  simp only[laws_FnParties.j2,q,Option.bind_some,Bool.false_eq_true,if_false]
  exact hj
theorem law_l0 (d:List Int) (hd:d.length≤1048576) (D a b0 N:Int) (l:List S46) (h:List Bool) (c:Bool) (E:Eats a l h N c) (hl:l.length≤6) (hh:h.length≤10) (hb:b0≤10001) (h1:c=true→0≤b0→D * N≤b0∧b0<D * N+N) (h2:(c=false∨b0<0)→D=0) :
  ∀ (e:Nat) (i b:Int),0≤i→i≤D→i≤60→60-i=e→b=b0-i * N→b≤b0→∀ k,d.length+1202+e<k→laws_FnParties.l0 k d D a b l h i=some true:=by
 intro e
 induction e with
 |zero =>
  intro i b i0 iD i60 he hbb hb2 k hk
  obtain⟨k,rfl⟩:∃ m,k=m+1:=⟨k-1,by omega⟩
  have hj:=law_j2 d hd D a b N l h c E hl hh (by omega) (fun g g2=>by
   have e1:i=D:=by omega
   subst e1
   by_cases g3:0≤b0
   ·have:=h1 g2 g3;omega
   ·have z:=h2 (Or.inr (by omega));have:=E.pos g2;subst z;omega) k (by omega)
  have n60:¬ i<60:=by omega
  simp only[laws_FnParties.l0,if_neg n60,hj,ite_self]
 |succ e ih =>
  intro i b i0 iD i60 he hbb hb2 k hk
  obtain⟨k,rfl⟩:∃ m,k=m+1:=⟨k-1,by omega⟩
  have c60:i<60:=by omega
  by_cases cD:i<D
  ·have hc:c=true:=by
    cases c with
    |true=>rfl
    |false=>have:=h2 (Or.inl rfl);omega
   subst hc
   have hb0:0≤b0:=by
    by_cases g:b0<0
    ·have:=h2 (Or.inr g);omega
    ·omega
   have hp:=E.pos rfl
   have hDN:=h1 rfl hb0
   have m1:(i+1) * N≤D * N:=Int.mul_le_mul_of_nonneg_right (by omega) (by omega)
   have m2:(i+1) * N=i * N+N:=by rw[Int.add_mul,Int.one_mul]
   have m3:0≤i * N:=Int.mul_nonneg i0 (by omega)
   have hN:N≤b:=by omega
   have hw:wrap64 (b-N)=b-N:=by unfold wrap64;omega
   have hw2:wrap64 (i+1)=i+1:=by unfold wrap64;omega
   have hi:=ih (i+1) (b-N) (by omega) (by omega) (by omega) (by omega) (by omega) (by omega) k (by omega)
   simp only[laws_FnParties.l0,if_pos cD,if_pos c60,eat_yes E (by omega) (by omega) hN (by omega) k (by omega),Option.bind_some,if_true,E.need k (by omega),hw,hw2]
   exact hi
  ·have hj:=law_j2 d hd D a b N l h c E hl hh (by omega) (fun g g2=>by
    have e1:i=D:=by omega
    subst e1
    by_cases g3:0≤b0
    ·have:=h1 g2 g3;omega
    ·have z:=h2 (Or.inr (by omega));have:=E.pos g2;subst z;omega) k (by omega)
   simp only[laws_FnParties.l0,if_neg cD,hj]
theorem law_j0 (d:List Int) (hd:d.length≤1048576) (k:Nat) (hk:d.length+1300<k):laws_FnParties.j0 k d false=some true:=by
 obtain⟨k,rfl⟩:∃ m,k=m+1:=⟨k-1,by omega⟩
 obtain⟨a,b,l,h,hb,hl,hh,h1⟩:=drawEat_ev d hd
 obtain⟨N,c,E⟩:=eats_ev a l h (by omega)
 obtain⟨D,hD0,hD1,hD2,hD3,hD4⟩:=days_ev E hb
 simp only[laws_FnParties.j0,Bool.false_eq_true,if_false,h1 k (by omega),Option.bind_some,hD4 k (by omega)]
 exact law_l0 d hd D a b N l h c E hl hh hb.2 hD2 hD3 60 0 b (by omega) hD0 (by omega) (by omega) (by omega) (by omega) k (by omega)
theorem FnParties:laws_FnParties.Stmt:=by
 intro d _
 by_cases hbig:(d.length:Int)>1048576
 ·exact⟨0,by unfold laws_FnParties.f laws_big.f;simp only[hbig,decide_true,Option.bind_some,if_true]⟩
 have hd:d.length≤1048576:=by omega
 refine⟨d.length+2000,?_⟩
 obtain⟨k,hk⟩:∃ k,k=d.length+2000:=⟨_,rfl⟩
 rw[←hk]
 have hj:=law_j0 d hd k (by omega)
 obtain⟨a,b,l,h,n,hb,hl,hh,hn,h1⟩:=drawPickUp_ev d hd
 obtain⟨o,R,C,o0,oR,on,hC,hR,hcap,hroom,hpick⟩:=pickUp_law a b n l h (by omega) (by omega) hb hn
 have hw:wrap64 (b+o)=b+o:=by unfold wrap64;omega
 have c1:¬ o<0:=by omega
 have c2:¬ o>R:=by omega
 unfold laws_FnParties.f laws_big.f
 simp only[hbig,decide_false,Option.bind_some,Bool.false_eq_true,if_false,h1 k (by omega),hpick k (by omega),if_neg c1,hcap k (by omega),hroom k (by omega),hw,if_true,c2,hj]
 by_cases c3:o>0
 ·have:=on c3
  rw[if_pos c3,if_neg (by omega),if_neg (by omega)]
 ·rw[if_neg c3]

end Go.Proofs.Ytebfggdbmgegeaa.Pure
