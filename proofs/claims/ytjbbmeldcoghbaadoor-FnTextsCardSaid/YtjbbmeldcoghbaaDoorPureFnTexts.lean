/- Cells are read from their text, a way's text has a sign between each two cells, a past's text a sign for each day, a land's text a sign for each cell and each row's end, and a party has a text just where it is one: the law FnTexts holds for every code (a code of more than 2^20 bytes the law lets pass). No further condition. -/
import Derived.Test.YtjbbmeldcoghbaaDoorSFnTexts
namespace Go.Proofs.YtjbbmeldcoghbaaDoor.Pure
open Go.RowKit Go.Proofs.YtjbbmeldcoghbaaDoor.Q Go.Proofs.YtjbbmeldcoghbaaDoorW.PrintWords Go.Proofs.YtjbbmeldcoghbaaDoorW.PrintLast Go.Proofs.YtjbbmeldcoghbaaDoorW.PrintMore
set_option linter.unusedVariables false
set_option linter.unusedSimpArgs false
theorem ext_getD {α:Type} {d:α} {a b:List α} (h:a.length=b.length) (hj:∀ j,j<a.length→a.getD j d=b.getD j d):a=b:=by
 apply List.ext_getElem h
 intro j h1 h2
 have:=hj j h1
 simpa [List.getD_eq_getElem?_getD,List.getElem?_eq_getElem h1,List.getElem?_eq_getElem h2] using this
theorem getD_set {α:Type} {d:α} (a:List α) (i j:Nat) (v:α) (h:i<a.length):(a.set i v).getD j d=if i=j then v else a.getD j d:=by
 simp only[List.getD_eq_getElem?_getD,List.getElem?_set]
 by_cases e:i=j
 ·subst e;simp[h]
 ·simp[e]
theorem wrap_small {i:Int} {n:Nat} (h0:0≤i) (h:i<(n:Int)) (hn:n≤1048576):wrap64 (i+1)=i+1:=by
 unfold wrap64;omega
theorem drop_step {α:Type} (d:α) (l:List α) (i:Int) (h0:0≤i) (h:i<(l.length:Int)):l.drop i.toNat=l.getD i.toNat d :: l.drop (i+1).toNat:=by
 have h1:i.toNat<l.length:=by omega
 rw[List.drop_eq_getElem_cons h1,show (i+1).toNat=i.toNat+1 by omega]
 congr 1
 simp[List.getD_eq_getElem?_getD,List.getElem?_eq_getElem h1]
theorem l1In_eq (a b c:Int):spec_l1In.f a b c=some (decide (b≤a∧a≤c)):=by
 unfold spec_l1In.f
 by_cases h:a≥b
 ·rw[if_pos h];congr 1;have:b≤a:=h;simp[this]
 ·rw[if_neg h];have:¬ b≤a:=h;simp[this]
theorem inRange_eq (a b c:Int):impl_InRange.f a b c=some (decide (b≤a∧a≤c)):=by
 unfold impl_InRange.f
 by_cases h:b≤a
 ·rw[if_pos h];simp[h]
 ·rw[if_neg h];simp[h]
theorem landCells_loop (W H:Int) (xs:List Int) (hn:xs.length≤1048576):∀ (d:Nat) (i:Int),0≤i→(xs.length:Int)-i=d →
  ∃ b,(∀ k,d<k→impl_allIn.l0 k 0 2 xs (xs.length:Int) i=some b∧spec_IsLand.l0 k i W H xs=some b)∧(b=true→∀ j:Int,i≤j→j<(xs.length:Int)→0≤rd xs j∧rd xs j≤2):=by
 intro d
 induction d with
 |zero =>
  intro i h0 hd
  have hlt:¬ i<(xs.length:Int):=by omega
  refine⟨true,fun k hk=>?_,fun _ j h1 h2=>by omega⟩
  obtain⟨k,rfl⟩:∃ m,k=m+1:=⟨k-1,by omega⟩
  simp only[impl_allIn.l0,spec_IsLand.l0,if_neg hlt,and_self]
 |succ d ih =>
  intro i h0 hd
  have hlt:i<(xs.length:Int):=by omega
  obtain⟨b,hb,hp⟩:=ih (i+1) (by omega) (by omega)
  by_cases e:0≤rd xs i∧rd xs i≤2
  ·refine⟨b,fun k hk=>?_,fun h j h1 h2=>?_⟩
   ·obtain⟨k,rfl⟩:∃ m,k=m+1:=⟨k-1,by omega⟩
    simp only[impl_allIn.l0,spec_IsLand.l0,if_pos hlt,if_pos h0,l1In_eq,inRange_eq,e,and_self,decide_true,Option.bind_some,if_true,wrap_small (n:=xs.length) h0 hlt hn]
    exact hb k (by omega)
   ·by_cases h3:j=i
    ·subst h3;exact e
    ·exact hp h j (by omega) h2
  ·refine⟨false,fun k hk=>?_,fun h=>by cases h⟩
   obtain⟨k,rfl⟩:∃ m,k=m+1:=⟨k-1,by omega⟩
   simp only[impl_allIn.l0,spec_IsLand.l0,if_pos hlt,if_pos h0,l1In_eq,inRange_eq,e,decide_false,Option.bind_some,Bool.false_eq_true,if_false,and_self]
theorem isLand_ev (W H:Int) (xs:List Int) (hn:xs.length≤1048576):∃ b,(∀ k,xs.length+1<k→impl_IsLand.f k W H xs=some b∧spec_IsLand.f k W H xs=some b) ∧
  (b=true→(1≤W∧W≤8)∧(1≤H∧H≤8)∧(xs.length:Int)=W * H∧1≤xs.length∧xs.length≤64∧∀ j:Int,0≤j→j<(xs.length:Int)→0≤rd xs j∧rd xs j≤2):=by
 by_cases hW:1≤W∧W≤8
 ·by_cases hH:1≤H∧H≤8
  ·have h1:W * H≤8 * 8:=Int.mul_le_mul hW.2 hH.2 (by omega) (by omega)
   have h2:1 * 1≤W * H:=Int.mul_le_mul hW.1 hH.1 (by omega) (by omega)
   have hw:wrap64 (W * H)=W * H:=by unfold wrap64;omega
   by_cases hl:(xs.length:Int)=W * H
   ·obtain⟨b,hb,hp⟩:=landCells_loop W H xs hn xs.length 0 (by omega) (by omega)
    refine⟨b,fun k hk=>?_,fun e=>⟨hW,hH,hl,by omega,by omega,hp e⟩⟩
    obtain⟨k,rfl⟩:∃ m,k=m+1:=⟨k-1,by omega⟩
    have e:((xs.length:Int) != W * H)=false:=by simp[hl]
    have b1:=(hb (k+1) (by omega)).1
    have b2:=(hb k (by omega)).2
    unfold impl_IsLand.f spec_IsLand.f
    simp only[l1In_eq,inRange_eq,hW,hH,and_self,decide_true,Option.bind_some,if_true,hw,if_pos hl,e,spec_IsLand.j0,Bool.false_eq_true,if_false,impl_allIn.f,b1,b2]
   ·refine⟨false,fun k hk=>?_,fun e=>by cases e⟩
    obtain⟨k,rfl⟩:∃ m,k=m+1:=⟨k-1,by omega⟩
    have e:((xs.length:Int) != W * H)=true:=by simp[hl]
    unfold impl_IsLand.f spec_IsLand.f
    simp only[l1In_eq,inRange_eq,hW,hH,and_self,decide_true,Option.bind_some,if_true,hw,if_neg hl,e,spec_IsLand.j0]
  ·refine⟨false,fun k hk=>?_,fun e=>by cases e⟩
   obtain⟨k,rfl⟩:∃ m,k=m+1:=⟨k-1,by omega⟩
   unfold impl_IsLand.f spec_IsLand.f
   simp only[l1In_eq,inRange_eq,hW,hH,and_self,decide_true,decide_false,Option.bind_some,if_true,Bool.false_eq_true,if_false,spec_IsLand.j0]
 ·refine⟨false,fun k hk=>?_,fun e=>by cases e⟩
  obtain⟨k,rfl⟩:∃ m,k=m+1:=⟨k-1,by omega⟩
  unfold impl_IsLand.f spec_IsLand.f
  simp only[l1In_eq,inRange_eq,hW,decide_false,Option.bind_some,if_true,Bool.false_eq_true,if_false,spec_IsLand.j0,and_self]
theorem wrapNat (n:Nat) (h:n≤1073741823):Go.IntKind.wrap .i64 (n:Int)=(n:Int):=by
 have e1:(Go.IntKind.i64).bits=64:=rfl
 have e2:(Go.IntKind.i64).signed=true:=rfl
 unfold Go.IntKind.wrap
 simp only[e1,e2,Bool.true_and,decide_eq_true_eq]
 have e3:(2:Int) ^ 64=18446744073709551616:=by decide
 have e4:(2:Int) ^ (64-1)=9223372036854775808:=by decide
 rw[e3,e4,if_neg (by omega)];omega
theorem and255 (x:Int):0≤Go.bits .and .i64 x 255∧Go.bits .and .i64 x 255≤255:=by
 have h:(BitVec.ofInt 64 x &&& BitVec.ofInt 64 255).toNat≤255:=by
  rw[BitVec.toNat_and];exact Nat.le_trans Nat.and_le_right (by decide)
 show 0≤Go.IntKind.wrap .i64 ((BitVec.ofInt 64 x &&& BitVec.ofInt 64 255).toNat:Int)∧Go.IntKind.wrap .i64 ((BitVec.ofInt 64 x &&& BitVec.ofInt 64 255).toNat:Int)≤255
 generalize (BitVec.ofInt 64 x &&& BitVec.ofInt 64 255).toNat=n at h ⊢
 rw[wrapNat n (by omega)];omega
theorem byte_ev (d:List Int) (p s:Int) (hd:d.length≤1048576) (hp:0≤p) (hp2:p≤d.length):∃ v p' s',spec_l1Byte.f d p s=some (v,p',s')∧(0≤v∧v≤255)∧0≤p'∧p'≤d.length:=by
 unfold spec_l1Byte.f
 by_cases h:p<(d.length:Int)
 ·rw[if_pos h,if_pos hp]
  exact⟨_,_,_,rfl,and255 _,by unfold wrap64;omega,by unfold wrap64;omega⟩
 ·rw[if_neg h]
  exact⟨_,_,_,rfl,and255 _,hp,hp2⟩
theorem tmod_range (x n:Int) (hx:0≤x) (hn:0<n):0≤Int.tmod x n∧Int.tmod x n<n:=by
 rw[Int.tmod_eq_emod_of_nonneg hx]
 exact⟨Int.emod_nonneg _ (by omega),Int.emod_lt_of_pos _ hn⟩
theorem below_ev (d:List Int) (p s n:Int) (hd:d.length≤1048576) (hp:0≤p) (hp2:p≤d.length):∃ v p' s',spec_l1Below.f d p s n=some (v,p',s')∧(0≤v∧(0<n→v<n)∧(n≤0→v=0))∧0≤p'∧p'≤d.length:=by
 unfold spec_l1Below.f
 by_cases h:n≤0
 ·rw[if_pos h];exact⟨0,p,s,rfl,⟨by omega,by omega,by omega⟩,hp,hp2⟩
 ·have hz:¬ n=0:=by omega
  rw[if_neg h]
  by_cases h2:n≤256
  ·rw[if_pos h2]
   obtain⟨v,p',s',hb,hv,hp',hp2'⟩:=byte_ev d p s hd hp hp2
   rw[hb];simp only[Option.bind_some,if_neg hz]
   have:=tmod_range v n hv.1 (by omega)
   exact⟨_,_,_,rfl,⟨this.1,fun _=>this.2,by omega⟩,hp',hp2'⟩
  ·rw[if_neg h2]
   obtain⟨v,p',s',hb,hv,hp',hp2'⟩:=byte_ev d p s hd hp hp2
   rw[hb];simp only[Option.bind_some]
   obtain⟨v2,p2,s2,hb2,hv2,hq,hq2⟩:=byte_ev d p' s' hd hp' hp2'
   rw[hb2];simp only[Option.bind_some]
   obtain⟨v3,p3,s3,hb3,hv3,hr,hr2⟩:=byte_ev d p2 s2 hd hq hq2
   rw[hb3];simp only[Option.bind_some,if_neg hz]
   have:=tmod_range (wrap64 (wrap64 (wrap64 (v * 65536)+wrap64 (v2 * 256))+v3)) n (by unfold wrap64;omega) (by omega)
   exact⟨_,_,_,rfl,⟨this.1,fun _=>this.2,by omega⟩,hr,hr2⟩
theorem int_ev (d:List Int) (p s:Int) (l:List Int) (hl:0<l.length) (hd:d.length≤1048576) (hp:0≤p) (hp2:p≤d.length):∃ v p' s',spec_l1Int.f d p s l=some (v,p',s')∧v∈l∧0≤p'∧p'≤d.length:=by
 unfold spec_l1Int.f
 obtain⟨v,p',s',hb,hv,hp',hp2'⟩:=below_ev d p s (l.length:Int) hd hp hp2
 have h2:=hv.2.1 (by omega)
 rw[hb];simp only[Option.bind_some,if_pos hv.1,if_pos h2]
 refine⟨_,_,_,rfl,?_,hp',hp2'⟩
 have h3:v.toNat<l.length:=by omega
 unfold rd
 simp[List.getD_eq_getElem?_getD,List.getElem?_eq_getElem h3]
theorem new_loop (d:List Int) (hd:d.length≤1048576):∀ (e:Nat) (s i:Int),0≤i→(d.length:Int)-i≤e→∃ s',∀ k,e<k→spec_l1New.l0 k d s i=some (d,0,s'):=by
 intro e
 induction e with
 |zero =>
  intro s i h0 he
  refine⟨s,fun k hk=>?_⟩
  obtain⟨k,rfl⟩:∃ m,k=m+1:=⟨k-1,by omega⟩
  simp only[spec_l1New.l0]
  rw[if_neg (by omega)]
 |succ e ih =>
  intro s i h0 he
  by_cases h:i<(d.length:Int)∧i<4000
  ·obtain⟨s',hs⟩:=ih (Go.bits .and .i64 (wrap64 ((wrap64 ((wrap64 (s * 137))+(wrap64 (rd d i))))+11)) 1073741823) (i+1) (by omega) (by omega)
   refine⟨s',fun k hk=>?_⟩
   obtain⟨k,rfl⟩:∃ m,k=m+1:=⟨k-1,by omega⟩
   simp only[spec_l1New.l0,if_pos h.1,if_pos h.2,if_pos h0,wrap_small (n:=d.length) h0 h.1 hd]
   exact hs k (by omega)
  ·refine⟨s,fun k hk=>?_⟩
   obtain⟨k,rfl⟩:∃ m,k=m+1:=⟨k-1,by omega⟩
   simp only[spec_l1New.l0]
   by_cases h1:i<(d.length:Int)
   ·rw[if_pos h1,if_neg (fun h2=>h ⟨h1,h2⟩)]
   ·rw[if_neg h1]
theorem new_ev (d:List Int) (hd:d.length≤1048576):∃ s,∀ k,d.length<k→spec_l1New.f k d=some (d,0,s) :=
 new_loop d hd d.length _ 0 (by omega) (by omega)
theorem isLandS_ev (W H:Int) (xs:List Int) (hn:xs.length≤1048576):∃ b,(∀ k,xs.length+1<k→spec_IsLand.f k W H xs=some b) ∧
  (b=true→(1≤W∧W≤8)∧(1≤H∧H≤8)∧(xs.length:Int)=W * H∧1≤xs.length∧xs.length≤64∧∀ j:Int,0≤j→j<(xs.length:Int)→0≤rd xs j∧rd xs j≤2):=by
 obtain⟨b,h,hp⟩:=isLand_ev W H xs hn
 exact⟨b,fun k hk=>(h k hk).2,hp⟩
structure LandOk (W H:Int) (xs:List Int):Prop where
 w:1≤W∧W≤8
 h:1≤H∧H≤8
 len:(xs.length:Int)=W * H
 pos:1≤xs.length
 le:xs.length≤64
 ev:∀ k,70<k→spec_IsLand.f k W H xs=some true
theorem land_cases (W H:Int) (xs:List Int) (hn:xs.length≤1048576):LandOk W H xs∨∀ k,xs.length+1<k→spec_IsLand.f k W H xs=some false:=by
 obtain⟨b,hb,hp⟩:=isLandS_ev W H xs hn
 cases b with
 |false=>exact Or.inr hb
 |true =>
  obtain⟨h1,h2,h3,h4,h5,_⟩:=hp rfl
  exact Or.inl ⟨h1,h2,h3,h4,h5,fun k hk=>hb k (by omega)⟩
def opn (xs:List Int) (m:Int):Bool:=decide (0≤m∧m<(xs.length:Int)) && (rd xs m != 2)
theorem opn_in {xs:List Int} {m:Int} (h:opn xs m=true):0≤m∧m<(xs.length:Int):=by
 unfold opn at h
 rw[Bool.and_eq_true,decide_eq_true_eq] at h
 exact h.1
theorem isCell_ok {W H:Int} {xs:List Int} (L:LandOk W H xs) (m:Int) (k:Nat) (hk:70<k):spec_IsCell.f k W H xs m=some (decide (0≤m∧m<(xs.length:Int))):=by
 have:=L.pos
 have:=L.le
 have e:wrap64 ((xs.length:Int)-1)=(xs.length:Int)-1:=by unfold wrap64;omega
 have e2:decide (0≤m∧m≤(xs.length:Int)-1)=decide (0≤m∧m<(xs.length:Int)):=decide_eq_decide.mpr (by omega)
 unfold spec_IsCell.f
 simp only[L.ev k hk,Option.bind_some,if_true,e,l1In_eq,e2]
theorem isOpen_ok {W H:Int} {xs:List Int} (L:LandOk W H xs) (m:Int) (k:Nat) (hk:70<k):spec_IsOpen.f k W H xs m=some (opn xs m):=by
 have c2:=isCell_ok L m k hk
 unfold spec_IsOpen.f
 rw[c2]
 unfold opn
 by_cases h:0≤m∧m<(xs.length:Int)
 ·simp only[h,and_self,decide_true,Option.bind_some,if_true,Bool.true_and]
 ·simp only[h,decide_false,Option.bind_some,Bool.false_eq_true,if_false,Bool.false_and]
theorem isCell_no {W H:Int} {xs:List Int} (m:Int) (k:Nat) (h:spec_IsLand.f k W H xs=some false):spec_IsCell.f k W H xs m=some false:=by
 unfold spec_IsCell.f
 simp only[h,Option.bind_some,Bool.false_eq_true,if_false]
theorem isOpen_no {W H:Int} {xs:List Int} (m:Int) (k:Nat) (h:spec_IsLand.f k W H xs=some false):spec_IsOpen.f k W H xs m=some false:=by
 have c2:=isCell_no m k h
 unfold spec_IsOpen.f
 simp only[c2,Option.bind_some,Bool.false_eq_true,if_false]
theorem w_cases {W:Int} (h:1≤W∧W≤8):W=1∨W=2∨W=3∨W=4∨W=5∨W=6∨W=7∨W=8:=by omega
def nearL (W:Int) (xs:List Int) (n:Int):List Int :=
 (((if W≤n∧rd xs (n-W)≠2 then [n-W] else [])++(if 0<n % W∧rd xs (n-1)≠2 then [n-1] else []))++(if n % W<W-1∧rd xs (n+1)≠2 then [n+1] else []))++(if n+W<(xs.length:Int)∧rd xs (n+W)≠2 then [n+W] else [])
theorem row_end {W H n l:Int} (hw:1≤W∧W≤8) (hl:l=W * H) (hn:n<l) (h0:0≤n) (h:n % W<W-1):n+1<l:=by
 rcases w_cases hw with e|e|e|e|e|e|e|e <;> subst e <;> omega
theorem l4Near_ok {W H:Int} {xs:List Int} (L:LandOk W H xs) (n:Int) (hn:0≤n∧n<(xs.length:Int)) (k:Nat) (hk:5<k):spec_l4Near.f k W H xs n=some (nearL W xs n):=by
 obtain⟨k,rfl⟩:∃ j,k=j+5:=⟨k-5,by omega⟩
 have hw:=L.w
 have:=L.le
 have t1:Int.tmod n W=n % W:=Int.tmod_eq_emod_of_nonneg hn.1
 have e1:wrap64 (n-W)=n-W:=by unfold wrap64;omega
 have e2:wrap64 (n-1)=n-1:=by unfold wrap64;omega
 have e3:wrap64 (n+1)=n+1:=by unfold wrap64;omega
 have e4:wrap64 (n+W)=n+W:=by unfold wrap64;omega
 have e5:wrap64 (W-1)=W-1:=by unfold wrap64;omega
 have hw0:¬ W=0:=by omega
 have hr:=fun h=>row_end hw L.len hn.2 hn.1 h
 have hp:0<n % W→0≤n-1:=fun h=>by
  by_cases h0:n=0
  ·subst h0;simp at h
  ·omega
 have j4:∀ (j:Nat) (acc:List Int) (c:Bool),acc.length≤10→spec_l4Near.j4 (j+1) n acc c W H xs=some ((acc++(if c=true then [n+1] else []))++(if n+W<(xs.length:Int)∧rd xs (n+W)≠2 then [n+W] else [])):=by
  intro j acc c ha
  have q1:acc.length<17592186044416:=by omega
  have q2:(acc++[n+1]).length<17592186044416:=by simp;omega
  have q3:0≤n+W:=by omega
  rw[spec_l4Near.j4]
  simp only[e3,e4,if_pos q1,if_pos q2,if_pos q3,Option.bind_some]
  by_cases c0:c=true
  ·by_cases c1:n+W<(xs.length:Int)
   ·by_cases c2:rd xs (n+W)=2
    ·simp[c0,c1,c2]
    ·simp[c0,c1,c2]
   ·simp[c0,c1]
  ·by_cases c1:n+W<(xs.length:Int)
   ·by_cases c2:rd xs (n+W)=2
    ·simp[c0,c1,c2]
    ·simp[c0,c1,c2]
   ·simp[c0,c1]
 have j3:∀ (j:Nat) (acc:List Int),acc.length≤10→spec_l4Near.j3 (j+2) n acc W H xs=some ((acc++(if n % W<W-1∧rd xs (n+1)≠2 then [n+1] else []))++(if n+W<(xs.length:Int)∧rd xs (n+W)≠2 then [n+W] else [])):=by
  intro j acc ha
  rw[spec_l4Near.j3]
  simp only[if_neg hw0,t1,e3,e5]
  by_cases c1:n % W<W-1
  ·have q1:=hr c1
   have q2:0≤n+1:=by omega
   rw[if_pos c1,if_pos q2,if_pos q1,j4 j acc _ ha]
   by_cases c2:rd xs (n+1)=2
   ·simp[c1,c2]
   ·simp[c1,c2]
  ·rw[if_neg c1,j4 j acc _ ha]
   simp[c1]
 have j2:∀ (j:Nat) (acc:List Int) (c:Bool),acc.length≤8→spec_l4Near.j2 (j+3) n acc c W H xs=some (((acc++(if c=true then [n-1] else []))++(if n % W<W-1∧rd xs (n+1)≠2 then [n+1] else []))++(if n+W<(xs.length:Int)∧rd xs (n+W)≠2 then [n+W] else [])):=by
  intro j acc c ha
  have q1:acc.length<17592186044416:=by omega
  rw[spec_l4Near.j2]
  simp only[e2,if_pos q1]
  by_cases c0:c=true
  ·rw[if_pos c0,j3 j _ (by simp;omega),if_pos c0]
  ·rw[if_neg c0,j3 j _ (by omega),if_neg c0,List.append_nil]
 have j1:∀ (j:Nat) (acc:List Int),acc.length≤8→spec_l4Near.j1 (j+4) n acc W H xs=some (((acc++(if 0<n % W∧rd xs (n-1)≠2 then [n-1] else []))++(if n % W<W-1∧rd xs (n+1)≠2 then [n+1] else []))++(if n+W<(xs.length:Int)∧rd xs (n+W)≠2 then [n+W] else [])):=by
  intro j acc ha
  rw[spec_l4Near.j1]
  simp only[if_neg hw0,t1,e2,gt_iff_lt]
  by_cases c1:0<n % W
  ·have q1:=hp c1
   have q2:n-1<(xs.length:Int):=by omega
   rw[if_pos c1,if_pos q1,if_pos q2,j2 j acc _ ha]
   by_cases c2:rd xs (n-1)=2
   ·simp[c1,c2]
   ·simp[c1,c2]
  ·rw[if_neg c1,j2 j acc _ ha]
   simp[c1]
 unfold spec_l4Near.f nearL
 simp only[Option.bind_some,e1,ge_iff_le]
 have q0:([]:List Int).length<17592186044416:=by simp
 by_cases c1:W≤n
 ·have q1:0≤n-W:=by omega
  have q2:n-W<(xs.length:Int):=by omega
  rw[if_pos c1,if_pos q1,if_pos q2,spec_l4Near.j0]
  simp only[e1,if_pos q0]
  by_cases c2:rd xs (n-W)=2
  ·simp only[c2,bne_self_eq_false,Bool.false_eq_true,if_false]
   rw[j1 k [] (by simp)]
   simp[c1]
  ·rw[if_pos (by simp[c2]),j1 k _ (by simp)]
   simp[c1,c2]
 ·rw[if_neg c1,spec_l4Near.j0]
  simp only[Bool.false_eq_true,if_false]
  rw[j1 k [] (by simp)]
  simp[c1]
def negs:List Int→Nat
 |[]=>0
 |v :: vs=>(if v<0 then 1 else 0)+negs vs
theorem negs_set:∀ (l:List Int) (i:Nat) (v:Int),i<l.length→l.getD i 0<0→0≤v→negs (l.set i v)+1=negs l
 |x :: xs,0,v,_,h,hv=>by
  simp only[List.getD_cons_zero] at h
  simp only[List.set_cons_zero,negs,if_pos h]
  rw[if_neg (by omega)];omega
 |x :: xs,i+1,v,hi,h,hv=>by
  have:=negs_set xs i v (by simpa using hi) (by simpa using h) hv
  simp only[List.set_cons_succ,negs];omega
def visit (d q:List Int) (own:Int):List Int→List Int × List Int
 |[]=>(d,q)
 |b :: bs=>if rd d b<0 then visit (d.set b.toNat (rd d own+1)) (q++[b]) own bs else visit d q own bs
def bfs (adj:Int→List Int):Nat→List Int→List Int→List Int
 |0,d,_=>d
 |_+1,d,[]=>d
 |f+1,d,own :: rest=>bfs adj f (visit d rest own (adj own)).1 (visit d rest own (adj own)).2
theorem rd_set_b (l:List Int) (x j v:Int) (hx:0≤x) (hx2:x<(l.length:Int)) (hj:0≤j):rd (l.set x.toNat v) j=if j=x then v else rd l j:=by
 unfold rd
 rw[List.getD_eq_getElem?_getD,List.getD_eq_getElem?_getD,List.getElem?_set]
 by_cases e:j=x
 ·subst e
  have h:j.toNat<l.length:=by omega
  simp[h]
 ·rw[if_neg (show ¬ x.toNat=j.toNat by omega),if_neg e]
structure Visited (d q:List Int) (own:Int) (bs:List Int) (d' q':List Int):Prop where
 len:d'.length=d.length
 old:∀ v,0≤v→0≤rd d v→rd d' v=rd d v
 new:∀ v,0≤v→rd d v<0→rd d' v=rd d v∨(v∈bs∧rd d' v=rd d own+1)
 seen:∀ b∈bs,0≤rd d' b
 que:∃ ns,q'=q++ns∧ns.length+negs d'=negs d∧(∀ x∈ns,x∈bs∧rd d' x=rd d own+1)∧∀ v,0≤v→rd d v<0→0≤rd d' v→v∈ns
theorem visit_spec (n:Nat) (own:Int) (hown:0≤own):∀ (bs d q:List Int),d.length=n→0≤rd d own→(∀ b∈bs,0≤b∧b<(n:Int))→Visited d q own bs (visit d q own bs).1 (visit d q own bs).2
 |[],d,q,hl,h0,hb=>⟨rfl,fun _ _ _=>rfl,fun _ _ _=>Or.inl rfl,fun b hb=>(by cases hb),⟨[],(by simp[visit]),(by simp[visit]),fun x hx=>(by cases hx),fun v h1 h2 h3=>(by simp only[visit] at h3;omega)⟩⟩
 |b :: bs,d,q,hl,h0,hb=>by
  have hbb:=hb b (List.mem_cons_self)
  unfold visit
  by_cases c:rd d b<0
  ·rw[if_pos c]
   have hr:=fun j hj=>rd_set_b d b j (rd d own+1) hbb.1 (by omega) hj
   have hob:own≠b:=fun e=>by rw[e] at h0;omega
   have ho2:rd (d.set b.toNat (rd d own+1)) own=rd d own:=by rw[hr own hown,if_neg hob]
   have ih:=visit_spec n own hown bs (d.set b.toNat (rd d own+1)) (q++[b]) (by simpa using hl) (by rw[ho2];exact h0) (fun x hx=>hb x (List.mem_cons_of_mem _ hx))
   obtain⟨i1,i2,i3,i4,ns,i5,i6,i7,i8⟩:=ih
   rw[ho2] at i3 i7
   have hb1:rd (d.set b.toNat (rd d own+1)) b=rd d own+1:=by rw[hr b hbb.1,if_pos rfl]
   have hb2:=i2 b hbb.1 (by rw[hb1];omega)
   rw[hb1] at hb2
   refine⟨by rw[i1,List.length_set],fun v hv h=>?_,fun v hv h=>?_,fun x hx=>?_,b :: ns,by rw[i5];simp,?_,fun x hx=>?_,fun v hv h1 h2=>?_⟩
   ·have hvb:v≠b:=fun e=>by rw[e] at h;omega
    rw[i2 v hv (by rw[hr v hv,if_neg hvb];exact h),hr v hv,if_neg hvb]
   ·by_cases e:v=b
    ·subst e;exact Or.inr ⟨List.mem_cons_self,hb2⟩
    ·have h2:=i3 v hv (by rw[hr v hv,if_neg e];exact h)
     rw[hr v hv,if_neg e] at h2
     rcases h2 with h2|⟨h2,h3⟩
     ·exact Or.inl h2
     ·exact Or.inr ⟨List.mem_cons_of_mem _ h2,h3⟩
   ·rcases List.mem_cons.mp hx with h|h
    ·rw[h,hb2];omega
    ·exact i4 x h
   ·have:=negs_set d b.toNat (rd d own+1) (by omega) (by exact c) (by omega)
    simp only[List.length_cons];omega
   ·rcases List.mem_cons.mp hx with h|h
    ·rw[h];exact⟨List.mem_cons_self,hb2⟩
    ·exact⟨List.mem_cons_of_mem _ (i7 x h).1,(i7 x h).2⟩
   ·by_cases e:v=b
    ·rw[e];exact List.mem_cons_self
    ·exact List.mem_cons_of_mem _ (i8 v hv (by rw[hr v hv,if_neg e];exact h1) h2)
  ·rw[if_neg c]
   obtain⟨i1,i2,i3,i4,ns,i5,i6,i7,i8⟩:=visit_spec n own hown bs d q hl h0 (fun x hx=>hb x (List.mem_cons_of_mem _ hx))
   refine⟨i1,i2,fun v hv h=>?_,fun x hx=>?_,ns,i5,i6,fun x hx=>⟨List.mem_cons_of_mem _ (i7 x hx).1,(i7 x hx).2⟩,i8⟩
   ·rcases i3 v hv h with h2|⟨h2,h3⟩
    ·exact Or.inl h2
    ·exact Or.inr ⟨List.mem_cons_of_mem _ h2,h3⟩
   ·rcases List.mem_cons.mp hx with h|h
    ·rw[h,i2 b hbb.1 (by omega)];omega
    ·exact i4 x h
structure BInv (adj:Int→List Int) (n:Nat) (src:Int) (d q:List Int) (m:Int):Prop where
 len:d.length=n
 m0:0≤m
 src0:rd d src=0
 zero:∀ v,0≤v→v<(n:Int)→rd d v=0→v=src
 lvl:∃ A B,q=A++B∧(∀ x∈A,0≤x∧x<(n:Int)∧rd d x=m)∧(∀ x∈B,0≤x∧x<(n:Int)∧rd d x=m+1)
 top:∀ v,0≤v→rd d v≤m+1
 from_:∀ v,0≤v→v<(n:Int)→0≤rd d v→v≠src→∃ u,0≤u∧u<(n:Int)∧v∈adj u∧0≤rd d u∧rd d u=rd d v-1
 done:∀ u,0≤u→u<(n:Int)→0≤rd d u→u ∉ q→∀ v∈adj u,0≤rd d v∧rd d v≤rd d u+1
structure BEnd (adj:Int→List Int) (n:Nat) (src:Int) (d:List Int):Prop where
 len:d.length=n
 src0:rd d src=0
 zero:∀ v,0≤v→v<(n:Int)→rd d v=0→v=src
 from_:∀ v,0≤v→v<(n:Int)→0≤rd d v→v≠src→∃ u,0≤u∧u<(n:Int)∧v∈adj u∧0≤rd d u∧rd d u=rd d v-1
 done:∀ u,0≤u→u<(n:Int)→0≤rd d u→∀ v∈adj u,0≤rd d v∧rd d v≤rd d u+1
theorem bfs_end (adj:Int→List Int) (n:Nat) (src:Int) (hs:0≤src) (hs1:src<(n:Int)) (hadj:∀ u,0≤u→u<(n:Int)→∀ v∈adj u,0≤v∧v<(n:Int)):∀ (f:Nat) (d q:List Int) (m:Int),BInv adj n src d q m→q.length+negs d≤f→BEnd adj n src (bfs adj f d q):=by
 have endq:∀ (d:List Int) (m:Int),BInv adj n src d [] m→BEnd adj n src d:=fun d m h=>⟨h.len,h.src0,h.zero,h.from_,fun u hu hu1 h2=>h.done u hu hu1 h2 (by simp)⟩
 intro f
 induction f with
 |zero =>
  intro d q m h hf
  have:q=[]:=List.eq_nil_of_length_eq_zero (by omega)
  subst this
  exact endq d m h
 |succ f ih =>
  intro d q m h hf
  cases q with
  |nil=>exact endq d m h
  |cons own rest =>
   have key:∃ m',m≤m'∧BInv adj n src d (own :: rest) m'∧(0≤own∧own<(n:Int)∧rd d own=m')∧∃ A B,rest=A++B∧(∀ x∈A,0≤x∧x<(n:Int)∧rd d x=m')∧(∀ x∈B,0≤x∧x<(n:Int)∧rd d x=m'+1):=by
    obtain⟨A,B,e,hA,hB⟩:=h.lvl
    cases A with
    |cons a A =>
     simp only[List.cons_append,List.cons.injEq] at e
     obtain⟨rfl,rfl⟩:=e
     exact⟨m,Int.le_refl _,h,hA own List.mem_cons_self,A,B,rfl,fun x hx=>hA x (List.mem_cons_of_mem _ hx),hB⟩
    |nil =>
     simp only[List.nil_append] at e
     subst e
     refine⟨m+1,by omega,⟨h.len,by have:=h.m0;omega,h.src0,h.zero,⟨own :: rest,[],by simp,hB,fun x hx=>by cases hx⟩,fun v hv=>by have:=h.top v hv;omega,h.from_,h.done⟩,hB own List.mem_cons_self,rest,[],by simp,fun x hx=>hB x (List.mem_cons_of_mem _ hx),fun x hx=>by cases hx⟩
   obtain⟨m',_,h',⟨ho0,ho1,ho2⟩,A,B,hr,hA,hB⟩:=key
   have hm0:=h'.m0
   obtain⟨v1,v2,v3,v4,ns,v5,v6,v7,v8⟩:=visit_spec n own ho0 (adj own) d rest h'.len (by omega) (hadj own ho0 ho1)
   show BEnd adj n src (bfs adj f (visit d rest own (adj own)).1 (visit d rest own (adj own)).2)
   obtain⟨d',hd'⟩:∃ d',d'=(visit d rest own (adj own)).1:=⟨_,rfl⟩
   obtain⟨q',hq'⟩:∃ q',q'=(visit d rest own (adj own)).2:=⟨_,rfl⟩
   rw[←hd'] at v1 v2 v3 v4 v6 v7 v8 ⊢
   rw[←hq'] at v5 ⊢
   have keep:∀ x,0≤x→0≤rd d x→rd d' x=rd d x:=v2
   have hsrc:rd d' src=0:=by rw[keep src hs (by rw[h'.src0];omega),h'.src0]
   refine ih d' q' m' ⟨by rw[v1,h'.len],hm0,hsrc,fun v hv hv1 e=>?_,?_,fun v hv=>?_,fun v hv hv1 e hne=>?_,fun u hu hu1 e hnq v hvu=>?_⟩ ?_
   ·by_cases c:0≤rd d v
    ·exact h'.zero v hv hv1 (by rw[←keep v hv c];exact e)
    ·rcases v3 v hv (by omega) with h2|⟨_,h2⟩ <;> omega
   ·refine⟨A,B++ns,by rw[v5,hr,List.append_assoc],fun x hx=>?_,fun x hx=>?_⟩
    ·have:=hA x hx
     exact⟨this.1,this.2.1,by rw[keep x this.1 (by omega)];exact this.2.2⟩
    ·rcases List.mem_append.mp hx with h2|h2
     ·have:=hB x h2
      exact⟨this.1,this.2.1,by rw[keep x this.1 (by omega)];exact this.2.2⟩
     ·obtain⟨h3,h4⟩:=v7 x h2
      have:=hadj own ho0 ho1 x h3
      exact⟨this.1,this.2,by rw[h4,ho2]⟩
   ·by_cases c:0≤rd d v
    ·rw[keep v hv c];exact h'.top v hv
    ·rcases v3 v hv (by omega) with h2|⟨_,h2⟩ <;> omega
   ·by_cases c:0≤rd d v
    ·obtain⟨u,u1,u2,u3,u4,u5⟩:=h'.from_ v hv hv1 c hne
     exact⟨u,u1,u2,u3,by rw[keep u u1 u4];exact u4,by rw[keep u u1 u4,keep v hv c];exact u5⟩
    ·rcases v3 v hv (by omega) with h2|⟨h2,h3⟩
     ·omega
     ·exact⟨own,ho0,ho1,h2,by rw[keep own ho0 (by omega)];omega,by rw[keep own ho0 (by omega),h3];omega⟩
   ·by_cases c:0≤rd d u
    ·rw[keep u hu c]
     by_cases e2:u=own
     ·subst e2
      refine⟨v4 v hvu,?_⟩
      have hvr:=hadj u ho0 ho1 v hvu
      by_cases c2:0≤rd d v
      ·rw[keep v hvr.1 c2,ho2];exact h'.top v hvr.1
      ·rcases v3 v hvr.1 (by omega) with h2|⟨_,h2⟩
       ·have:=v4 v hvu;omega
       ·omega
     ·have hnq2:u ∉ own :: rest:=by
       intro hm
       rcases List.mem_cons.mp hm with h2|h2
       ·exact e2 h2
       ·exact hnq (by rw[v5];exact List.mem_append_left _ h2)
      obtain⟨h2,h3⟩:=h'.done u hu hu1 c hnq2 v hvu
      have hv0:0≤v:=(hadj u hu hu1 v hvu).1
      rw[keep v hv0 h2]
      exact⟨h2,h3⟩
    ·exfalso
     exact hnq (by rw[v5];exact List.mem_append_right _ (v8 u hu (by omega) e))
   ·have:(own :: rest).length=rest.length+1:=rfl
    rw[v5,List.length_append];omega
theorem mem_if1 {c:Prop} [Decidable c] {a v:Int}:v∈(if c then [a] else [])↔c∧v=a:=by
 split <;> simp_all
theorem mem_near {W n v:Int} {xs:List Int}:v∈nearL W xs n↔((((W≤n∧rd xs (n-W)≠2)∧v=n-W)∨((0<n % W∧rd xs (n-1)≠2)∧v=n-1))∨((n % W<W-1∧rd xs (n+1)≠2)∧v=n+1))∨((n+W<(xs.length:Int)∧rd xs (n+W)≠2)∧v=n+W):=by
 unfold nearL
 simp only[List.mem_append,mem_if1]
theorem near_len (W n:Int) (xs:List Int):(nearL W xs n).length≤4:=by
 unfold nearL
 have h:∀ (c:Prop) [Decidable c] (a:Int),(if c then [a] else([]:List Int)).length≤1:=fun c _ a=>by split <;> simp
 simp only[List.length_append]
 have:=h (W≤n∧rd xs (n-W)≠2) (n-W)
 have:=h (0<n % W∧rd xs (n-1)≠2) (n-1)
 have:=h (n % W<W-1∧rd xs (n+1)≠2) (n+1)
 have:=h (n+W<(xs.length:Int)∧rd xs (n+W)≠2) (n+W)
 omega
theorem opn_iff {xs:List Int} {m:Int}:opn xs m=true↔(0≤m∧m<(xs.length:Int))∧rd xs m≠2:=by
 unfold opn
 rw[Bool.and_eq_true,decide_eq_true_eq,bne_iff_ne]
theorem near_open {W H n:Int} {xs:List Int} (L:LandOk W H xs) (hn:0≤n∧n<(xs.length:Int)):∀ v∈nearL W xs n,opn xs v=true:=by
 intro v hv
 have hw:=L.w
 rw[opn_iff]
 rcases mem_near.mp hv with ((⟨⟨h1,h2⟩,h3⟩|⟨⟨h1,h2⟩,h3⟩)|⟨⟨h1,h2⟩,h3⟩)|⟨⟨h1,h2⟩,h3⟩ <;> subst h3
 ·exact⟨by omega,h2⟩
 ·refine⟨⟨?_,by omega⟩,h2⟩
  by_cases h0:n=0
  ·subst h0;simp at h1
  ·omega
 ·have:=row_end hw L.len hn.2 hn.1 h1
  exact⟨by omega,h2⟩
 ·exact⟨by omega,h2⟩
structure Good (n:Nat) (d q:List Int):Prop where
 len:d.length=n
 bnd:∀ v,0≤v→rd d v+(negs d:Int)+1≤(n:Int)
 mem:∀ x∈q,0≤x∧x<(n:Int)∧0≤rd d x
theorem set_bnd {n:Nat} {d:List Int} {own b:Int} (hl:d.length=n) (hb:∀ v,0≤v→rd d v+(negs d:Int)+1≤(n:Int)) (ho:0≤own) (h0:0≤rd d own) (b0:0≤b) (b1:b<(n:Int)) (c:rd d b<0) :
  ∀ v,0≤v→rd (d.set b.toNat (rd d own+1)) v+(negs (d.set b.toNat (rd d own+1)):Int)+1≤(n:Int):=by
 intro v hv
 have h1:=negs_set d b.toNat (rd d own+1) (by omega) c (by omega)
 have h2:=hb v hv
 have h3:=hb own ho
 rw[rd_set_b d b v (rd d own+1) b0 (by omega) hv]
 split <;> omega
theorem visit_bnd (n:Nat) (own:Int) (ho:0≤own):∀ (bs d q:List Int),d.length=n→(∀ v,0≤v→rd d v+(negs d:Int)+1≤(n:Int))→0≤rd d own→(∀ b∈bs,0≤b∧b<(n:Int)) →
  ∀ v,0≤v→rd (visit d q own bs).1 v+(negs (visit d q own bs).1:Int)+1≤(n:Int)
 |[],d,q,hl,hb,h0,hr=>hb
 |b :: bs,d,q,hl,hb,h0,hr=>by
  have hbb:=hr b List.mem_cons_self
  unfold visit
  by_cases c:rd d b<0
  ·rw[if_pos c]
   have hne:own≠b:=fun e=>by rw[e] at h0;omega
   have h2:rd (d.set b.toNat (rd d own+1)) own=rd d own:=by rw[rd_set_b d b own _ hbb.1 (by omega) ho,if_neg hne]
   exact visit_bnd n own ho bs _ _ (by simpa using hl) (set_bnd hl hb ho h0 hbb.1 hbb.2 c) (by rw[h2];exact h0) (fun x hx=>hr x (List.mem_cons_of_mem _ hx))
  ·rw[if_neg c]
   exact visit_bnd n own ho bs d q hl hb h0 (fun x hx=>hr x (List.mem_cons_of_mem _ hx))
theorem visit_good {n:Nat} {d rest bs:List Int} {own:Int} (G:Good n d (own :: rest)) (hr:∀ b∈bs,0≤b∧b<(n:Int)):Good n (visit d rest own bs).1 (visit d rest own bs).2∧(visit d rest own bs).2.length+negs (visit d rest own bs).1=rest.length+negs d:=by
 obtain⟨o1,o2,o3⟩:=G.mem own List.mem_cons_self
 obtain⟨v1,v2,v3,v4,ns,v5,v6,v7,v8⟩:=visit_spec n own o1 bs d rest G.len o3 hr
 refine⟨⟨by rw[v1];exact G.len,visit_bnd n own o1 bs d rest G.len G.bnd o3 hr,fun x hx=>?_⟩,by rw[v5,List.length_append];omega⟩
 rw[v5] at hx
 rcases List.mem_append.mp hx with h|h
 ·obtain⟨x1,x2,x3⟩:=G.mem x (List.mem_cons_of_mem _ h)
  exact⟨x1,x2,by rw[v2 x x1 x3];exact x3⟩
 ·obtain⟨h1,h2⟩:=v7 x h
  exact⟨(hr x h1).1,(hr x h1).2,by omega⟩
theorem visit_drop (own:Int) (j:Nat):∀ (bs d q:List Int),j≤q.length→(visit d q own bs).1=(visit d (q.drop j) own bs).1∧(visit d q own bs).2.drop j=(visit d (q.drop j) own bs).2∧q.length≤(visit d q own bs).2.length
 |[],d,q,h=>⟨rfl,rfl,Nat.le_refl _⟩
 |b :: bs,d,q,h=>by
  unfold visit
  by_cases c:rd d b<0
  ·rw[if_pos c,if_pos c]
   have h1:=visit_drop own j bs (d.set b.toNat (rd d own+1)) (q++[b]) (by simp;omega)
   rw[List.drop_append_of_le_length h] at h1
   refine⟨h1.1,h1.2.1,?_⟩
   have:=h1.2.2
   simp only[List.length_append,List.length_cons,List.length_nil] at this
   omega
  ·rw[if_neg c,if_neg c]
   exact visit_drop own j bs d q h
theorem fromIn (W H:Int) (xs:List Int) (n:Nat) (hn:n≤64) (own:Int) (ho:0≤own) (bs:List Int) (hb4:bs.length≤4) (hr:∀ b∈bs,0≤b∧b<(n:Int)) (hon:own<(n:Int)) (K:Nat) (r:List Int) (p:Int) (hp0:0≤p) (hp1:p≤200) :
  ∀ (e:Nat) (i:Int) (d Q:List Int),0≤i→(bs.length:Int)-i=e→d.length=n→(∀ v,0≤v→rd d v+(negs d:Int)+1≤(n:Int))→0≤rd d own→Q.length+negs d≤200→p<(Q.length:Int)→rd Q p=own →
  (∀ k,K<k→spec_l5From.l1 k (visit d Q own (bs.drop i.toNat)).1 (visit d Q own (bs.drop i.toNat)).2 (p+1) W H xs=some r) →
  ∀ k,K+e+1<k→spec_l5From.l2 k d Q p bs i W H xs=some r:=by
 intro e
 induction e with
 |zero =>
  intro i d q h0 hd hl hb hown hq hpq hpo hk2 k hk
  obtain⟨k,rfl⟩:∃ j,k=j+1:=⟨k-1,by omega⟩
  have hlt:¬ i<(bs.length:Int):=by omega
  rw[List.drop_eq_nil_of_le (by omega)] at hk2
  rw[spec_l5From.l2,if_neg hlt,show wrap64 (p+1)=p+1 by unfold wrap64;omega]
  exact hk2 k (by omega)
 |succ e ih =>
  intro i d q h0 hd hl hb hown hq hpq hpo hk2 k hk
  obtain⟨k,rfl⟩:∃ j,k=j+1:=⟨k-1,by omega⟩
  have hlt:i<(bs.length:Int):=by omega
  have hw:wrap64 (i+1)=i+1:=by unfold wrap64;omega
  have hmem:rd bs i∈bs:=by
   have h1:i.toNat<bs.length:=by omega
   unfold rd
   rw[List.getD_eq_getElem?_getD,List.getElem?_eq_getElem h1]
   exact List.getElem_mem h1
  obtain⟨b0,b1⟩:=hr _ hmem
  rw[drop_step 0 bs i h0 hlt,show bs.getD i.toNat 0=rd bs i from rfl] at hk2
  unfold visit at hk2
  have hd1:rd bs i<(d.length:Int):=by omega
  have hd2:own<(d.length:Int):=by omega
  have hq1:q.length<17592186044416:=by omega
  have hbo:=hb own ho
  have hw2:wrap64 (rd d own+1)=rd d own+1:=by unfold wrap64;omega
  simp only[spec_l5From.l2,if_pos hlt,if_pos h0,if_pos b0,if_pos hd1,if_pos hp0,if_pos hpq,hpo,if_pos ho,if_pos hd2,if_pos hq1,hw,hw2]
  by_cases c:rd d (rd bs i)<0
  ·rw[if_pos c]
   rw[if_pos c] at hk2
   have hne:own≠rd bs i:=fun e=>by rw[e] at hown;omega
   have h2:rd (d.set (rd bs i).toNat (rd d own+1)) own=rd d own:=by rw[rd_set_b d _ own _ b0 (by omega) ho,if_neg hne]
   have h3:=negs_set d (rd bs i).toNat (rd d own+1) (by omega) c (by omega)
   refine ih (i+1) _ _ (by omega) (by omega) (by simpa using hl) (set_bnd hl hb ho hown b0 b1 c) (by rw[h2];exact hown) (by simp only[List.length_append,List.length_cons,List.length_nil];omega) (by simp only[List.length_append,List.length_cons,List.length_nil];omega) ?_ hk2 k (by omega)
   have h4:p.toNat<q.length:=by omega
   unfold rd at hpo ⊢
   rw[List.getD_eq_getElem?_getD,List.getElem?_append_left h4,←List.getD_eq_getElem?_getD]
   exact hpo
  ·rw[if_neg c]
   rw[if_neg c] at hk2
   exact ih (i+1) d q (by omega) (by omega) hl hb hown hq hpq hpo hk2 k (by omega)
theorem fromOut {W H:Int} {xs:List Int} (L:LandOk W H xs):∀ (f:Nat) (d Q:List Int) (p:Int),0≤p→p≤(Q.length:Int)→Q.length+negs d≤64→Good xs.length d (Q.drop p.toNat)→(Q.drop p.toNat).length+negs d≤f→f≤64→∀ k,110+8 * f<k→spec_l5From.l1 k d Q p W H xs=some (bfs (nearL W xs) f d (Q.drop p.toNat)):=by
 intro f
 induction f with
 |zero =>
  intro d Q p hp0 hp1 hQ G hf _ k hk
  obtain⟨k,rfl⟩:∃ j,k=j+1:=⟨k-1,by omega⟩
  rw[List.length_drop] at hf
  have c:¬ p<(Q.length:Int):=by omega
  rw[spec_l5From.l1,if_neg c]
  rfl
 |succ f ih =>
  intro d Q p hp0 hp1 hQ G hf hf6 k hk
  obtain⟨k,rfl⟩:∃ j,k=j+1:=⟨k-1,by omega⟩
  by_cases c:p<(Q.length:Int)
  ·have hcons:=drop_step 0 Q p hp0 c
   obtain⟨own,hown⟩:∃ own,own=rd Q p:=⟨_,rfl⟩
   rw[show Q.getD p.toNat 0=own from hown.symm] at hcons
   rw[hcons] at G hf ⊢
   obtain⟨rest,hrest⟩:∃ rest,rest=Q.drop (p+1).toNat:=⟨_,rfl⟩
   rw[←hrest] at G hf ⊢
   obtain⟨o1,o2,o3⟩:=G.mem own List.mem_cons_self
   have hle:=L.le
   have hr:∀ b∈nearL W xs own,0≤b∧b<(xs.length:Int):=fun b hb=>opn_in (near_open L ⟨o1,o2⟩ b hb)
   have g:=visit_good G hr
   have hlen:(own :: rest).length=rest.length+1:=rfl
   have h4:=near_len W own xs
   have vd:=visit_drop own (p+1).toNat (nearL W xs own) d Q (by omega)
   rw[←hrest] at vd
   rw[spec_l5From.l1,if_pos c,if_pos hp0,←hown,l4Near_ok L own ⟨o1,o2⟩ k (by omega),Option.bind_some]
   refine fromIn W H xs xs.length hle own o1 (nearL W xs own) h4 hr o2 (110+8 * f) _ p hp0 (by omega) (nearL W xs own).length 0 d Q (by omega) (by omega) G.len G.bnd o3 (by omega) c hown.symm (fun k hk=>?_) k (by omega)
   rw[Int.toNat_zero,List.drop_zero]
   have v6:(visit d Q own (nearL W xs own)).2.length+negs (visit d Q own (nearL W xs own)).1=Q.length+negs d:=by
    have e1:=g.2
    rw[←vd.2.1,←vd.1,List.length_drop] at e1
    rw[hrest,List.length_drop] at e1
    have:=vd.2.2
    omega
   rw[ih _ _ (p+1) (by omega) (by have:=vd.2.2;omega) (by omega) (by rw[vd.1,vd.2.1];exact g.1) (by rw[vd.1,vd.2.1];omega) (by omega) k hk,vd.1,vd.2.1]
   rfl
  ·rw[spec_l5From.l1,if_neg c,List.drop_eq_nil_of_le (by omega)]
   rfl
theorem negs_rep:∀ n:Nat,negs (List.replicate n (-1))=n
 |0=>rfl
 |n+1=>by
  rw[List.replicate_succ,negs,negs_rep n]
  simp
  omega
theorem rd_rep (n:Nat) (v:Int) (hv:0≤v):rd (List.replicate n (-1)) v=if v<(n:Int) then -1 else 0:=by
 unfold rd
 rw[List.getD_eq_getElem?_getD,List.getElem?_replicate]
 by_cases h:v<(n:Int)
 ·rw[if_pos h,if_pos (by omega)];rfl
 ·rw[if_neg h,if_neg (by omega)];rfl
def dist (W:Int) (xs:List Int) (a:Int):List Int:=bfs (nearL W xs) xs.length ((List.replicate xs.length (-1)).set a.toNat 0) [a]
theorem dist_good {n:Nat} {a:Int} (ha:0≤a∧a<(n:Int)):Good n ((List.replicate n (-1)).set a.toNat 0) [a]∧negs ((List.replicate n (-1)).set a.toNat 0)+1=n∧∀ v,0≤v→rd ((List.replicate n (-1)).set a.toNat 0) v=if v=a then 0 else if v<(n:Int) then -1 else 0:=by
 have h1:=negs_set (List.replicate n (-1)) a.toNat 0 (by simp;omega) (by have:=rd_rep n a ha.1;unfold rd at this;rw[this,if_pos ha.2];omega) (by omega)
 rw[negs_rep] at h1
 have hr:∀ v,0≤v→rd ((List.replicate n (-1)).set a.toNat 0) v=if v=a then 0 else if v<(n:Int) then -1 else 0:=fun v hv=>by
  rw[rd_set_b _ a v 0 ha.1 (by simp;omega) hv,rd_rep n v hv]
 refine⟨⟨by simp,fun v hv=>?_,fun x hx=>?_⟩,h1,hr⟩
 ·rw[hr v hv];split
  ·omega
  ·split <;> omega
 ·rw[List.mem_singleton] at hx
  subst hx
  rw[hr x ha.1,if_pos rfl]
  exact⟨ha.1,ha.2,by omega⟩
theorem dist_end {W H a:Int} {xs:List Int} (L:LandOk W H xs) (ha:0≤a∧a<(xs.length:Int)):BEnd (nearL W xs) xs.length a (dist W xs a):=by
 obtain⟨g,g2,hr⟩:=dist_good ha
 refine bfs_end (nearL W xs) xs.length a ha.1 ha.2 (fun u h0 h1 v hv=>opn_in (near_open L ⟨h0,h1⟩ v hv)) xs.length _ [a] 0 ⟨g.len,by omega,by rw[hr a ha.1,if_pos rfl],fun v hv h1 h2=>?_,⟨[a],[],rfl,fun x hx=>?_,fun x hx=>(by cases hx)⟩,fun v hv=>?_,fun v hv h1 h2 h3=>?_,fun u hu h1 h2 h3=>?_⟩ (by simp only[List.length_cons,List.length_nil];omega)
 ·rw[hr v hv] at h2
  by_cases e:v=a
  ·exact e
  ·rw[if_neg e,if_pos h1] at h2;omega
 ·rw[List.mem_singleton] at hx
  subst hx
  exact⟨ha.1,ha.2,by rw[hr x ha.1,if_pos rfl]⟩
 ·rw[hr v hv];split
  ·omega
  ·split <;> omega
 ·rw[hr v hv,if_neg h3,if_pos h1] at h2;omega
 ·have:u≠a:=fun e=>h3 (by rw[e];exact List.mem_singleton.mpr rfl)
  rw[hr u hu,if_neg this,if_pos h1] at h2;omega
theorem bfs_bnd {W H:Int} {xs:List Int} (L:LandOk W H xs):∀ (f:Nat) (d q:List Int),Good xs.length d q→∀ v,0≤v→rd (bfs (nearL W xs) f d q) v+1≤(xs.length:Int)
 |0,d,q,G,v,hv=>by have:=G.bnd v hv;simp only[bfs];omega
 |f+1,d,[],G,v,hv=>by have:=G.bnd v hv;simp only[bfs];omega
 |f+1,d,own :: rest,G,v,hv=>by
  obtain⟨o1,o2,o3⟩:=G.mem own List.mem_cons_self
  exact bfs_bnd L f _ _ (visit_good G (fun b hb=>opn_in (near_open L ⟨o1,o2⟩ b hb))).1 v hv
theorem dist_bnd {W H a:Int} {xs:List Int} (L:LandOk W H xs) (ha:0≤a∧a<(xs.length:Int)) (v:Int) (hv:0≤v):rd (dist W xs a) v≤63:=by
 have:=bfs_bnd L xs.length _ _ (dist_good ha).1 v hv
 have:=L.le
 unfold dist;omega
theorem dist_okS {W H:Int} {xs:List Int} (L:LandOk W H xs) (a:Int) (ha:opn xs a=true) (k:Nat) (hk:1000<k):spec_l5From.f k W H xs a=some (dist W xs a):=by
 obtain⟨a0,a1⟩:=opn_in ha
 have hle:=L.le
 obtain⟨g,g2,hr⟩:=dist_good (n:=xs.length) ⟨a0,a1⟩
 have build:∀ (e:Nat) (i:Int),0≤i→(xs.length:Int)-i=e→∀ k,800+e<k→spec_l5From.l0 k a (List.replicate i.toNat (-1)) i W H xs=some (dist W xs a):=by
  intro e
  induction e with
  |zero =>
   intro i h0 hd k hk
   have hlt:¬ i<(xs.length:Int):=by omega
   have hi:i.toNat=xs.length:=by omega
   have hlen:((List.replicate xs.length (-1:Int)).length:Int)=xs.length:=by simp
   obtain⟨k,rfl⟩:∃ j,k=j+1:=⟨k-1,by omega⟩
   have hlt2:a<((List.replicate xs.length (-1:Int)).length:Int):=by omega
   rw[spec_l5From.l0,if_neg hlt,hi,if_pos a0,if_pos hlt2]
   exact fromOut L xs.length _ [a] 0 (by omega) (by simp) (by simp only[List.length_cons,List.length_nil];omega) g (by simp only[Int.toNat_zero,List.drop_zero,List.length_cons,List.length_nil];omega) hle k (by omega)
  |succ e ih =>
   intro i h0 hd k hk
   have hlt:i<(xs.length:Int):=by omega
   have hw:wrap64 (i+1)=i+1:=by unfold wrap64;omega
   have hrep:List.replicate i.toNat (-1:Int)++[-1]=List.replicate (i+1).toNat (-1):=by
    rw[show (i+1).toNat=i.toNat+1 by omega,List.replicate_succ']
   have q1:(List.replicate i.toNat (-1:Int)).length<17592186044416:=by simp;omega
   obtain⟨k,rfl⟩:∃ j,k=j+1:=⟨k-1,by omega⟩
   rw[spec_l5From.l0,if_pos hlt,if_pos q1,hw,hrep]
   exact ih (i+1) (by omega) (by omega) k (by omega)
 unfold spec_l5From.f
 exact build xs.length 0 (by omega) (by omega) k (by omega)
theorem reach_loop (n:Int) (ds:List Int) (hn:ds.length≤64):∀ (e:Nat) (i:Int) (acc:List Int),0≤i→(ds.length:Int)-i=e→(acc.length:Int)≤i →
  ∃ r,r.length≤64∧∀ k,e<k→spec_Reach.l0 k n acc ds i=some r:=by
 intro e
 induction e with
 |zero =>
  intro i acc h0 he ha
  refine⟨acc,by omega,fun k hk=>?_⟩
  obtain⟨k,rfl⟩:∃ m,k=m+1:=⟨k-1,by omega⟩
  rw[spec_Reach.l0,if_neg (by omega)]
 |succ e ih =>
  intro i acc h0 he ha
  have hlt:i<(ds.length:Int):=by omega
  have hw:wrap64 (i+1)=i+1:=by unfold wrap64;omega
  have q1:acc.length<17592186044416:=by omega
  by_cases c:rd ds i≥0∧rd ds i≤n
  ·obtain⟨r,hr,hk2⟩:=ih (i+1) (acc++[i]) (by omega) (by omega) (by simp;omega)
   refine⟨r,hr,fun k hk=>?_⟩
   obtain⟨k,rfl⟩:∃ m,k=m+1:=⟨k-1,by omega⟩
   rw[spec_Reach.l0,if_pos hlt,if_pos h0,if_pos c.1,if_pos c.2,if_pos q1,hw]
   exact hk2 k (by omega)
  ·obtain⟨r,hr,hk2⟩:=ih (i+1) acc (by omega) (by omega) (by omega)
   refine⟨r,hr,fun k hk=>?_⟩
   obtain⟨k,rfl⟩:∃ m,k=m+1:=⟨k-1,by omega⟩
   rw[spec_Reach.l0,if_pos hlt,if_pos h0,hw]
   by_cases c1:rd ds i≥0
   ·rw[if_pos c1,if_neg (fun c2=>c ⟨c1,c2⟩)]
    exact hk2 k (by omega)
   ·rw[if_neg c1]
    exact hk2 k (by omega)
theorem reach_ev (W H:Int) (xs:List Int) (hn:xs.length≤64) (a n:Int):∃ r,r.length≤64∧∀ k,1100<k→spec_Reach.f k W H xs a n=some r:=by
 rcases land_cases W H xs (by omega) with L|no
 ·by_cases ha:opn xs a=true
  ·have hl:=(dist_end L (opn_in ha)).len
   obtain⟨r,hr,hk2⟩:=reach_loop n (dist W xs a) (by omega) xs.length 0 [] (by omega) (by omega) (by simp)
   refine⟨r,hr,fun k hk=>?_⟩
   unfold spec_Reach.f
   simp only[Option.bind_some,isOpen_ok L a k (by omega),if_pos ha,dist_okS L a ha k (by omega)]
   exact hk2 k (by omega)
  ·refine⟨[],by simp,fun k hk=>?_⟩
   unfold spec_Reach.f
   simp only[Option.bind_some,isOpen_ok L a k (by omega),if_neg ha]
 ·refine⟨[],by simp,fun k hk=>?_⟩
  unfold spec_Reach.f
  simp only[Option.bind_some,isOpen_no a k (no k (by omega)),Bool.false_eq_true,if_false]
def fitM (m:S86):Prop:=1≤m.f0∧m.f0≤99∧0≤m.f1∧m.f1≤100∧1≤m.f2∧m.f2≤10
theorem areCrew_loop (xs:List S86) (hn:xs.length≤1048576):∀ (d:Nat) (i:Int),0≤i→(xs.length:Int)-i=d →
  ∃ b,(∀ k,d<k→impl_AreCrew.l0 k xs xs (xs.length:Int) i=some b)∧(b=true→(1≤xs.length∧xs.length≤8)∧∀ j:Int,i≤j→j<(xs.length:Int)→fitM (rd_T86 xs j)):=by
 intro d
 induction d with
 |zero =>
  intro i h0 hd
  have hlt:¬ i<(xs.length:Int):=by omega
  refine⟨decide (1≤(xs.length:Int)∧(xs.length:Int)≤8),fun k hk=>?_,fun hb=>?_⟩
  ·obtain⟨k,rfl⟩:∃ m,k=m+1:=⟨k-1,by omega⟩
   simp only[impl_AreCrew.l0,if_neg hlt,inRange_eq,Option.bind_some]
  ·have:=of_decide_eq_true hb
   exact⟨by omega,fun j h1 h2=>by omega⟩
 |succ d ih =>
  intro i h0 hd
  have hlt:i<(xs.length:Int):=by omega
  obtain⟨b,hb,hp⟩:=ih (i+1) (by omega) (by omega)
  have hw:wrap64 (i-1)=i-1:=by unfold wrap64;omega
  by_cases ok:(1≤(rd_T86 xs i).f0∧(rd_T86 xs i).f0≤99∧0≤(rd_T86 xs i).f1∧(rd_T86 xs i).f1≤100∧1≤(rd_T86 xs i).f2∧(rd_T86 xs i).f2≤10)∧(i>0→(rd_T86 xs (i-1)).f0<(rd_T86 xs i).f0)
  ·refine⟨b,fun k hk=>?_,fun e=>⟨(hp e).1,fun j h1 h2=>?_⟩⟩
   ·obtain⟨k,rfl⟩:∃ m,k=m+1:=⟨k-1,by omega⟩
    have b1:=hb k (by omega)
    have e1:1≤(rd_T86 xs i).f0∧(rd_T86 xs i).f0≤99:=⟨ok.1.1,ok.1.2.1⟩
    have e2:0≤(rd_T86 xs i).f1∧(rd_T86 xs i).f1≤100:=⟨ok.1.2.2.1,ok.1.2.2.2.1⟩
    have e3:1≤(rd_T86 xs i).f2∧(rd_T86 xs i).f2≤10:=ok.1.2.2.2.2
    simp only[impl_AreCrew.l0,if_pos hlt,if_pos h0,inRange_eq,Option.bind_some,decide_eq_true_eq,if_pos e1,if_pos e2,if_pos e3,hw,wrap_small (n:=xs.length) h0 hlt hn]
    by_cases hi:i>0
    ·have h1:0≤i-1:=by omega
     have h2:i-1<(xs.length:Int):=by omega
     have h3:=ok.2 hi
     have h4:¬ (rd_T86 xs i).f0≤(rd_T86 xs (i-1)).f0:=by omega
     have h5:¬ (rd_T86 xs (i-1)).f0≥(rd_T86 xs i).f0:=by omega
     simp only[if_pos hi,if_pos h1,if_pos h2,if_neg h4,if_neg h5]
     exact b1
    ·simp only[if_neg hi]
     exact b1
   ·by_cases e2:j=i
    ·subst e2;exact ok.1
    ·exact(hp e).2 j (by omega) h2
  ·refine⟨false,fun k hk=>?_,fun e=>by cases e⟩
   obtain⟨k,rfl⟩:∃ m,k=m+1:=⟨k-1,by omega⟩
   simp only[impl_AreCrew.l0,if_pos hlt,if_pos h0,inRange_eq,Option.bind_some,decide_eq_true_eq,hw]
   repeat' split
   all_goals first|rfl|(exfalso;omega)
theorem areCrew_ev (xs:List S86) (hn:xs.length≤1048576):∃ b,(∀ k,xs.length<k→impl_AreCrew.f k xs=some b)∧(b=true→(1≤xs.length∧xs.length≤8)∧∀ j:Int,0≤j→j<(xs.length:Int)→fitM (rd_T86 xs j)):=by
 obtain⟨b,h,hp⟩:=areCrew_loop xs hn xs.length 0 (by omega) (by omega)
 exact⟨b,h,hp⟩
def fsM:List S86→Int
 |[]=>0
 |m :: ms=>m.f2+fsM ms
theorem fsM_bound:∀ l:List S86,(∀ m∈l,fitM m)→(l.length:Int)≤fsM l∧fsM l≤10 * (l.length:Int)
 |[],_=>by simp[fsM]
 |m :: ms,h=>by
  have h1:=fsM_bound ms (fun x hx=>h x (List.mem_cons_of_mem _ hx))
  have h2:=h m (List.mem_cons_self)
  unfold fitM at h2
  simp only[fsM,List.length_cons]
  omega
theorem fit_mem {xs:List S86} (h:∀ j:Int,0≤j→j<(xs.length:Int)→fitM (rd_T86 xs j)):∀ m∈xs,fitM m:=by
 intro m hm
 obtain⟨j,hj,rfl⟩:=List.mem_iff_getElem.mp hm
 have:=h (j:Int) (by omega) (by omega)
 unfold rd_T86 at this
 simpa [List.getD_eq_getElem?_getD,List.getElem?_eq_getElem hj] using this
theorem needOf_loop (xs:List S86) (hn:xs.length≤8) (hfit:∀ m∈xs,fitM m):∀ (d:Nat) (i a:Int),0≤i→(xs.length:Int)-i=d→0≤a→a≤1000-10 * d →
  ∀ k,xs.length+d+2<k→impl_NeedOf.l0 k a xs (xs.length:Int) i=some (a+fsM (xs.drop i.toNat)):=by
 intro d
 induction d with
 |zero =>
  intro i a h0 hd _ _ k hk
  obtain⟨k,rfl⟩:∃ m,k=m+1:=⟨k-1,by omega⟩
  have hlt:¬ i<(xs.length:Int):=by omega
  simp only[impl_NeedOf.l0,if_neg hlt,List.drop_eq_nil_of_le (show xs.length≤i.toNat by omega),fsM,Int.add_zero]
 |succ d ih =>
  intro i a h0 hd ha hb k hk
  obtain⟨k,rfl⟩:∃ m,k=m+1:=⟨k-1,by omega⟩
  have hlt:i<(xs.length:Int):=by omega
  have hm:fitM (rd_T86 xs i):=hfit _ (by
   unfold rd_T86
   have h1:i.toNat<xs.length:=by omega
   simp[List.getD_eq_getElem?_getD,List.getElem?_eq_getElem h1])
  unfold fitM at hm
  have hw:wrap64 (a+(rd_T86 xs i).f2)=a+(rd_T86 xs i).f2:=by unfold wrap64;omega
  have h1:=ih (i+1) (a+(rd_T86 xs i).f2) (by omega) (by omega) (by omega) (by omega) k (by omega)
  rw[drop_step z86 xs i h0 hlt,show xs.getD i.toNat z86=rd_T86 xs i from rfl]
  simp only[impl_NeedOf.l0,if_pos hlt,if_pos h0,hw,wrap_small (n:=xs.length) h0 hlt (by omega),fsM,h1,Int.add_assoc]
theorem needOf_ev (xs:List S86) (hn:xs.length≤1048576):∃ b c,(∀ k,xs.length<k→impl_AreCrew.f k xs=some b) ∧
  (b=true→c=fsM xs∧1≤xs.length∧xs.length≤8∧(∀ m∈xs,fitM m)∧1≤c∧c≤80)∧(b=false→c=0) ∧
  ∀ k,2 * xs.length+3<k→impl_NeedOf.f k xs=some c:=by
 obtain⟨b,hb,hp⟩:=areCrew_ev xs hn
 cases b with
 |true =>
  obtain⟨⟨h1,h8⟩,hf⟩:=hp rfl
  have hm:=fit_mem hf
  have hbd:=fsM_bound xs hm
  refine⟨true,fsM xs,hb,fun _=>⟨rfl,h1,h8,hm,by omega,by omega⟩,(fun e=>by cases e),fun k hk=>?_⟩
  have h3:=needOf_loop xs h8 hm xs.length 0 0 (by omega) (by omega) (by omega) (by omega) k (by omega)
  rw[Int.toNat_zero,List.drop_zero,Int.zero_add] at h3
  unfold impl_NeedOf.f
  simp only[hb k (by omega),Option.bind_some,if_true]
  exact h3
 |false =>
  refine⟨false,0,hb,fun e=>(by cases e),fun _=>rfl,fun k hk=>?_⟩
  unfold impl_NeedOf.f
  simp only[hb k (by omega),Option.bind_some,Bool.false_eq_true,if_false]
theorem capOf2_loop (xs:List S86) (hn:xs.length≤1048576) (h8:xs.length≤8) (hf:∀ j:Int,0≤j→j<(xs.length:Int)→fitM (rd_T86 xs j)):∀ (d:Nat) (i a:Int),0≤i→(xs.length:Int)-i=d→0≤a→a≤100 * i →
  ∃ c,(0≤c∧c≤800)∧∀ k,xs.length+2 * d+2<k→impl_CapOf.l0 k a xs (xs.length:Int) i=some c:=by
 intro d
 induction d with
 |zero =>
  intro i a h0 hd ha ha2
  have hlt:¬ i<(xs.length:Int):=by omega
  refine⟨a,⟨ha,by omega⟩,fun k hk=>?_⟩
  obtain⟨k,rfl⟩:∃ m,k=m+2:=⟨k-2,by omega⟩
  simp only[impl_CapOf.l0,if_neg hlt]
 |succ d ih =>
  intro i a h0 hd ha ha2
  have hm:=hf i h0 (by omega)
  unfold fitM at hm
  have hwa:wrap64 (a+(rd_T86 xs i).f1)=a+(rd_T86 xs i).f1:=by unfold wrap64;omega
  have hlt:i<(xs.length:Int):=by omega
  by_cases hf:(rd_T86 xs i).f3=true
  ·obtain⟨c,hcb,hk2⟩:=ih (i+1) a (by omega) (by omega) ha (by omega)
   refine⟨c,hcb,fun k hk=>?_⟩
   obtain⟨k,rfl⟩:∃ m,k=m+2:=⟨k-2,by omega⟩
   have h1:=hk2 (k+1) (by omega)
   rw[impl_CapOf.l0]
   simp only[if_pos hlt,if_pos h0,if_pos hf,wrap_small (n:=xs.length) h0 hlt hn]
   exact h1
  ·obtain⟨c,hcb,hk2⟩:=ih (i+1) (wrap64 (a+(rd_T86 xs i).f1)) (by omega) (by omega) (by omega) (by omega)
   refine⟨c,hcb,fun k hk=>?_⟩
   obtain⟨k,rfl⟩:∃ m,k=m+2:=⟨k-2,by omega⟩
   have h1:=hk2 (k+1) (by omega)
   rw[impl_CapOf.l0]
   simp only[if_pos hlt,if_pos h0,if_neg hf,wrap_small (n:=xs.length) h0 hlt hn]
   exact h1
theorem capOf_ev2 (xs:List S86) (hn:xs.length≤1048576):∃ c,(0≤c∧c≤800)∧∀ k,3 * xs.length+3<k→impl_CapOf.f k xs=some c:=by
 obtain⟨b,hb,hp⟩:=areCrew_ev xs hn
 cases b with
 |true =>
  obtain⟨⟨h1,h8⟩,hf⟩:=hp rfl
  obtain⟨c,hcb,hc⟩:=capOf2_loop xs hn h8 hf xs.length 0 0 (by omega) (by omega) (by omega) (by omega)
  refine⟨c,hcb,fun k hk=>?_⟩
  unfold impl_CapOf.f
  simp only[hb k (by omega),Option.bind_some,if_true]
  exact hc k (by omega)
 |false =>
  refine⟨0,by omega,fun k hk=>?_⟩
  unfold impl_CapOf.f
  simp only[hb k (by omega),Option.bind_some,Bool.false_eq_true,if_false]
theorem once_ev (d:List Int) (p s n:Int) (hd:d.length≤1048576) (hp:0≤p) (hp2:p≤d.length):∃ v p' s',spec_l1Once.f d p s n=some (v,p',s')∧0≤p'∧p'≤d.length:=by
 obtain⟨a,p',s',h,_,h1,h2⟩:=below_ev d p s n hd hp hp2
 exact⟨a==0,p',s',by unfold spec_l1Once.f;rw[h];rfl,h1,h2⟩
theorem crewDraw_loop (d:List Int) (hd:d.length≤1048576):∀ (e:Nat) (l:List S86) (i p s:Int),1≤i→5-i≤e→(l.length:Int)+1=i→i≤6→0≤p→p≤d.length →
  ∃ q p' s',1≤q.length∧q.length≤6∧0≤p'∧p'≤(d.length:Int)∧∀ k,e<k→spec_l7Draw.l0 k l i d p s=some (q,p',s'):=by
 intro e
 induction e with
 |zero =>
  intro l i p s h1 he hl h7 hp hp2
  obtain⟨a,p1,s1,e1,⟨ha0,ha1,_⟩,hp1,hp1'⟩:=below_ev d p s 4 hd hp hp2
  have:=ha1 (by omega)
  have hw:wrap64 (1+a)=1+a:=by unfold wrap64;omega
  have hc:¬ i≤1+a:=by omega
  refine⟨l,p1,s1,by omega,by omega,hp1,hp1',fun k hk=>?_⟩
  obtain⟨k,rfl⟩:∃ m,k=m+1:=⟨k-1,by omega⟩
  simp only[spec_l7Draw.l0,e1,Option.bind_some,hw,if_neg hc]
 |succ e ih =>
  intro l i p s h1 he hl h7 hp hp2
  obtain⟨a,p1,s1,e1,⟨ha0,ha1,_⟩,hp1,hp1'⟩:=below_ev d p s 4 hd hp hp2
  have:=ha1 (by omega)
  have hw:wrap64 (1+a)=1+a:=by unfold wrap64;omega
  by_cases hc:i≤1+a
  ·obtain⟨b,p2,s2,e2,_,hp2a,hp2b⟩:=below_ev d p1 s1 20 hd hp1 hp1'
   obtain⟨c,p3,s3,e3,_,hp3,hp3'⟩:=below_ev d p2 s2 3 hd hp2a hp2b
   obtain⟨f,p4,s4,e4,hp4,hp4'⟩:=once_ev d p3 s3 8 hd hp3 hp3'
   obtain⟨q,p',s',hq1,hq,hp',hp'',hk2⟩:=ih (l++[⟨wrap64 (2 * i),wrap64 (5+b),wrap64 (1+c),f⟩]) (i+1) p4 s4 (by omega) (by omega) (by simp;omega) (by omega) hp4 hp4'
   refine⟨q,p',s',hq1,hq,hp',hp'',fun k hk=>?_⟩
   obtain⟨k,rfl⟩:∃ m,k=m+1:=⟨k-1,by omega⟩
   have hlen:l.length<4398046511104:=by omega
   have hw2:wrap64 (i+1)=i+1:=by unfold wrap64;omega
   simp only[spec_l7Draw.l0,e1,Option.bind_some,hw,if_pos hc,e2,e3,e4,if_pos hlen,hw2]
   exact hk2 k (by omega)
  ·refine⟨l,p1,s1,by omega,by omega,hp1,hp1',fun k hk=>?_⟩
   obtain⟨k,rfl⟩:∃ m,k=m+1:=⟨k-1,by omega⟩
   simp only[spec_l7Draw.l0,e1,Option.bind_some,hw,if_neg hc]
theorem crewAny_ev (d:List Int) (p s:Int) (hd:d.length≤1048576) (hp:0≤p) (hp2:p≤d.length):∃ q p' s',q.length≤6∧0≤p'∧p'≤(d.length:Int)∧∀ k,20<k→spec_l7Any.f k d p s=some (q,p',s'):=by
 obtain⟨l,p1,s1,hl1,hl,hp1,hp1',hk1⟩:=crewDraw_loop d hd 5 [] 1 p s (by omega) (by omega) (by simp) (by omega) hp hp2
 obtain⟨b,p2,s2,e2,⟨hb0,hb1,_⟩,hp2a,hp2b⟩:=below_ev d p1 s1 (l.length:Int) hd hp1 hp1'
 have hb:=hb1 (by omega)
 obtain⟨c,p3,s3,e3,_,hp3,hp3'⟩:=below_ev d p2 s2 12 hd hp2a hp2b
 have h1:∀ k,20<k→spec_l7Draw.f k d p s=some (l,p1,s1):=fun k hk=>hk1 k (by omega)
 unfold spec_l7Any.f
 by_cases c0:c=0
 ·obtain⟨v,p4,s4,e4,_,hp4,hp4'⟩:=int_ev d p3 s3 [0,2,99,100] (by simp) hd hp3 hp3'
  refine⟨l.set b.toNat ⟨v,(rd_T86 l b).f1,(rd_T86 l b).f2,(rd_T86 l b).f3⟩,p4,s4,by rw[List.length_set];omega,hp4,hp4',fun k hk=>?_⟩
  simp only[h1 k hk,Option.bind_some,e2,e3,if_pos c0,e4,if_pos hb0,if_pos hb]
 ·by_cases c1:c=1
  ·obtain⟨v,p4,s4,e4,_,hp4,hp4'⟩:=int_ev d p3 s3 [(-1),100,101] (by simp) hd hp3 hp3'
   refine⟨l.set b.toNat ⟨(rd_T86 l b).f0,v,(rd_T86 l b).f2,(rd_T86 l b).f3⟩,p4,s4,by rw[List.length_set];omega,hp4,hp4',fun k hk=>?_⟩
   simp only[h1 k hk,Option.bind_some,e2,e3,if_neg c0,if_pos c1,e4,if_pos hb0,if_pos hb]
  ·by_cases c2:c=2
   ·obtain⟨v,p4,s4,e4,_,hp4,hp4'⟩:=int_ev d p3 s3 [0,10,11] (by simp) hd hp3 hp3'
    refine⟨l.set b.toNat ⟨(rd_T86 l b).f0,(rd_T86 l b).f1,v,(rd_T86 l b).f3⟩,p4,s4,by rw[List.length_set];omega,hp4,hp4',fun k hk=>?_⟩
    simp only[h1 k hk,Option.bind_some,e2,e3,if_neg c0,if_neg c1,if_pos c2,e4,if_pos hb0,if_pos hb]
   ·by_cases c3:c=3
    ·refine⟨[],p3,s3,by simp,hp3,hp3',fun k hk=>?_⟩
     simp only[h1 k hk,Option.bind_some,e2,e3,if_neg c0,if_neg c1,if_neg c2,if_pos c3]
    ·refine⟨l,p3,s3,hl,hp3,hp3',fun k hk=>?_⟩
     simp only[h1 k hk,Option.bind_some,e2,e3,if_neg c0,if_neg c1,if_neg c2,if_neg c3]
theorem l4Draw_loop (d:List Int) (hd:d.length≤1048576) (W H n:Int) (hn:wrap64 (W * H)=n) (h1:1≤n) (h2:n≤64):∀ (e:Nat) (i:Int) (acc:List Int) (p s:Int),0≤i→n-i=e→(acc.length:Int)=i→0≤p→p≤d.length →
  ∃ xs p' s',(xs.length:Int)=n∧0≤p'∧p'≤(d.length:Int)∧∀ k,e<k→spec_l4Draw.l0 k i d p s W H acc=some (W,H,xs,p',s'):=by
 intro e
 induction e with
 |zero =>
  intro i acc p s h0 he ha hp hp2
  refine⟨acc.set (0:Int).toNat 0,p,s,by rw[List.length_set];omega,hp,hp2,fun k hk=>?_⟩
  obtain⟨k,rfl⟩:∃ m,k=m+1:=⟨k-1,by omega⟩
  rw[spec_l4Draw.l0,hn,if_neg (by omega),if_pos (by omega)]
 |succ e ih =>
  intro i acc p s h0 he ha hp hp2
  obtain⟨v,p1,s1,e1,_,hp1,hp1'⟩:=int_ev d p s [0,0,0,0,1,2] (by simp) hd hp hp2
  obtain⟨xs,p',s',hx,hp',hp'',hk2⟩:=ih (i+1) (acc++[v]) p1 s1 (by omega) (by omega) (by simp;omega) hp1 hp1'
  refine⟨xs,p',s',hx,hp',hp'',fun k hk=>?_⟩
  obtain⟨k,rfl⟩:∃ m,k=m+1:=⟨k-1,by omega⟩
  have hw:wrap64 (i+1)=i+1:=by unfold wrap64;omega
  have q1:acc.length<17592186044416:=by omega
  rw[spec_l4Draw.l0,hn,if_pos (by omega),e1,Option.bind_some,if_pos q1,hw]
  exact hk2 k (by omega)
theorem l4Draw_ev (d:List Int) (p s:Int) (hd:d.length≤1048576) (hp:0≤p) (hp2:p≤d.length):∃ W H xs p' s',(1≤xs.length∧xs.length≤64)∧0≤p'∧p'≤(d.length:Int)∧∀ k,70<k→spec_l4Draw.f k d p s=some (W,H,xs,p',s'):=by
 obtain⟨a,p1,s1,e1,⟨a0,a1,_⟩,hp1,hp1'⟩:=below_ev d p s 5 hd hp hp2
 obtain⟨b,p2,s2,e2,⟨b0,b1,_⟩,hp2a,hp2b⟩:=below_ev d p1 s1 4 hd hp1 hp1'
 have:=a1 (by omega)
 have:=b1 (by omega)
 have w1:wrap64 (2+a)=2+a:=by unfold wrap64;omega
 have w2:wrap64 (2+b)=2+b:=by unfold wrap64;omega
 obtain⟨n,hn⟩:∃ n,n=(2+a) * (2+b):=⟨_,rfl⟩
 have m1:(2+a) * (2+b)≤6 * 5:=Int.mul_le_mul (by omega) (by omega) (by omega) (by omega)
 have m2:1 * 1≤(2+a) * (2+b):=Int.mul_le_mul (by omega) (by omega) (by omega) (by omega)
 have w3:wrap64 ((2+a) * (2+b))=n:=by rw[←hn] at m1 m2 ⊢;unfold wrap64;omega
 obtain⟨xs,p',s',hx,hp',hp'',hk2⟩:=l4Draw_loop d hd (2+a) (2+b) n w3 (by omega) (by omega) n.toNat 0 [] p2 s2 (by omega) (by omega) (by simp) hp2a hp2b
 refine⟨2+a,2+b,xs,p',s',⟨by omega,by omega⟩,hp',hp'',fun k hk=>?_⟩
 unfold spec_l4Draw.f
 rw[e1,Option.bind_some,e2,Option.bind_some]
 simp only[w1,w2]
 exact hk2 k (by omega)
theorem l4Raw_ev (d:List Int) (p s:Int) (hd:d.length≤1048576) (hp:0≤p) (hp2:p≤d.length):∃ v p' s',spec_l4Raw.f d p s=some (v,p',s')∧0≤p'∧p'≤(d.length:Int):=by
 obtain⟨v,p1,s1,e1,_,hp1,hp1'⟩:=int_ev d p s [(-1),0,8,9,64,9223372036854775807,(-9223372036854775808)] (by simp) hd hp hp2
 exact⟨v,p1,s1,by unfold spec_l4Raw.f;rw[e1];rfl,hp1,hp1'⟩
theorem l4Any_ev (d:List Int) (p s:Int) (hd:d.length≤1048576) (hp:0≤p) (hp2:p≤d.length):∃ W H xs p' s',xs.length≤64∧0≤p'∧p'≤(d.length:Int)∧∀ k,70<k→spec_l4Any.f k d p s=some (W,H,xs,p',s'):=by
 obtain⟨W,H,xs,p1,s1,⟨x1,x2⟩,hp1,hp1',h1⟩:=l4Draw_ev d p s hd hp hp2
 obtain⟨c,p2,s2,e2,_,hp2a,hp2b⟩:=below_ev d p1 s1 14 hd hp1 hp1'
 obtain⟨v,p3,s3,e3,hp3,hp3'⟩:=l4Raw_ev d p2 s2 hd hp2a hp2b
 obtain⟨u,p4,s4,e4,_,hp4,hp4'⟩:=int_ev d p2 s2 [(-1),2,3] (by simp) hd hp2a hp2b
 have q0:0<(xs.length:Int):=by omega
 have q1:1≤(xs.length:Int):=by omega
 unfold spec_l4Any.f
 by_cases c0:c=0
 ·exact⟨v,H,xs,p3,s3,x2,hp3,hp3',fun k hk=>by simp only[h1 k hk,Option.bind_some,e2,if_pos c0,e3]⟩
 ·by_cases c1:c=1
  ·exact⟨W,v,xs,p3,s3,x2,hp3,hp3',fun k hk=>by simp only[h1 k hk,Option.bind_some,e2,if_neg c0,if_pos c1,e3]⟩
  ·by_cases c2:c=2
   ·exact⟨W,H,xs.set (0:Int).toNat u,p4,s4,by rw[List.length_set];exact x2,hp4,hp4',fun k hk=>by simp only[h1 k hk,Option.bind_some,e2,if_neg c0,if_neg c1,if_pos c2,e4,if_pos q0]⟩
   ·by_cases c3:c=3
    ·exact⟨W,H,xs.drop (1:Int).toNat,p2,s2,by rw[List.length_drop];omega,hp2a,hp2b,fun k hk=>by simp only[h1 k hk,Option.bind_some,e2,if_neg c0,if_neg c1,if_neg c2,if_pos c3,if_pos q1]⟩
    ·exact⟨W,H,xs,p2,s2,x2,hp2a,hp2b,fun k hk=>by simp only[h1 k hk,Option.bind_some,e2,if_neg c0,if_neg c1,if_neg c2,if_neg c3]⟩
theorem rule_ev (d:List Int) (p s:Int) (hd:d.length≤1048576) (hp:0≤p) (hp2:p≤d.length):∃ v w p' s',spec_l6Rule.f d p s=some (v,w,p',s')∧(1≤w∧w≤10)∧0≤p'∧p'≤(d.length:Int):=by
 obtain⟨a,p1,s1,e1,⟨a0,a1,_⟩,hp1,hp1'⟩:=below_ev d p s 6 hd hp hp2
 have:=a1 (by omega)
 have w1:wrap64 (1+a)=1+a:=by unfold wrap64;omega
 obtain⟨b,p2,s2,e2,_,hp2a,hp2b⟩:=below_ev d p1 s1 (1+a) hd hp1 hp1'
 exact⟨b,1+a,p2,s2,by unfold spec_l6Rule.f;rw[e1,Option.bind_some,w1,e2,Option.bind_some],by omega,hp2a,hp2b⟩
theorem countS_loop (l:List Bool) (hl:l.length≤1048576):∀ (e:Nat) (i c:Int),0≤i→(l.length:Int)-i=e→∃ r,∀ k,e<k→spec_CountStorms.l0 k l c i=some r:=by
 intro e
 induction e with
 |zero =>
  intro i c h0 he
  refine⟨c,fun k hk=>?_⟩
  obtain⟨k,rfl⟩:∃ m,k=m+1:=⟨k-1,by omega⟩
  rw[spec_CountStorms.l0,if_neg (by omega)]
 |succ e ih =>
  intro i c h0 he
  have hlt:i<(l.length:Int):=by omega
  by_cases b:rdOf false l i=true
  ·obtain⟨r,hr⟩:=ih (i+1) (wrap64 (c+1)) (by omega) (by omega)
   refine⟨r,fun k hk=>?_⟩
   obtain⟨k,rfl⟩:∃ m,k=m+1:=⟨k-1,by omega⟩
   rw[spec_CountStorms.l0,if_pos hlt,if_pos h0,if_pos b,wrap_small (n:=l.length) h0 hlt hl]
   exact hr k (by omega)
  ·obtain⟨r,hr⟩:=ih (i+1) c (by omega) (by omega)
   refine⟨r,fun k hk=>?_⟩
   obtain⟨k,rfl⟩:∃ m,k=m+1:=⟨k-1,by omega⟩
   rw[spec_CountStorms.l0,if_pos hlt,if_pos h0,if_neg b,wrap_small (n:=l.length) h0 hlt hl]
   exact hr k (by omega)
theorem mayStormS_ev (v w:Int) (l:List Bool) (hw:1≤w∧w≤10) (hl:l.length≤1048576):∃ t,∀ k,l.length<k→spec_MayStorm.f k v w l=some t:=by
 have e1:wrap64 ((l.length:Int)+1)=(l.length:Int)+1:=by unfold wrap64;omega
 have e2:wrap64 ((l.length:Int)+1-w)=(l.length:Int)+1-w:=by unfold wrap64;omega
 have e3:wrap64 (w-1)=w-1:=by unfold wrap64;omega
 obtain⟨t,ht⟩:∃ t,t=mx 0 ((l.length:Int)+1-w):=⟨_,rfl⟩
 have hm:spec_Max.f 0 ((l.length:Int)+1-w)=some t:=by subst ht;unfold spec_Max.f mx;split <;> rfl
 have h0:0≤t∧t≤(l.length:Int):=by subst ht;unfold mx;split <;> omega
 obtain⟨c,hc⟩:=countS_loop (l.drop t.toNat) (by rw[List.length_drop];omega) (l.drop t.toNat).length 0 0 (by omega) (by omega)
 by_cases r:0≤v∧v≤w-1
 ·refine⟨decide (c<v),fun k hk=>?_⟩
  have hc2:=hc k (by rw[List.length_drop];omega)
  unfold spec_MayStorm.f spec_IsRule.f spec_CountStorms.f
  simp only[l1In_eq,hw,and_self,decide_true,Option.bind_some,if_true,e3,r,e1,e2,hm,if_pos h0.1,if_pos h0.2,hc2]
 ·refine⟨false,fun k hk=>?_⟩
  unfold spec_MayStorm.f spec_IsRule.f
  simp only[l1In_eq,hw,and_self,decide_true,Option.bind_some,if_true,e3,r,decide_false,Bool.false_eq_true,if_false]
theorem past_loop (d:List Int) (hd:d.length≤1048576) (n v w:Int) (hn:n≤10) (hw:1≤w∧w≤10):∀ (e:Nat) (i:Int) (acc:List Bool) (p s:Int),0≤i→n-i≤e→(acc.length:Int)=i→i≤10→0≤p→p≤d.length →
  ∃ q p' s',q.length≤10∧0≤p'∧p'≤(d.length:Int)∧∀ k,11+e<k→spec_l6Past.l0 k n acc i d p s v w=some (q,p',s'):=by
 intro e
 induction e with
 |zero =>
  intro i acc p s h0 he ha hi hp hp2
  refine⟨acc,p,s,by omega,hp,hp2,fun k hk=>?_⟩
  obtain⟨k,rfl⟩:∃ m,k=m+1:=⟨k-1,by omega⟩
  rw[spec_l6Past.l0,if_neg (by omega)]
 |succ e ih =>
  intro i acc p s h0 he ha hi hp hp2
  by_cases c:i<n
  ·obtain⟨t,ht⟩:=mayStormS_ev v w acc hw (by omega)
   have wi:wrap64 (i+1)=i+1:=by unfold wrap64;omega
   have q1:acc.length<140737488355328:=by omega
   by_cases b:t=true
   ·obtain⟨f,p1,s1,e1,hp1,hp1'⟩:=once_ev d p s 2 hd hp hp2
    obtain⟨q,p',s',hq,hp',hp'',hk2⟩:=ih (i+1) (acc++[f]) p1 s1 (by omega) (by omega) (by simp;omega) (by omega) hp1 hp1'
    refine⟨q,p',s',hq,hp',hp'',fun k hk=>?_⟩
    obtain⟨k,rfl⟩:∃ m,k=m+1:=⟨k-1,by omega⟩
    rw[spec_l6Past.l0,if_pos c,ht k (by omega),Option.bind_some,if_pos b,e1,Option.bind_some,if_pos q1,wi]
    exact hk2 k (by omega)
   ·obtain⟨q,p',s',hq,hp',hp'',hk2⟩:=ih (i+1) (acc++[false]) p s (by omega) (by omega) (by simp;omega) (by omega) hp hp2
    refine⟨q,p',s',hq,hp',hp'',fun k hk=>?_⟩
    obtain⟨k,rfl⟩:∃ m,k=m+1:=⟨k-1,by omega⟩
    rw[spec_l6Past.l0,if_pos c,ht k (by omega),Option.bind_some,if_neg b,if_pos q1,wi]
    exact hk2 k (by omega)
  ·refine⟨acc,p,s,by omega,hp,hp2,fun k hk=>?_⟩
   obtain⟨k,rfl⟩:∃ m,k=m+1:=⟨k-1,by omega⟩
   rw[spec_l6Past.l0,if_neg c]
theorem l9Draw_ev (d:List Int) (p s:Int) (hd:d.length≤1048576) (hp:0≤p) (hp2:p≤d.length) (W H:Int) (xs:List Int) (hx:xs.length≤64) (v w:Int) (hw:1≤w∧w≤10) :
  ∃ a b l h p' s',(0≤b∧b<60)∧l.length≤6∧h.length≤10∧0≤p'∧p'≤(d.length:Int)∧∀ k,1100<k→spec_l9Draw.f k d p s W H xs v w=some (a,b,l,h,p',s'):=by
 obtain⟨b,p1,s1,e1,⟨b0,b1,_⟩,hp1,hp1'⟩:=below_ev d p s 60 hd hp hp2
 obtain⟨l,p2,s2,hl1,hl,hp2a,hp2b,hk2⟩:=crewDraw_loop d hd 5 [] 1 p1 s1 (by omega) (by omega) (by simp) (by omega) hp1 hp1'
 obtain⟨n,p3,s3,e3,⟨n0,n1,_⟩,hp3,hp3'⟩:=below_ev d p2 s2 8 hd hp2a hp2b
 have:=n1 (by omega)
 obtain⟨h,p4,s4,hh,hp4,hp4',hk4⟩:=past_loop d hd n v w (by omega) hw 8 0 [] p3 s3 (by omega) (by omega) (by simp) (by omega) hp3 hp3'
 obtain⟨r,hr,hk5⟩:=reach_ev W H xs hx 0 99
 have f2:∀ k,1100<k→spec_l7Draw.f k d p1 s1=some (l,p2,s2):=fun k hk=>hk2 k (by omega)
 have f4:∀ k,1100<k→spec_l6Past.f k d p3 s3 v w n=some (h,p4,s4):=fun k hk=>hk4 k (by omega)
 unfold spec_l9Draw.f
 by_cases c:(r.length:Int)>0
 ·obtain⟨m,p5,s5,e5,⟨m0,m1,_⟩,hp5,hp5'⟩:=below_ev d p4 s4 (r.length:Int) hd hp4 hp4'
  have m2:=m1 (by omega)
  exact⟨rd r m,b,l,h,p5,s5,⟨b0,b1 (by omega)⟩,hl,hh,hp5,hp5',fun k hk=>by simp only[e1,Option.bind_some,f2 k hk,e3,f4 k hk,hk5 k hk,if_pos c,e5,if_pos m0,if_pos m2]⟩
 ·exact⟨0,b,l,h,p4,s4,⟨b0,b1 (by omega)⟩,hl,hh,hp4,hp4',fun k hk=>by simp only[e1,Option.bind_some,f2 k hk,e3,f4 k hk,hk5 k hk,if_neg c]⟩
theorem near_sym {W H n v:Int} {xs:List Int} (L:LandOk W H xs) (hn:opn xs n=true) (hv:v∈nearL W xs n):n∈nearL W xs v:=by
 have hw:=L.w
 obtain⟨hr,hx⟩:=opn_iff.mp hn
 have hvo:=near_open L hr v hv
 obtain⟨hvr,hvx⟩:=opn_iff.mp hvo
 rw[mem_near]
 rcases mem_near.mp hv with ((⟨⟨h1,h2⟩,h3⟩|⟨⟨h1,h2⟩,h3⟩)|⟨⟨h1,h2⟩,h3⟩)|⟨⟨h1,h2⟩,h3⟩ <;> subst h3
 ·exact Or.inr ⟨⟨by omega,by rw[Int.sub_add_cancel];exact hx⟩,by omega⟩
 ·refine Or.inl (Or.inr ⟨⟨?_,by rw[Int.sub_add_cancel];exact hx⟩,by omega⟩)
  rcases w_cases hw with e|e|e|e|e|e|e|e <;> subst e <;> omega
 ·refine Or.inl (Or.inl (Or.inr ⟨⟨?_,by rw[Int.add_sub_cancel];exact hx⟩,by omega⟩))
  rcases w_cases hw with e|e|e|e|e|e|e|e <;> subst e <;> omega
 ·exact Or.inl (Or.inl (Or.inl ⟨⟨by omega,by rw[Int.add_sub_cancel];exact hx⟩,by omega⟩))
theorem days_okS {W H:Int} {xs:List Int} (L:LandOk W H xs) (a b:Int) (k:Nat) (hk:1000<k):spec_Days.f k W H xs a b=some (if opn xs a=true∧opn xs b=true then rd (dist W xs a) b else -1):=by
 unfold spec_Days.f
 simp only[isOpen_ok L a k (by omega),isOpen_ok L b k (by omega),Option.bind_some]
 by_cases ha:opn xs a=true
 ·by_cases hb:opn xs b=true
  ·have hbr:=opn_in hb
   have hl:b<((dist W xs a).length:Int):=by rw[(dist_end L (opn_in ha)).len];exact hbr.2
   simp only[ha,hb,if_true,dist_okS L a ha k hk,Option.bind_some,if_pos hbr.1,if_pos hl,and_self]
  ·simp only[ha,hb,if_true,and_false,Bool.false_eq_true,if_false]
 ·simp only[ha,if_false,false_and,Bool.false_eq_true]
def stepTo (W:Int) (xs d:List Int) (m now:Int):Int:=((nearL W xs now).find? (fun c=>rd d c==m)).getD now
def wayL (W:Int) (xs d:List Int):Nat→Int→List Int
 |0,now=>[now]
 |m+1,now=>now :: wayL W xs d m (stepTo W xs d (m:Int) now)
theorem wayL_len (W:Int) (xs d:List Int):∀ (m:Nat) (now:Int),(wayL W xs d m now).length=m+1
 |0,now=>rfl
 |m+1,now=>by rw[wayL,List.length_cons,wayL_len W xs d m]
theorem near_sub {W H b now:Int} {xs:List Int} (L:LandOk W H xs) (hb:opn xs b=true) (hn:opn xs now=true) (h0:0≤rd (dist W xs b) now):∀ c∈nearL W xs now,opn xs c=true∧rd (dist W xs b) now-1≤rd (dist W xs b) c∧0≤rd (dist W xs b) c:=by
 intro c hc
 have B:=dist_end L (opn_in hb)
 have hco:=near_open L (opn_in hn) c hc
 obtain⟨h1,h2⟩:=B.done now (opn_in hn).1 (opn_in hn).2 h0 c hc
 obtain⟨h3,h4⟩:=B.done c (opn_in hco).1 (opn_in hco).2 h1 now (near_sym L hn hc)
 exact⟨hco,by omega,h1⟩
theorem step_ok {W H b now:Int} {xs:List Int} (L:LandOk W H xs) (hb:opn xs b=true) (hn:opn xs now=true) (m:Nat) (hm:rd (dist W xs b) now=(m:Int)+1) :
  ∃ c,(nearL W xs now).find? (fun c=>rd (dist W xs b) c==(m:Int))=some c∧stepTo W xs (dist W xs b) m now=c∧c∈nearL W xs now∧opn xs c=true∧rd (dist W xs b) c=m:=by
 have B:=dist_end L (opn_in hb)
 have hne:now≠b:=fun e=>by rw[e,B.src0] at hm;omega
 obtain⟨u,u0,u1,u2,u3,u4⟩:=B.from_ now (opn_in hn).1 (opn_in hn).2 (by omega) hne
 have huo:opn xs u=true:=by
  by_cases e:u=b
  ·rw[e];exact hb
  ·obtain⟨t,t0,t1,t2,_⟩:=B.from_ u u0 u1 u3 e
   exact near_open L ⟨t0,t1⟩ u t2
 have hu:=near_sym L huo u2
 cases hf:(nearL W xs now).find? (fun c=>rd (dist W xs b) c==(m:Int)) with
 |none =>
  exfalso
  have:=List.find?_eq_none.mp hf u hu
  simp only[beq_iff_eq] at this
  omega
 |some c =>
  have h1:=List.find?_some hf
  simp only[beq_iff_eq] at h1
  have h2:=List.mem_of_find?_eq_some hf
  exact⟨c,rfl,by unfold stepTo;rw[hf];rfl,h2,near_open L (opn_in hn) c h2,h1⟩
theorem scanDown {W H:Int} {xs d:List Int} (b now m:Int) (out bs:List Int) (hout:out.length≤1000) (hout0:1≤out.length) (hlast:rd out ((out.length:Int)-1)=now) (hb4:bs.length≤4) (hn0:0≤now∧now<(d.length:Int)) (hm:rd d now=m+1) (hmb:0≤m∧m≤1000) (hbs:∀ c∈bs,0≤c∧c<(d.length:Int)) (c:Int) (hc:bs.find? (fun c=>rd d c==m)=some c) (K:Nat) (r:List Int) (hr:∀ k,K<k→spec_WayTo.l0 k c b (out++[c]) d W H xs=some r) :
  ∀ (e:Nat) (cur:Int),e≤bs.length→cur=((bs.drop e).find? (fun c=>rd d c==m)).getD now→∀ k,K+e+1<k→spec_WayTo.l1 k cur b out d bs ((e:Int)-1) W H xs=some r:=by
 have q1:out.length<17592186044416:=by omega
 intro e
 induction e with
 |zero =>
  intro cur he hcur k hk
  obtain⟨k,rfl⟩:∃ j,k=j+1:=⟨k-1,by omega⟩
  rw[List.drop_zero,hc] at hcur
  have hcur2:cur=c:=hcur
  have hlt:¬ ((0:Nat):Int)-1≥0:=by omega
  rw[spec_WayTo.l1,if_neg hlt,if_pos q1,hcur2]
  exact hr k (by omega)
 |succ e ih =>
  intro cur he hcur k hk
  obtain⟨k,rfl⟩:∃ j,k=j+1:=⟨k-1,by omega⟩
  have ee:((e+1:Nat):Int)-1=(e:Int):=by omega
  rw[ee]
  have h0:(e:Int)≥0:=by omega
  have h0':0≤(e:Int):=by omega
  have hlt:(e:Int)<(bs.length:Int):=by omega
  have hw:wrap64 ((e:Int)-1)=(e:Int)-1:=by unfold wrap64;omega
  have hw2:wrap64 ((out.length:Int)-1)=(out.length:Int)-1:=by unfold wrap64;omega
  have hw3:wrap64 (rd d now-1)=m:=by unfold wrap64;omega
  have hmem:rd bs (e:Int)∈bs:=by
   have h1:((e:Int)).toNat<bs.length:=by omega
   unfold rd
   rw[List.getD_eq_getElem?_getD,List.getElem?_eq_getElem h1]
   exact List.getElem_mem h1
  obtain⟨b0,b1⟩:=hbs _ hmem
  have l0:0≤(out.length:Int)-1:=by omega
  have l1:(out.length:Int)-1<(out.length:Int):=by omega
  have hdrop:((bs.drop e).find? (fun c=>rd d c==m))=if rd d (rd bs (e:Int))=m then some (rd bs (e:Int)) else(bs.drop (e+1)).find? (fun c=>rd d c==m):=by
   have:=drop_step 0 bs (e:Int) (by omega) hlt
   rw[show ((e:Int)).toNat=e by omega,show ((e:Int)+1).toNat=e+1 by omega] at this
   rw[this,List.find?_cons,show bs.getD e 0=rd bs (e:Int) from rfl]
   by_cases e2:rd d (rd bs (e:Int))=m
   ·simp[e2]
   ·have e3:(rd d (rd bs (e:Int))==m)=false:=by simp[e2]
    rw[e3,if_neg e2]
  simp only[spec_WayTo.l1,if_pos h0,if_pos h0',if_pos hlt,if_pos b0,if_pos b1,hw2,if_pos l0,if_pos l1,hlast,if_pos hn0.1,if_pos hn0.2,hw3,hw]
  by_cases e2:rd d (rd bs (e:Int))=m
  ·rw[if_pos e2]
   exact ih _ (by omega) (by rw[hdrop,if_pos e2];rfl) k (by omega)
  ·rw[if_neg e2]
   exact ih _ (by omega) (by rw[hdrop,if_neg e2];exact hcur) k (by omega)
theorem wayLoopS {W H b:Int} {xs:List Int} (L:LandOk W H xs) (hb:opn xs b=true):∀ (m:Nat) (now:Int) (init:List Int),opn xs now=true→rd (dist W xs b) now=(m:Int)→init.length+m≤200 →
  ∀ k,200+10 * m<k→spec_WayTo.l0 k now b (init++[now]) (dist W xs b) W H xs=some (init++wayL W xs (dist W xs b) m now):=by
 have B:=dist_end L (opn_in hb)
 intro m
 induction m with
 |zero =>
  intro now init hn hm hl k hk
  obtain⟨k,rfl⟩:∃ j,k=j+1:=⟨k-1,by omega⟩
  have e:now=b:=B.zero now (opn_in hn).1 (opn_in hn).2 (by omega)
  rw[spec_WayTo.l0,if_pos e]
  rfl
 |succ m ih =>
  intro now init hn hm hl k hk
  obtain⟨k,rfl⟩:∃ j,k=j+1:=⟨k-1,by omega⟩
  have hm':rd (dist W xs b) now=(m:Int)+1:=by omega
  obtain⟨c,c1,c2,c3,c4,c5⟩:=step_ok L hb hn m hm'
  have hne:¬ now=b:=fun e=>by rw[e,B.src0] at hm;omega
  have hsub:=near_sub L hb hn (by omega)
  have hlen:=B.len
  have hnr:=opn_in hn
  have h4:=near_len W now xs
  have ihc:=fun k hk=>ih c (init++[now]) c4 c5 (by simp only[List.length_append,List.length_cons,List.length_nil];omega) k hk
  rw[wayL,c2]
  rw[show init++now :: wayL W xs (dist W xs b) m c=(init++[now])++wayL W xs (dist W xs b) m c by simp]
  rw[spec_WayTo.l0,if_neg hne,l4Near_ok L now hnr k (by omega),Option.bind_some,show wrap64 (((nearL W xs now).length:Int)-1)=((nearL W xs now).length:Int)-1 by unfold wrap64;omega]
  exact scanDown b now (m:Int) (init++[now]) (nearL W xs now) (by simp only[List.length_append,List.length_cons,List.length_nil];omega) (by simp) (by simp[rd]) h4 ⟨hnr.1,by rw[hlen];exact hnr.2⟩ hm' ⟨by omega,by omega⟩ (fun x hx=>⟨(opn_in (hsub x hx).1).1,by rw[hlen];exact(opn_in (hsub x hx).1).2⟩) c c1 (200+10 * m) _ (fun k hk=>ihc k hk) (nearL W xs now).length now (by omega) (by simp) k (by omega)
def wayTo (W:Int) (xs:List Int) (a b:Int):List Int:=if (opn xs a=true∧opn xs b=true)∧0≤rd (dist W xs a) b then wayL W xs (dist W xs b) (rd (dist W xs b) a).toNat a else []
theorem reach_sym {W H a b:Int} {xs:List Int} (L:LandOk W H xs) (ha:opn xs a=true) (hb:opn xs b=true):∀ (m:Nat) (v:Int),opn xs v=true→rd (dist W xs a) v=(m:Int)→0≤rd (dist W xs b) v→0≤rd (dist W xs b) a:=by
 intro m
 induction m with
 |zero =>
  intro v hv hm h
  rw[←(dist_end L (opn_in ha)).zero v (opn_in hv).1 (opn_in hv).2 (by omega)]
  exact h
 |succ m ih =>
  intro v hv hm h
  obtain⟨c,c1,c2,c3,c4,c5⟩:=step_ok L ha hv m (by omega)
  exact ih c c4 c5 ((near_sub L hb hv h c c3).2.2)
theorem reach_iff {W H a b:Int} {xs:List Int} (L:LandOk W H xs) (ha:opn xs a=true) (hb:opn xs b=true) (h:0≤rd (dist W xs a) b):0≤rd (dist W xs b) a:=by
 refine reach_sym L ha hb (rd (dist W xs a) b).toNat b hb (by omega) ?_
 rw[(dist_end L (opn_in hb)).src0];omega
theorem wayTo_okS {W H:Int} {xs:List Int} (L:LandOk W H xs) (a b:Int) (k:Nat) (hk:1000<k):spec_WayTo.f k W H xs a b=some (wayTo W xs a b):=by
 have d2:=days_okS L a b k hk
 unfold spec_WayTo.f wayTo
 rw[d2]
 by_cases h:opn xs a=true∧opn xs b=true
 ·simp only[Option.bind_some,if_pos h]
  by_cases h0:0≤rd (dist W xs a) b
  ·have h1:¬ rd (dist W xs a) b<0:=by omega
   have h2:=reach_iff L h.1 h.2 h0
   have h3:=dist_bnd L (opn_in h.2) a (opn_in h.1).1
   have q:([]:List Int).length<17592186044416:=by simp
   have w2:=wayLoopS L h.2 (rd (dist W xs b) a).toNat a [] h.1 (by omega) (by simp only[List.length_nil];omega) k (by omega)
   rw[if_neg h1,dist_okS L b h.2 k hk,Option.bind_some,if_pos q,if_pos ⟨h,h0⟩]
   exact w2
  ·have h1:rd (dist W xs a) b<0:=by omega
   rw[if_pos h1,if_neg (fun h2=>h0 h2.2)]
 ·simp only[Option.bind_some,if_neg h]
  have h1:(-1:Int)<0:=by omega
  rw[if_pos h1,if_neg (fun h2=>h h2.1)]
theorem wayTo_noS {W H:Int} {xs:List Int} (a b:Int) (k:Nat) (h:spec_IsLand.f k W H xs=some false):spec_WayTo.f k W H xs a b=some []:=by
 have o2:=isOpen_no a k h
 unfold spec_WayTo.f spec_Days.f
 rw[o2]
 simp only[Option.bind_some,Bool.false_eq_true,if_false]
 have h1:(-1:Int)<0:=by omega
 rw[if_pos h1]
theorem wayTo_len {W H a b:Int} {xs:List Int} (L:LandOk W H xs):(wayTo W xs a b).length≤64:=by
 unfold wayTo
 split
 ·rename_i h
  have:=dist_bnd L (opn_in h.1.2) a (opn_in h.1.1).1
  rw[wayL_len];omega
 ·simp
theorem bytes_ext (s:ByteArray) (l:List UInt8) (h:s.data.toList=l):s=(⟨l.toArray⟩:ByteArray):=by
 subst h
 cases s with
 |mk d=>simp
theorem bytes_append (s t:ByteArray):(s++t).data.toList=s.data.toList++t.data.toList:=by simp
theorem bytes_list (s:ByteArray):s.toList=s.data.toList:=ByteArray.toList_eq s
theorem bytes_len (a:ByteArray):a.toList.length=a.size:=by rw[ByteArray.toList_eq];simp
theorem isCell_ev (W H:Int) (xs:List Int) (hn:xs.length≤1048576) (n:Int) {b:Bool} (hb:∀ k,xs.length+1<k→impl_IsLand.f k W H xs=some b∧spec_IsLand.f k W H xs=some b) (k:Nat) (hk:xs.length+1<k) :
  impl_IsCell.f k W H xs n=some (b && decide (0≤n∧n≤(xs.length:Int)-1))∧spec_IsCell.f k W H xs n=some (b && decide (0≤n∧n≤(xs.length:Int)-1)):=by
 have hw:wrap64 ((xs.length:Int)-1)=(xs.length:Int)-1:=by unfold wrap64;omega
 obtain⟨h1,h2⟩:=hb k hk
 unfold impl_IsCell.f spec_IsCell.f
 rw[h1,h2,hw]
 cases b <;> simp[l1In_eq,inRange_eq]
theorem digit_ev (d:Int) (h0:0≤d) (h9:d≤9):∀ k,2<k→impl_FormatInt.f k d=some (⟨#[UInt8.ofNat (48+d.toNat)]⟩:ByteArray)∧spec_FormatInt.f k d=some (⟨#[UInt8.ofNat (48+d.toNat)]⟩:ByteArray):=by
 intro k hk
 obtain⟨k,rfl⟩:∃ m,k=m+3:=⟨k-3,by omega⟩
 have h1:impl_FormatInt.f (k+3) d=some (⟨#[UInt8.ofNat (48+d.toNat)]⟩:ByteArray):=by
  unfold impl_FormatInt.f
  rw[if_pos (by omega),Go.Lib.decDigits_one (by omega)]
 refine⟨h1,?_⟩
 clear h1 hk
 by_cases hz:d=0
 ·subst hz;rfl
 ·have e1:Int.tmod d 10=d:=by rw[Int.tmod_eq_emod_of_nonneg h0];omega
  have e2:Int.tdiv d 10=0:=by rw[Int.tdiv_eq_ediv_of_nonneg h0];omega
  have w1:wrap64 (48+d) % 256=48+d:=by unfold wrap64;omega
  have w2:wrap64 0=0:=by unfold wrap64;omega
  have hs:∀ v:Int,(strOfNums [v]).size=1:=fun _=>rfl
  have he:(⟨#[]⟩:ByteArray).size=0:=rfl
  unfold spec_FormatInt.f
  rw[if_neg hz,spec_FormatInt.l0,if_neg hz,e1,e2,w2,if_neg (by omega)]
  simp only[Option.bind_some,w1]
  rw[if_pos (by rw[hs,he];omega),spec_FormatInt.l0,if_pos rfl,if_neg (by omega)]
  congr 1
  obtain rfl|rfl|rfl|rfl|rfl|rfl|rfl|rfl|rfl:d=1∨d=2∨d=3∨d=4∨d=5∨d=6∨d=7∨d=8∨d=9:=by omega
  all_goals rfl
theorem letter_ev (m:Int) (h0:0≤m) (h7:m≤7):runeOf (wrap64 (97+m))=some (⟨#[UInt8.ofNat (97+m.toNat)]⟩:ByteArray)∧(⟨#[97,98,99,100,101,102,103,104]⟩:ByteArray).extract m.toNat (m+1).toNat=(⟨#[UInt8.ofNat (97+m.toNat)]⟩:ByteArray):=by
 rw[show wrap64 (97+m)=97+m by unfold wrap64;omega]
 obtain rfl|rfl|rfl|rfl|rfl|rfl|rfl|rfl:m=0∨m=1∨m=2∨m=3∨m=4∨m=5∨m=6∨m=7:=by omega
 all_goals exact⟨rfl,rfl⟩
theorem cell_place {W H n:Int} {len:Nat} (hW:1≤W∧W≤8) (hH:1≤H∧H≤8) (hl:(len:Int)=W * H) (h0:0≤n) (h1:n≤(len:Int)-1):(0≤Int.tmod n W∧Int.tmod n W≤7)∧0≤Int.tdiv n W∧Int.tdiv n W≤7∧Int.tmod n W+W * Int.tdiv n W=n:=by
 have e1:Int.tmod n W=n % W:=by rw[Int.tmod_eq_emod_of_nonneg h0]
 have e2:Int.tdiv n W=n / W:=by rw[Int.tdiv_eq_ediv_of_nonneg h0]
 have h2:=Int.emod_nonneg n (show W≠0 by omega)
 have h3:=Int.emod_lt_of_pos n (show 0<W by omega)
 have h4:0≤n / W:=Int.ediv_nonneg h0 (by omega)
 have h5:n / W<H:=by
  rw[Int.ediv_lt_iff_lt_mul (by omega),Int.mul_comm]
  omega
 have h6:=Int.emod_add_mul_ediv n W
 rw[e1,e2]
 exact⟨⟨by omega,by omega⟩,by omega,by omega,h6⟩
def cellB (m q:Nat):ByteArray:=⟨#[UInt8.ofNat (97+m),UInt8.ofNat (48+q)]⟩
theorem cellB_data (m q:Nat):(cellB m q).data.toList=[UInt8.ofNat (97+m),UInt8.ofNat (48+q)]:=rfl
theorem cellB_size (m q:Nat):(cellB m q).size=2:=rfl
theorem u8_inj {a b:Nat} (ha:a<256) (hb:b<256) (h:UInt8.ofNat a=UInt8.ofNat b):a=b:=by
 have:=congrArg UInt8.toNat h
 rw[UInt8.toNat_ofNat',UInt8.toNat_ofNat'] at this
 omega
theorem cellB_inj {m q m' q':Nat} (h1:m≤7) (h2:q≤7) (h3:m'≤7) (h4:q'≤7) (h:(cellB m q).toList=(cellB m' q').toList):m=m'∧q=q':=by
 rw[bytes_list,bytes_list,cellB_data,cellB_data] at h
 simp only[List.cons.injEq,and_true] at h
 have a:=u8_inj (by omega) (by omega) h.1
 have b:=u8_inj (by omega) (by omega) h.2
 omega
theorem cellB_no45 {m q:Nat} (h1:m≤7) (h2:q≤7):(cellB m q).data.toList.count 45=0:=by
 rw[cellB_data]
 have a:UInt8.ofNat (97+m)≠45:=fun h=>by
  have:=u8_inj (b:=45) (by omega) (by omega) h;omega
 have b:UInt8.ofNat (48+q)≠45:=fun h=>by
  have:=u8_inj (b:=45) (by omega) (by omega) h;omega
 rw[List.count_cons_of_ne a,List.count_cons_of_ne b]
 rfl
def cellOf (b:Bool) (W:Int) (len:Nat) (n:Int):ByteArray:=if (b && decide (0≤n∧n≤(len:Int)-1))=true then cellB (Int.tmod n W).toNat (Int.tdiv n W).toNat else(⟨#[]⟩:ByteArray)
def Sized (b:Bool) (W H:Int) (xs:List Int):Prop:=b=true→(1≤W∧W≤8)∧(1≤H∧H≤8)∧(xs.length:Int)=W * H∧1≤xs.length∧xs.length≤64∧∀ j:Int,0≤j→j<(xs.length:Int)→0≤rd xs j∧rd xs j≤2
theorem cellText_ev (W H:Int) (xs:List Int) (hn:xs.length≤1048576) (n:Int) {b:Bool} (hb:∀ k,xs.length+1<k→impl_IsLand.f k W H xs=some b∧spec_IsLand.f k W H xs=some b) (hp:Sized b W H xs) (k:Nat) (hk:xs.length+3<k) :
  impl_CellText.f k W H xs n=some (cellOf b W xs.length n)∧spec_CellText.f k W H xs n=some (cellOf b W xs.length n):=by
 obtain⟨i1,i2⟩:=isCell_ev W H xs hn n hb k (by omega)
 unfold cellOf
 by_cases c:b=true∧(0≤n∧n≤(xs.length:Int)-1)
 ·obtain⟨rfl,c0,c1⟩:=c
  obtain⟨hW,hH,hl,h1,h64,_⟩:=hp rfl
  obtain⟨⟨m0,m7⟩,q0,q7,_⟩:=cell_place hW hH hl c0 c1
  obtain⟨e1,e2⟩:=letter_ev (Int.tmod n W) m0 m7
  obtain⟨d1,d2⟩:=digit_ev (Int.tdiv n W) q0 (by omega) k (by omega)
  have hwq:wrap64 (Int.tdiv n W)=Int.tdiv n W:=by unfold wrap64;omega
  have hwm:wrap64 (Int.tmod n W+1)=Int.tmod n W+1:=by unfold wrap64;omega
  have hc:(true && decide (0≤n∧n≤(xs.length:Int)-1))=true:=by simp[c0,c1]
  rw[hc] at i1 i2
  rw[hc]
  have hz:¬ W=0:=by omega
  have hcat:(⟨#[UInt8.ofNat (97+(Int.tmod n W).toNat)]⟩:ByteArray)++(⟨#[UInt8.ofNat (48+(Int.tdiv n W).toNat)]⟩:ByteArray)=cellB (Int.tmod n W).toNat (Int.tdiv n W).toNat:=by
   rw[bytes_ext _ _ (bytes_append _ _)]
   rfl
  have hs:(⟨#[UInt8.ofNat (97+(Int.tmod n W).toNat)]⟩:ByteArray).size+(⟨#[UInt8.ofNat (48+(Int.tdiv n W).toNat)]⟩:ByteArray).size≤9223372036854775807:=by show 1+1≤_;omega
  constructor
  ·unfold impl_CellText.f
   simp only[i1,Option.bind_some,if_true,if_neg hz,e1,hwq,d1,if_pos hs,hcat]
  ·unfold spec_CellText.f
   simp only[i2,Option.bind_some,if_true,if_neg hz,hwq,hwm,if_pos m0,if_pos (show Int.tmod n W≤Int.tmod n W+1 by omega),if_pos (show Int.tmod n W+1≤8 by omega),d2,e2,if_pos hs,hcat]
 ·have hc:(b && decide (0≤n∧n≤(xs.length:Int)-1))=false:=by
   cases b with
   |false=>rfl
   |true=>simp only[Bool.true_and,decide_eq_false_iff_not];exact fun h=>c ⟨rfl,h⟩
  rw[hc] at i1 i2
  rw[hc]
  unfold impl_CellText.f spec_CellText.f
  simp only[i1,i2,Option.bind_some,Bool.false_eq_true,if_false,and_self]
theorem cellOf_ne {b:Bool} {W:Int} {len:Nat} {n:Int}:((cellOf b W len n).toList != ([]:List UInt8))=(b && decide (0≤n∧n≤(len:Int)-1)):=by
 unfold cellOf
 cases h:(b && decide (0≤n∧n≤(len:Int)-1))
 ·rw[if_neg (by simp),bytes_list];rfl
 ·rw[if_pos rfl,bytes_list,cellB_data];rfl
theorem cellOf_inj {W H:Int} {xs:List Int} {n m:Int} {b:Bool} (hp:Sized b W H xs) (hn:(b && decide (0≤n∧n≤(xs.length:Int)-1))=true) (hm:(b && decide (0≤m∧m≤(xs.length:Int)-1))=true) (h:(cellOf b W xs.length n).toList=(cellOf b W xs.length m).toList):n=m:=by
 unfold cellOf at h
 rw[if_pos hn,if_pos hm] at h
 simp only[Bool.and_eq_true,decide_eq_true_eq] at hn hm
 obtain⟨hW,hH,hl,_⟩:=hp hn.1
 obtain⟨⟨a1,a2⟩,a3,a4,a5⟩:=cell_place hW hH hl hn.2.1 hn.2.2
 obtain⟨⟨b1,b2⟩,b3,b4,b5⟩:=cell_place hW hH hl hm.2.1 hm.2.2
 obtain⟨q1,q2⟩:=cellB_inj (by omega) (by omega) (by omega) (by omega) h
 have e1:Int.tmod n W=Int.tmod m W:=by omega
 have e2:Int.tdiv n W=Int.tdiv m W:=by omega
 rw[e1,e2] at a5
 omega
theorem parse_loop (W H:Int) (xs:List Int) (hn:xs.length≤1048576) (s:ByteArray) {b:Bool} (hb:∀ k,xs.length+1<k→impl_IsLand.f k W H xs=some b∧spec_IsLand.f k W H xs=some b) (hp:Sized b W H xs) :
  ∀ (d:Nat) (i:Int),0≤i→(xs.length:Int)-i=d →
   ∃ r,(r=-1∨((b && decide (0≤r∧r≤(xs.length:Int)-1))=true∧(cellOf b W xs.length r).toList=s.toList))∧(∀ n,i≤n→(b && decide (0≤n∧n≤(xs.length:Int)-1))=true→(cellOf b W xs.length n).toList=s.toList→r≠-1) ∧
    ∀ k,xs.length+d+6<k→impl_ParseCell.l0 k s (xs.length:Int) i W H xs=some r:=by
 intro d
 induction d with
 |zero =>
  intro i h0 hd
  have hlt:¬ i<(xs.length:Int):=by omega
  refine⟨-1,Or.inl rfl,fun n h1 h2=>?_,fun k hk=>?_⟩
  ·simp only[Bool.and_eq_true,decide_eq_true_eq] at h2
   omega
  ·obtain⟨k,rfl⟩:∃ m,k=m+1:=⟨k-1,by omega⟩
   rw[impl_ParseCell.l0,if_neg hlt]
 |succ d ih =>
  intro i h0 hd
  have hlt:i<(xs.length:Int):=by omega
  obtain⟨r,r1,r2,r3⟩:=ih (i+1) (by omega) (by omega)
  have hw:=wrap_small (n:=xs.length) h0 hlt hn
  by_cases c:(b && decide (0≤i∧i≤(xs.length:Int)-1))=true
  ·by_cases e:(cellOf b W xs.length i).toList=s.toList
   ·refine⟨i,Or.inr ⟨c,e⟩,fun n _ _ _=>by omega,fun k hk=>?_⟩
    obtain⟨k,rfl⟩:∃ m,k=m+1:=⟨k-1,by omega⟩
    have i1:=(isCell_ev W H xs hn i hb k (by omega)).1
    rw[c] at i1
    rw[impl_ParseCell.l0,if_pos hlt,i1,Option.bind_some,if_pos rfl,(cellText_ev W H xs hn i hb hp k (by omega)).1,Option.bind_some,if_pos e]
   ·refine⟨r,r1,fun n h1 h2 h3=>?_,fun k hk=>?_⟩
    ·by_cases q:n=i
     ·subst q;exact absurd h3 e
     ·exact r2 n (by omega) h2 h3
    ·obtain⟨k,rfl⟩:∃ m,k=m+1:=⟨k-1,by omega⟩
     have i1:=(isCell_ev W H xs hn i hb k (by omega)).1
     rw[c] at i1
     rw[impl_ParseCell.l0,if_pos hlt,i1,Option.bind_some,if_pos rfl,(cellText_ev W H xs hn i hb hp k (by omega)).1,Option.bind_some,if_neg e,hw]
     exact r3 k (by omega)
  ·refine⟨r,r1,fun n h1 h2 h3=>?_,fun k hk=>?_⟩
   ·by_cases q:n=i
    ·subst q;exact absurd h2 c
    ·exact r2 n (by omega) h2 h3
   ·obtain⟨k,rfl⟩:∃ m,k=m+1:=⟨k-1,by omega⟩
    have i1:=(isCell_ev W H xs hn i hb k (by omega)).1
    rw[impl_ParseCell.l0,if_pos hlt,i1,Option.bind_some,if_neg c,hw]
    exact r3 k (by omega)
theorem joinTail_snoc (sep:List UInt8) (r:List (List UInt8)) (x:List UInt8):Go.Lib.joinTail sep (r++[x])=Go.Lib.joinTail sep r++(sep++x):=by simp[Go.Lib.joinTail]
theorem count_joinTail:∀ r:List (List UInt8),(∀ x∈r,x.count 45=0)→(Go.Lib.joinTail [45] r).count 45=r.length
 |[],_=>by simp[Go.Lib.joinTail]
 |x :: r,h=>by
  have h1:=count_joinTail r (fun y hy=>h y (List.mem_cons_of_mem _ hy))
  have h2:=h x (List.mem_cons_self ..)
  have e:Go.Lib.joinTail [45] (x :: r)=[45]++x++Go.Lib.joinTail [45] r:=by simp[Go.Lib.joinTail]
  rw[e,List.count_append,List.count_append,h1,h2]
  simp
  omega
theorem count_join (r:List (List UInt8)) (h:∀ x∈r,x.count 45=0) (hz:0<r.length):(Go.Lib.join r [45]).count 45+1=r.length:=by
 cases r with
 |nil=>simp at hz
 |cons y r =>
  rw[Go.Lib.join_cons,List.count_append,count_joinTail r (fun x hx=>h x (List.mem_cons_of_mem _ hx)),h y (List.mem_cons_self ..)]
  simp
theorem joinTail_length:∀ r:List (List UInt8),(∀ x∈r,x.length≤2)→(Go.Lib.joinTail [45] r).length≤3 * r.length
 |[],_=>by simp[Go.Lib.joinTail]
 |x :: r,h=>by
  have h1:=joinTail_length r (fun y hy=>h y (List.mem_cons_of_mem _ hy))
  have h2:=h x (List.mem_cons_self ..)
  have e:Go.Lib.joinTail [45] (x :: r)=[45]++x++Go.Lib.joinTail [45] r:=by simp[Go.Lib.joinTail]
  rw[e]
  simp only[List.length_append,List.length_cons,List.length_nil]
  omega
theorem join_length (r:List (List UInt8)) (h:∀ x∈r,x.length≤2):(Go.Lib.join r [45]).length≤3 * r.length+2:=by
 cases r with
 |nil=>simp[Go.Lib.join]
 |cons y r =>
  have h1:=joinTail_length r (fun x hx=>h x (List.mem_cons_of_mem _ hx))
  have h2:=h y (List.mem_cons_self ..)
  rw[Go.Lib.join_cons,List.length_append,List.length_cons]
  omega
theorem wayTextI_loop (W H:Int) (xs l:List Int) (hn:xs.length≤1048576) (hl:l.length≤1048576) (hz:0<l.length) {b:Bool} (hb:∀ k,xs.length+1<k→impl_IsLand.f k W H xs=some b∧spec_IsLand.f k W H xs=some b) (hp:Sized b W H xs) :
  ∀ (d:Nat) (i:Int) (ts:List ByteArray),0≤i→(l.length:Int)-i=d→(ts.length:Int)=i→(∀ t∈ts,t.data.toList.length≤2∧t.data.toList.count 45=0) →
   ∃ r:ByteArray,((r.toList=[]∨r.data.toList.count 45+1=l.length)∧r.size≤3 * l.length+2)∧∀ k,xs.length+d+6<k→impl_WayText.l0 k ts l (l.length:Int) i W H xs=some r:=by
 intro d
 induction d with
 |zero =>
  intro i ts h0 hd ht hs
  have hlt:¬ i<(l.length:Int):=by omega
  have hm:∀ x∈ts.map (·.data.toList),x.length≤2∧x.count 45=0:=by
   intro x hx
   obtain⟨t,h1,rfl⟩:=List.mem_map.mp hx
   exact hs t h1
  have j1:=join_length _ (fun x hx=>(hm x hx).1)
  have j2:=count_join _ (fun x hx=>(hm x hx).2) (by rw[List.length_map];omega)
  rw[List.length_map] at j1 j2
  refine⟨(⟨(Go.Lib.join (ts.map (·.data.toList)) [45]).toArray⟩:ByteArray),⟨Or.inr (by show (Go.Lib.join (ts.map (·.data.toList)) [45]).count 45+1=l.length;omega),by show (Go.Lib.join (ts.map (·.data.toList)) [45]).length≤_;omega⟩,fun k hk=>?_⟩
  obtain⟨k,rfl⟩:∃ m,k=m+1:=⟨k-1,by omega⟩
  have hj:strings_Join.f ts (⟨#[45]⟩:ByteArray)=some (⟨(Go.Lib.join (ts.map (·.data.toList)) [45]).toArray⟩:ByteArray):=by
   unfold strings_Join.f
   rw[show (⟨#[45]⟩:ByteArray).data.toList=[45] from rfl,if_pos (by omega),if_pos (by omega)]
  rw[impl_WayText.l0,if_neg hlt,hj]
  rfl
 |succ d ih =>
  intro i ts h0 hd ht hs
  have hlt:i<(l.length:Int):=by omega
  obtain⟨n,hnn⟩:∃ n,n=rd l i:=⟨_,rfl⟩
  have hw:=wrap_small (n:=l.length) h0 hlt hl
  by_cases c:(b && decide (0≤n∧n≤(xs.length:Int)-1))=true
  ·have g0:ts.length<8796093022208:=by omega
   have hcell:(cellOf b W xs.length n).data.toList.length≤2∧(cellOf b W xs.length n).data.toList.count 45=0:=by
    unfold cellOf
    rw[if_pos c]
    simp only[Bool.and_eq_true,decide_eq_true_eq] at c
    obtain⟨hW,hH,hl2,_⟩:=hp c.1
    obtain⟨⟨a1,a2⟩,a3,a4,_⟩:=cell_place hW hH hl2 c.2.1 c.2.2
    exact⟨by rw[cellB_data];simp,cellB_no45 (by omega) (by omega)⟩
   obtain⟨r,hr1,hr⟩:=ih (i+1) (ts++[cellOf b W xs.length n]) (by omega) (by omega) (by simp;omega) (by
    intro t h1
    rcases List.mem_append.mp h1 with h1|h1
    ·exact hs t h1
    ·rw[List.mem_singleton.mp h1];exact hcell)
   refine⟨r,hr1,fun k hk=>?_⟩
   obtain⟨k,rfl⟩:∃ m,k=m+1:=⟨k-1,by omega⟩
   have i1:=(isCell_ev W H xs hn n hb k (by omega)).1
   rw[c] at i1
   rw[impl_WayText.l0,if_pos hlt,if_pos h0,if_pos hlt,←hnn,i1,Option.bind_some,if_pos rfl,(cellText_ev W H xs hn n hb hp k (by omega)).1,Option.bind_some,if_pos g0,hw]
   exact hr k (by omega)
  ·refine⟨(⟨#[]⟩:ByteArray),⟨Or.inl (by rw[bytes_list]),by show 0≤_;omega⟩,fun k hk=>?_⟩
   obtain⟨k,rfl⟩:∃ m,k=m+1:=⟨k-1,by omega⟩
   have i1:=(isCell_ev W H xs hn n hb k (by omega)).1
   rw[impl_WayText.l0,if_pos hlt,if_pos h0,if_pos hlt,←hnn,i1,Option.bind_some,if_neg c]
theorem wayTextI_ev (W H:Int) (xs l:List Int) (hn:xs.length≤1048576) (hl:l.length≤1048576):∃ r:ByteArray,(l.length=0→r=(⟨#[45]⟩:ByteArray))∧((0<l.length→r.toList=[]∨r.data.toList.count 45+1=l.length)∧r.size≤3 * l.length+2)∧∀ k,xs.length+l.length+8<k→impl_WayText.f k W H xs l=some r:=by
 obtain⟨b,hb,hp⟩:=isLand_ev W H xs hn
 by_cases hz:l.length=0
 ·refine⟨(⟨#[45]⟩:ByteArray),fun _=>rfl,⟨fun h=>by omega,by show 1≤_;omega⟩,fun k hk=>?_⟩
  unfold impl_WayText.f
  rw[if_pos (by omega)]
 ·obtain⟨r,hr1,hr⟩:=wayTextI_loop W H xs l hn hl (by omega) hb hp l.length 0 [] (by omega) (by omega) rfl (fun t ht=>by cases ht)
  refine⟨r,fun h=>absurd h hz,⟨fun _=>hr1.1,hr1.2⟩,fun k hk=>?_⟩
  unfold impl_WayText.f
  rw[if_neg (by omega)]
  exact hr k (by omega)
theorem bt_cons {s:ByteArray} {i:Int} (h0:0≤i) (h:i<(s.size:Int)):(s.data.toList.drop i.toNat).count 45=(if bt s i=45 then 1 else 0)+(s.data.toList.drop (i+1).toNat).count 45:=by
 have hlt:i.toNat<s.size:=by omega
 have hlt2:i.toNat<s.data.toList.length:=by rw[Array.length_toList];exact hlt
 have e1:(i+1).toNat=i.toNat+1:=by omega
 rw[List.drop_eq_getElem_cons hlt2,List.count_cons,e1]
 have e2:bt s i=((s.data.toList[i.toNat]'hlt2).toNat:Int):=by
  unfold bt
  rw[dif_pos hlt]
  rfl
 rw[e2]
 generalize s.data.toList[i.toNat]'hlt2=v
 have e3:((v.toNat:Int)=45)↔v=45:=by
  constructor
  ·intro h
   have:v.toNat=(45:UInt8).toNat:=by
    have:v.toNat=45:=by omega
    rw[this];rfl
   exact UInt8.toNat_inj.mp this
  ·rintro rfl;rfl
 by_cases c:v=45
 ·rw[if_pos (e3.mpr c),if_pos (by simp[c])];omega
 ·rw[if_neg (fun h=>c (e3.mp h)),if_neg (by simp[c])];omega
theorem landI_loop (W H:Int) (xs:List Int) (hn:xs.length≤64) (hW:1≤W∧W≤8) (hc:∀ j:Int,0≤j→j<(xs.length:Int)→0≤rd xs j∧rd xs j≤2) :
  ∀ (d:Nat) (i:Int) (s:ByteArray),0≤i→(xs.length:Int)-i=d→(i=0→(s.size:Int)=0)→(0<i→(s.size:Int)=i+(i-1) / W) →
   ∃ r:ByteArray,(0<xs.length→(r.size:Int)=(xs.length:Int)+((xs.length:Int)-1) / W)∧∀ k,xs.length+2 * d+4<k→impl_LandText.l0 k s xs (xs.length:Int) i W H xs=some r:=by
 intro d
 induction d with
 |zero =>
  intro i s h0 hd hs0 hs
  have hlt:¬ i<(xs.length:Int):=by omega
  have hi:i=(xs.length:Int):=by omega
  refine⟨s,fun h=>by rw[←hi];exact hs (by omega),fun k hk=>?_⟩
  obtain⟨k,rfl⟩:∃ m,k=m+1:=⟨k-1,by omega⟩
  rw[impl_LandText.l0,if_neg hlt]
 |succ d ih =>
  intro i s h0 hd hs0 hs
  have hlt:i<(xs.length:Int):=by omega
  obtain⟨c0,c2⟩:=hc i h0 hlt
  obtain⟨c,hcc⟩:∃ c,c=rd xs i:=⟨_,rfl⟩
  rw[←hcc] at c0 c2
  have hwc:wrap64 (c+1)=c+1:=by unfold wrap64;omega
  have g1:c≤c+1:=by omega
  have g2:c+1≤3:=by omega
  obtain⟨p,hp⟩:∃ p,p=(⟨#[46,105,35]⟩:ByteArray).extract c.toNat (c+1).toNat:=⟨_,rfl⟩
  have hps:p.size=1:=by rw[hp,ByteArray.size_extract];have:(⟨#[46,105,35]⟩:ByteArray).size=3:=rfl;omega
  have hsl:((⟨#[47]⟩:ByteArray)).size=1:=rfl
  have hsb:(s.size:Int)≤200:=by
   by_cases z:i=0
   ·rw[hs0 z];omega
   ·rw[hs (by omega)]
    have:(i-1) / W≤i-1:=Int.ediv_le_self _ (by omega)
    omega
  have g3:s.size+p.size≤9223372036854775807:=by omega
  have g4:s.size+1≤9223372036854775807:=by omega
  have g5:(s++(⟨#[47]⟩:ByteArray)).size+p.size≤9223372036854775807:=by rw[ByteArray.size_append,hsl];omega
  have hWz:¬ W=0:=by omega
  have em:Int.tmod i W=i % W:=by rw[Int.tmod_eq_emod_of_nonneg h0]
  have hw:=wrap_small (n:=xs.length) h0 hlt (by omega)
  by_cases hsep:i>0∧Int.tmod i W=0
  ·obtain⟨r,hr1,hr⟩:=ih (i+1) ((s++(⟨#[47]⟩:ByteArray))++p) (by omega) (by omega) (by omega) (by
    intro _
    rw[ByteArray.size_append,ByteArray.size_append,hsl,hps]
    have h1:=hs hsep.1
    have h2:=hsep.2
    rw[em] at h2
    have h3:(i+1-1) / W=(i-1) / W+1:=by
     rcases w_cases hW with e|e|e|e|e|e|e|e <;> subst e <;> omega
    rw[h3]
    omega)
   refine⟨r,hr1,fun k hk=>?_⟩
   obtain⟨k,rfl⟩:∃ m,k=m+1:=⟨k-1,by omega⟩
   rw[impl_LandText.l0]
   simp only[if_pos hlt,if_pos h0,if_pos hsep.1,if_neg hWz,if_pos hsep.2,if_pos g4,←hcc,hwc,if_pos c0,if_pos g1,if_pos g2,←hp,if_pos g5,hw,hr k (by omega)]
  ·obtain⟨r,hr1,hr⟩:=ih (i+1) (s++p) (by omega) (by omega) (by omega) (by
    intro _
    rw[ByteArray.size_append,hps]
    by_cases z:i=0
    ·have h1:=hs0 z
     subst z
     have h3:((0:Int)+1-1) / W=0:=by rw[show (0:Int)+1-1=0 by omega,Int.zero_ediv]
     rw[h3]
     omega
    ·have h1:=hs (by omega)
     have h2:¬ i % W=0:=fun e=>hsep ⟨by omega,by rw[em];exact e⟩
     have h3:(i+1-1) / W=(i-1) / W:=by
      rcases w_cases hW with e|e|e|e|e|e|e|e <;> subst e <;> omega
     rw[h3]
     omega)
   refine⟨r,hr1,fun k hk=>?_⟩
   obtain⟨k,rfl⟩:∃ m,k=m+1:=⟨k-1,by omega⟩
   rw[impl_LandText.l0]
   by_cases hi:i>0
   ·have hm:¬ Int.tmod i W=0:=fun e=>hsep ⟨hi,e⟩
    simp only[if_pos hlt,if_pos h0,if_pos hi,if_neg hWz,if_neg hm,←hcc,hwc,if_pos c0,if_pos g1,if_pos g2,←hp,if_pos g3,hw,hr k (by omega)]
   ·simp only[if_pos hlt,if_pos h0,if_neg hi,←hcc,hwc,if_pos c0,if_pos g1,if_pos g2,←hp,if_pos g3,hw,hr k (by omega)]
theorem landI_ev (W H:Int) (xs:List Int) (hn:xs.length≤1048576):∃ (b:Bool) (r:ByteArray),(r.toList != ([]:List UInt8))=b∧(b=true→(r.size:Int)=wrap64 (wrap64 ((xs.length:Int)+H)-1))∧∀ k,3 * xs.length+8<k→impl_IsLand.f k W H xs=some b∧impl_LandText.f k W H xs=some r:=by
 obtain⟨b,hb,hp⟩:=isLand_ev W H xs hn
 cases b with
 |true =>
  obtain⟨hW,hH,hlen,h1,h64,hc⟩:=hp rfl
  obtain⟨r,hr1,hr⟩:=landI_loop W H xs h64 hW hc xs.length 0 (⟨#[]⟩:ByteArray) (by omega) (by omega) (fun _=>rfl) (fun h=>by omega)
  have hs:=hr1 (by omega)
  have hd:((xs.length:Int)-1) / W=H-1:=by
   rw[hlen]
   rcases w_cases hW with e|e|e|e|e|e|e|e <;> subst e <;> omega
  rw[hd] at hs
  refine⟨true,r,?_,fun _=>?_,fun k hk=>⟨(hb k (by omega)).1,?_⟩⟩
  ·rw[bne_iff_ne]
   intro e
   have:=bytes_len r
   rw[e] at this
   simp at this
   omega
  ·rw[hs]
   unfold wrap64
   omega
  ·unfold impl_LandText.f
   rw[(hb k (by omega)).1,Option.bind_some,if_pos rfl]
   exact hr k (by omega)
 |false =>
  refine⟨false,(⟨#[]⟩:ByteArray),by rw[bytes_list];rfl,(fun e=>by cases e),fun k hk=>⟨(hb k (by omega)).1,?_⟩⟩
  unfold impl_LandText.f
  simp only[(hb k (by omega)).1,Option.bind_some,Bool.false_eq_true,if_false]
theorem pastI_loop (xs:List Bool) (hn:xs.length≤1048576):∀ (d:Nat) (acc:ByteArray) (i:Int),0≤i→(xs.length:Int)-i=d→acc.size=i.toNat →
  ∃ r,r.size=xs.length∧∀ k,d<k→impl_PastText.l0 k acc xs (xs.length:Int) i=some r:=by
 intro d
 induction d with
 |zero =>
  intro acc i h0 hd hs
  refine⟨acc,by omega,fun k hk=>?_⟩
  obtain⟨k,rfl⟩:∃ m,k=m+1:=⟨k-1,by omega⟩
  rw[impl_PastText.l0,if_neg (by omega)]
 |succ d ih =>
  intro acc i h0 hd hs
  have hlt:i<(xs.length:Int):=by omega
  have hsz:acc.size+1≤9223372036854775807:=by omega
  obtain⟨v,hv⟩:∃ v:ByteArray,v=if rdOf false xs i=true then(⟨#[115]⟩:ByteArray) else(⟨#[46]⟩:ByteArray):=⟨_,rfl⟩
  have hv1:v.size=1:=by rw[hv];split <;> rfl
  obtain⟨r,r1,r2⟩:=ih (acc++v) (i+1) (by omega) (by omega) (by rw[ByteArray.size_append];omega)
  refine⟨r,r1,fun k hk=>?_⟩
  obtain⟨k,rfl⟩:∃ m,k=m+1:=⟨k-1,by omega⟩
  have r3:=r2 k (by omega)
  rw[hv] at r3
  simp only[impl_PastText.l0]
  simp only[if_pos hlt,if_pos h0,if_pos hsz,wrap_small (n:=xs.length) h0 hlt hn]
  by_cases e:rdOf false xs i=true
  ·simp only[if_pos e] at r3 ⊢
   exact r3
  ·simp only[if_neg e] at r3 ⊢
   exact r3
theorem pastI_ev (xs:List Bool) (hn:xs.length≤1048576):∃ q:ByteArray,q.size≤xs.length+1∧(0<xs.length→q.size=xs.length)∧∀ k,xs.length+1<k→impl_PastText.f k xs=some q:=by
 obtain⟨r,r1,r2⟩:=pastI_loop xs hn xs.length (⟨#[]⟩:ByteArray) 0 (by omega) (by omega) rfl
 by_cases e:xs.length=0
 ·refine⟨(⟨#[45]⟩:ByteArray),by show 1≤_;omega,fun h=>by omega,fun k hk=>?_⟩
  unfold impl_PastText.f;rw[if_pos (by omega)]
 ·refine⟨r,by omega,fun _=>r1,fun k hk=>?_⟩
  unfold impl_PastText.f;rw[if_neg (by omega)];exact r2 k (by omega)
theorem isOpenI_ev (W H:Int) (xs:List Int) (hn:xs.length≤1048576) (n:Int) {b:Bool} (hb:∀ k,xs.length+1<k→impl_IsLand.f k W H xs=some b∧spec_IsLand.f k W H xs=some b) :
  ∃ c,∀ k,xs.length+1<k→impl_IsOpen.f k W H xs n=some c:=by
 by_cases h:(b && decide (0≤n∧n≤(xs.length:Int)-1))=true
 ·refine⟨(rd xs n) != 2,fun k hk=>?_⟩
  have i1:=(isCell_ev W H xs hn n hb k hk).1
  rw[h] at i1
  simp only[Bool.and_eq_true,decide_eq_true_eq] at h
  unfold impl_IsOpen.f
  simp only[i1,Option.bind_some,if_true,if_pos h.2.1,if_pos (show n<(xs.length:Int) by omega)]
 ·refine⟨false,fun k hk=>?_⟩
  have i1:=(isCell_ev W H xs hn n hb k hk).1
  rw[Bool.eq_false_iff.mpr h] at i1
  unfold impl_IsOpen.f
  simp only[i1,Option.bind_some,Bool.false_eq_true,if_false]
theorem decDigits_le:∀ (f n:Nat),n≤f→(Go.Lib.decDigits n).length≤n+1:=by
 intro f
 induction f with
 |zero =>
  intro n h
  rw[Go.Lib.decDigits_one (by omega)]
  simp
 |succ f ih =>
  intro n h
  by_cases c:n<10
  ·rw[Go.Lib.decDigits_one c];simp
  ·have:=ih (n / 10) (by omega)
   rw[Go.Lib.decDigits,dif_neg c,List.length_append]
   simp only[List.length_cons,List.length_nil]
   omega
theorem formatI_ev (n:Int) (h0:0≤n) (h1:n≤1000000):∃ t:ByteArray,t.size≤1000002∧∀ k,impl_FormatInt.f k n=some t:=by
 refine⟨(⟨(Go.Lib.decDigits n.toNat).toArray⟩:ByteArray),?_,fun k=>?_⟩
 ·have:=decDigits_le n.toNat n.toNat (Nat.le_refl _)
  show (Go.Lib.decDigits n.toNat).length≤_
  omega
 ·unfold impl_FormatInt.f
  rw[if_pos ⟨h0,h1⟩]
theorem joined_ev (a b c d:Int) (ta tb tc td:ByteArray) (K:Nat) (ha:∀ k,K<k→impl_FormatInt.f k a=some ta) (hb:∀ k,K<k→impl_FormatInt.f k b=some tb) (hc:∀ k,K<k→impl_FormatInt.f k c=some tc) (hd:∀ k,K<k→impl_FormatInt.f k d=some td)
  (hs:ta.size≤1000002∧tb.size≤1000002∧tc.size≤1000002∧td.size≤1000002) :
  ∀ k,K+6<k→impl_joined.f k [a,b,c,d]=some (ta++(⟨#[32]⟩:ByteArray)++tb++(⟨#[32]⟩:ByteArray)++tc++(⟨#[32]⟩:ByteArray)++td):=by
 intro k hk
 obtain⟨k,rfl⟩:∃ m,k=m+5:=⟨k-5,by omega⟩
 have hw0:wrap64 (0+1)=1:=by unfold wrap64;omega
 have hw1:wrap64 (1+1)=2:=by unfold wrap64;omega
 have hw2:wrap64 (2+1)=3:=by unfold wrap64;omega
 have hw3:wrap64 (3+1)=4:=by unfold wrap64;omega
 have hl:(([a,b,c,d]:List Int).length:Int)=4:=rfl
 have g0:rd [a,b,c,d] 0=a:=rfl
 have g1:rd [a,b,c,d] 1=b:=rfl
 have g2:rd [a,b,c,d] 2=c:=rfl
 have g3:rd [a,b,c,d] 3=d:=rfl
 have hz:(⟨#[32]⟩:ByteArray).size=1:=rfl
 have hj:strings_Join.f [ta,tb,tc,td] (⟨#[32]⟩:ByteArray)=some (ta++(⟨#[32]⟩:ByteArray)++tb++(⟨#[32]⟩:ByteArray)++tc++(⟨#[32]⟩:ByteArray)++td):=by
  have he:(ta++(⟨#[32]⟩:ByteArray)++tb++(⟨#[32]⟩:ByteArray)++tc++(⟨#[32]⟩:ByteArray)++td).data.toList=Go.Lib.join ([ta,tb,tc,td].map (·.data.toList)) (⟨#[32]⟩:ByteArray).data.toList:=by
   simp only[bytes_append,List.map_cons,List.map_nil,Go.Lib.join_cons,Go.Lib.joinTail,List.flatten_cons,List.flatten_nil,List.append_nil,List.append_assoc]
  have hlen:(Go.Lib.join ([ta,tb,tc,td].map (·.data.toList)) (⟨#[32]⟩:ByteArray).data.toList).length≤140737488355328:=by
   rw[←he,Array.length_toList]
   show (ta++(⟨#[32]⟩:ByteArray)++tb++(⟨#[32]⟩:ByteArray)++tc++(⟨#[32]⟩:ByteArray)++td).size≤_
   simp only[ByteArray.size_append,hz]
   omega
  unfold strings_Join.f
  rw[if_pos hlen,if_pos (by show 4≤_;omega)]
  congr 1
  exact(bytes_ext _ _ he).symm
 unfold impl_joined.f
 rw[hl]
 rw[impl_joined.l0,if_pos (by omega),if_pos (by omega),if_pos (by rw[hl];omega),g0,ha _ (by omega),Option.bind_some,if_pos (by show 0<_;omega),hw0]
 rw[impl_joined.l0,if_pos (by omega),if_pos (by omega),if_pos (by rw[hl];omega),g1,hb _ (by omega),Option.bind_some,if_pos (by show 1<_;omega),hw1]
 rw[impl_joined.l0,if_pos (by omega),if_pos (by omega),if_pos (by rw[hl];omega),g2,hc _ (by omega),Option.bind_some,if_pos (by show 2<_;omega),hw2]
 rw[impl_joined.l0,if_pos (by omega),if_pos (by omega),if_pos (by rw[hl];omega),g3,hd _ (by omega),Option.bind_some,if_pos (by show 3<_;omega),hw3]
 rw[impl_joined.l0,if_neg (by omega)]
 show (strings_Join.f [ta,tb,tc,td] (⟨#[32]⟩:ByteArray)).bind _=_
 rw[hj]
 rfl
theorem partyTextI_ev (W H:Int) (xs:List Int) (hn:xs.length≤64) (a f:Int) (l:List S86) (hl:l.length≤64) (p:List Bool) (hpl:p.length≤1048576) :
  ∃ (b:Bool) (r:ByteArray),(r.toList != ([]:List UInt8))=b∧∀ k,400<k→impl_IsParty.f k W H xs a f l p=some b∧impl_PartyText.f k W H xs a f l p=some r:=by
 obtain⟨b,hb,hbp⟩:=isLand_ev W H xs (by omega)
 obtain⟨o,ho⟩:=isOpenI_ev W H xs (by omega) a hb
 obtain⟨cb,need,hcb,hn1,hn0,hneed⟩:=needOf_ev l (by omega)
 obtain⟨cap,hcap,hcapv⟩:=capOf_ev2 l (by omega)
 by_cases hok:(o=true∧cb=true)∧(0≤f∧f≤10000)∧(p.length:Int)≤10
 ·obtain⟨⟨rfl,rfl⟩,⟨f0,f1⟩,p10⟩:=hok
  obtain⟨_,l1,l8,_,n1,n80⟩:=hn1 rfl
  obtain⟨tf,hf,hfv⟩:=formatI_ev f f0 (by omega)
  obtain⟨tl,hlz,hlv⟩:=formatI_ev (l.length:Int) (by omega) (by omega)
  obtain⟨tn,htn,hnv⟩:=formatI_ev need (by omega) (by omega)
  obtain⟨tc,htc,hcv⟩:=formatI_ev cap (by omega) (by omega)
  obtain⟨q,hq,_,hqv⟩:=pastI_ev p hpl
  have hz:(⟨#[32]⟩:ByteArray).size=1:=rfl
  have ht:(cellOf b W xs.length a).size≤2:=by
   unfold cellOf
   split
   ·rw[cellB_size];omega
   ·show 0≤2;omega
  refine⟨true,cellOf b W xs.length a++(⟨#[32]⟩:ByteArray)++(tf++(⟨#[32]⟩:ByteArray)++tl++(⟨#[32]⟩:ByteArray)++tn++(⟨#[32]⟩:ByteArray)++tc)++(⟨#[32]⟩:ByteArray)++q,?_,fun k hk=>?_⟩
  ·rw[bne_iff_ne]
   intro e
   have:=bytes_len (cellOf b W xs.length a++(⟨#[32]⟩:ByteArray)++(tf++(⟨#[32]⟩:ByteArray)++tl++(⟨#[32]⟩:ByteArray)++tn++(⟨#[32]⟩:ByteArray)++tc)++(⟨#[32]⟩:ByteArray)++q)
   rw[e] at this
   simp only[ByteArray.size_append,hz,List.length_nil] at this
   omega
  ·have p1:impl_IsParty.f k W H xs a f l p=some true:=by
    unfold impl_IsParty.f
    simp only[ho k (by omega),hcb k (by omega),inRange_eq,f0,f1,p10,and_self,decide_true,Option.bind_some,if_true]
   have hj:=joined_ev f (l.length:Int) need cap tf tl tn tc 0 (fun k _=>hfv k) (fun k _=>hlv k) (fun k _=>hnv k) (fun k _=>hcv k) ⟨hf,hlz,htn,htc⟩ k (by omega)
   refine⟨p1,?_⟩
   unfold impl_PartyText.f
   simp only[p1,(cellText_ev W H xs (by omega) a hb hbp k (by omega)).1,hneed k (by omega),hcapv k (by omega),hj,hqv k (by omega),Option.bind_some,if_true]
   rw[if_pos (by omega),if_pos (by simp only[ByteArray.size_append,hz];omega),if_pos (by simp only[ByteArray.size_append,hz];omega),if_pos (by simp only[ByteArray.size_append,hz];omega)]
 ·refine⟨false,(⟨#[]⟩:ByteArray),by rw[bytes_list];rfl,fun k hk=>?_⟩
  have hparty:impl_IsParty.f k W H xs a f l p=some false:=by
   unfold impl_IsParty.f
   rw[ho k (by omega),Option.bind_some]
   by_cases c1:o=true
   ·rw[if_pos c1,hcb k (by omega),Option.bind_some]
    by_cases c2:cb=true
    ·rw[if_pos c2,inRange_eq,Option.bind_some]
     by_cases c3:0≤f∧f≤10000
     ·have c4:¬ (p.length:Int)≤10:=fun h=>hok ⟨⟨c1,c2⟩,c3,h⟩
      simp only[c3,and_self,decide_true,if_true,c4,decide_false]
     ·simp only[c3,decide_false,Bool.false_eq_true,if_false]
    ·rw[if_neg c2]
   ·rw[if_neg c1]
  refine⟨hparty,?_⟩
  unfold impl_PartyText.f
  simp only[hparty,Option.bind_some,Bool.false_eq_true,if_false]
theorem l9AnyX_ev (d:List Int) (p s:Int) (hd:d.length≤1048576) (hp:0≤p) (hp2:p≤d.length) :
  ∃ W H xs a b l h p' s',xs.length≤64∧l.length≤6∧h.length≤10∧∀ k,1100<k→spec_l9Any.f k d p s=some (W,H,xs,a,b,l,h,p',s'):=by
 obtain⟨W,H,xs,p1,s1,hx,hp1,hp1',h1⟩:=l4Any_ev d p s hd hp hp2
 obtain⟨v,w,p2,s2,e2,hw,hp2a,hp2b⟩:=rule_ev d p1 s1 hd hp1 hp1'
 obtain⟨a,b,l,h,p3,s3,hb,hl,hh,hp3,hp3',h3⟩:=l9Draw_ev d p2 s2 hd hp2a hp2b W H xs hx v w hw
 obtain⟨c,p4,s4,e4,_,hp4,hp4'⟩:=below_ev d p3 s3 12 hd hp3 hp3'
 unfold spec_l9Any.f
 by_cases c0:c=0
 ·obtain⟨u,p5,s5,e5,hp5,hp5'⟩:=l4Raw_ev d p4 s4 hd hp4 hp4'
  exact⟨W,H,xs,u,b,l,h,p5,s5,hx,hl,hh,fun k hk=>by simp only[h1 k (by omega),Option.bind_some,e2,h3 k hk,e4,if_pos c0,e5]⟩
 ·by_cases c1:c=1
  ·obtain⟨u,p5,s5,e5,hu,hp5,hp5'⟩:=int_ev d p4 s4 [(-1),0,10000,10001] (by simp) hd hp4 hp4'
   have hu2:-1≤u∧u≤10001:=by
    simp only[List.mem_cons,List.not_mem_nil,or_false] at hu
    omega
   exact⟨W,H,xs,a,u,l,h,p5,s5,hx,hl,hh,fun k hk=>by simp only[h1 k (by omega),Option.bind_some,e2,h3 k hk,e4,if_neg c0,if_pos c1,e5]⟩
  ·by_cases c2:c=2
   ·obtain⟨q,p5,s5,hq,hp5,hp5',h5⟩:=crewAny_ev d p4 s4 hd hp4 hp4'
    exact⟨W,H,xs,a,b,q,h,p5,s5,hx,hq,hh,fun k hk=>by simp only[h1 k (by omega),Option.bind_some,e2,h3 k hk,e4,if_neg c0,if_neg c1,if_pos c2,h5 k (by omega)]⟩
   ·exact⟨W,H,xs,a,b,l,h,p4,s4,hx,hl,hh,fun k hk=>by simp only[h1 k (by omega),Option.bind_some,e2,h3 k hk,e4,if_neg c0,if_neg c1,if_neg c2]⟩
theorem past_loop2 (d:List Int) (hd:d.length≤1048576) (n v w:Int) (hn:n≤14) (hw:1≤w∧w≤10):∀ (e:Nat) (i:Int) (acc:List Bool) (p s:Int),0≤i→n-i≤e→(acc.length:Int)=i→i≤14→0≤p→p≤d.length →
  ∃ q p' s',q.length≤14∧0≤p'∧p'≤(d.length:Int)∧∀ k,15+e<k→spec_l6Past.l0 k n acc i d p s v w=some (q,p',s'):=by
 intro e
 induction e with
 |zero =>
  intro i acc p s h0 he ha hi hp hp2
  refine⟨acc,p,s,by omega,hp,hp2,fun k hk=>?_⟩
  obtain⟨k,rfl⟩:∃ m,k=m+1:=⟨k-1,by omega⟩
  rw[spec_l6Past.l0,if_neg (by omega)]
 |succ e ih =>
  intro i acc p s h0 he ha hi hp hp2
  by_cases c:i<n
  ·obtain⟨t,ht⟩:=mayStormS_ev v w acc hw (by omega)
   have wi:wrap64 (i+1)=i+1:=by unfold wrap64;omega
   have q1:acc.length<140737488355328:=by omega
   by_cases b:t=true
   ·obtain⟨f,p1,s1,e1,hp1,hp1'⟩:=once_ev d p s 2 hd hp hp2
    obtain⟨q,p',s',hq,hp',hp'',hk2⟩:=ih (i+1) (acc++[f]) p1 s1 (by omega) (by omega) (by simp;omega) (by omega) hp1 hp1'
    refine⟨q,p',s',hq,hp',hp'',fun k hk=>?_⟩
    obtain⟨k,rfl⟩:∃ m,k=m+1:=⟨k-1,by omega⟩
    rw[spec_l6Past.l0,if_pos c,ht k (by omega),Option.bind_some,if_pos b,e1,Option.bind_some,if_pos q1,wi]
    exact hk2 k (by omega)
   ·obtain⟨q,p',s',hq,hp',hp'',hk2⟩:=ih (i+1) (acc++[false]) p s (by omega) (by omega) (by simp;omega) (by omega) hp hp2
    refine⟨q,p',s',hq,hp',hp'',fun k hk=>?_⟩
    obtain⟨k,rfl⟩:∃ m,k=m+1:=⟨k-1,by omega⟩
    rw[spec_l6Past.l0,if_pos c,ht k (by omega),Option.bind_some,if_neg b,if_pos q1,wi]
    exact hk2 k (by omega)
  ·refine⟨acc,p,s,by omega,hp,hp2,fun k hk=>?_⟩
   obtain⟨k,rfl⟩:∃ m,k=m+1:=⟨k-1,by omega⟩
   rw[spec_l6Past.l0,if_neg c]
theorem drawCell_ev (d:List Int) (hd:d.length≤1048576):∃ W H xs n,xs.length≤64∧∀ k,d.length+100<k→spec_DrawIsCell.f k d=some (W,H,xs,n):=by
 obtain⟨s,hs⟩:=new_ev d hd
 obtain⟨W,H,xs,p1,s1,hx,hp1,hp1',h1⟩:=l4Any_ev d 0 s hd (by omega) (by omega)
 obtain⟨a,p2,s2,e2,_,hp2,hp2'⟩:=below_ev d p1 s1 30 hd hp1 hp1'
 obtain⟨b,p3,s3,e3,_,hp3,hp3'⟩:=below_ev d p2 s2 30 hd hp2 hp2'
 obtain⟨c,p4,s4,e4,hp4,hp4'⟩:=l4Raw_ev d p3 s3 hd hp3 hp3'
 obtain⟨n,p5,s5,e5,_,_,_⟩:=int_ev d p4 s4 [a,b,0,c] (by simp) hd hp4 hp4'
 refine⟨W,H,xs,n,hx,fun k hk=>?_⟩
 unfold spec_DrawIsCell.f
 simp only[hs k (by omega),Option.bind_some,h1 k (by omega),e2,e3,e4,e5]
theorem drawParse_ev (d:List Int) (hd:d.length≤1048576):∃ W H xs s,xs.length≤64∧∀ k,d.length+100<k→spec_DrawParseCell.f k d=some (W,H,xs,s):=by
 obtain⟨W,H,xs,n,hx,h1⟩:=drawCell_ev d hd
 obtain⟨s,hs⟩:=new_ev d hd
 obtain⟨b,hb,hp⟩:=isLand_ev W H xs (by omega)
 obtain⟨v,p1,s1,e1,⟨v0,v1,_⟩,_,_⟩:=below_ev d 0 s 9 hd (by omega) (by omega)
 have v9:=v1 (by omega)
 refine⟨W,H,xs,rdOf ByteArray.empty [cellOf b W xs.length n,cellOf b W xs.length n,(⟨#[97,48]⟩:ByteArray),(⟨#[122,48]⟩:ByteArray),(⟨#[97,57]⟩:ByteArray),(⟨#[97]⟩:ByteArray),(⟨#[]⟩:ByteArray),(⟨#[65,48]⟩:ByteArray),(⟨#[97,48,48]⟩:ByteArray)] v,hx,fun k hk=>?_⟩
 have hl:∀ a b c d e f g h i:ByteArray,(([a,b,c,d,e,f,g,h,i]:List ByteArray).length:Int)=9:=fun _ _ _ _ _ _ _ _ _=>rfl
 unfold spec_DrawParseCell.f spec_l1Str.f
 simp only[h1 k hk,hs k (by omega),(cellText_ev W H xs (by omega) n hb hp k (by omega)).2,Option.bind_some,hl,e1,if_pos v0,if_pos v9]
theorem drawApart_ev (d:List Int) (hd:d.length≤1048576):∃ W H xs a b,xs.length≤64∧∀ k,d.length+100<k→spec_DrawApart.f k d=some (W,H,xs,a,b):=by
 obtain⟨W,H,xs,n,hx,h1⟩:=drawCell_ev d hd
 obtain⟨s,hs⟩:=new_ev d hd
 obtain⟨v,p1,s1,e1,_,_,_⟩:=below_ev d 0 s 30 hd (by omega) (by omega)
 refine⟨W,H,xs,n,v,hx,fun k hk=>?_⟩
 unfold spec_DrawApart.f
 simp only[h1 k hk,hs k (by omega),Option.bind_some,e1]
theorem wayToS_ev (W H:Int) (xs:List Int) (hx:xs.length≤64) (a b:Int):∃ w,w.length≤64∧∀ k,1000<k→spec_WayTo.f k W H xs a b=some w:=by
 rcases land_cases W H xs (by omega) with L|L
 ·exact⟨wayTo W xs a b,wayTo_len L,fun k hk=>wayTo_okS L a b k hk⟩
 ·exact⟨[],by simp,fun k hk=>wayTo_noS a b k (L k (by omega))⟩
theorem drawWay_ev (d:List Int) (hd:d.length≤1048576):∃ W H xs w,xs.length≤64∧w.length≤64∧∀ k,d.length+1100<k→spec_DrawIsWay.f k d=some (W,H,xs,w):=by
 obtain⟨W,H,xs,a,b,hx,h1⟩:=drawApart_ev d hd
 obtain⟨s,hs⟩:=new_ev d hd
 obtain⟨w,hw,h2⟩:=wayToS_ev W H xs hx a b
 unfold spec_DrawIsWay.f
 by_cases c:(w.length:Int)>0
 ·obtain⟨f,p1,s1,e1,hp1,hp1'⟩:=once_ev d 0 s 3 hd (by omega) (by omega)
  by_cases cf:f=true
  ·obtain⟨u,p2,s2,e2,⟨u0,u1,_⟩,hp2,hp2'⟩:=below_ev d p1 s1 (w.length:Int) hd hp1 hp1'
   have u2:=u1 (by omega)
   obtain⟨v,p3,s3,e3,_,_,_⟩:=below_ev d p2 s2 30 hd hp2 hp2'
   refine⟨W,H,xs,w.set u.toNat v,hx,by rw[List.length_set];exact hw,fun k hk=>?_⟩
   obtain⟨k,rfl⟩:∃ m,k=m+1:=⟨k-1,by omega⟩
   simp only[h1 (k+1) (by omega),h2 (k+1) (by omega),hs (k+1) (by omega),Option.bind_some,if_pos c,e1,spec_DrawIsWay.j0,cf,if_true,e2,e3,if_pos u0,if_pos u2]
  ·refine⟨W,H,xs,w,hx,hw,fun k hk=>?_⟩
   obtain⟨k,rfl⟩:∃ m,k=m+1:=⟨k-1,by omega⟩
   simp only[h1 (k+1) (by omega),h2 (k+1) (by omega),hs (k+1) (by omega),Option.bind_some,if_pos c,e1,spec_DrawIsWay.j0,cf,Bool.false_eq_true,if_false]
 ·refine⟨W,H,xs,w,hx,hw,fun k hk=>?_⟩
  obtain⟨k,rfl⟩:∃ m,k=m+1:=⟨k-1,by omega⟩
  simp only[h1 (k+1) (by omega),h2 (k+1) (by omega),hs (k+1) (by omega),Option.bind_some,if_neg c,spec_DrawIsWay.j0,Bool.false_eq_true,if_false]
theorem drawPast_ev (d:List Int) (hd:d.length≤1048576):∃ p,p.length≤20∧∀ k,d.length+100<k→spec_DrawPastText.f k d=some p:=by
 obtain⟨s,hs⟩:=new_ev d hd
 obtain⟨v,w,p1,s1,e1,hw,hp1,hp1'⟩:=rule_ev d 0 s hd (by omega) (by omega)
 obtain⟨n,p2,s2,e2,⟨n0,n1,_⟩,hp2,hp2'⟩:=below_ev d p1 s1 15 hd hp1 hp1'
 have n2:=n1 (by omega)
 obtain⟨q,p3,s3,hq,hp3,hp3',h3⟩:=past_loop2 d hd n v w (by omega) hw 14 0 [] p2 s2 (by omega) (by omega) (by simp) (by omega) hp2 hp2'
 obtain⟨c,p4,s4,e4,_,hp4,hp4'⟩:=below_ev d p3 s3 10 hd hp3 hp3'
 have f3:∀ k,d.length+100<k→spec_l6Past.f k d p2 s2 v w n=some (q,p3,s3):=fun k hk=>h3 k (by omega)
 have hq2:q.length<140737488355328:=by omega
 unfold spec_DrawPastText.f spec_DrawCountStorms.f spec_DrawKeeps.f spec_l6Any.f
 by_cases c0:c=0
 ·obtain⟨u,p5,s5,e5,_,_,_⟩:=int_ev d p4 s4 [(-1),5,9,10] (by simp) hd hp4 hp4'
  exact⟨q,by omega,fun k hk=>by simp only[hs k (by omega),Option.bind_some,e1,e2,f3 k hk,e4,if_pos c0,e5]⟩
 ·by_cases c1:c=1
  ·obtain⟨u,p5,s5,e5,_,_,_⟩:=int_ev d p4 s4 [0,10,11] (by simp) hd hp4 hp4'
   exact⟨q,by omega,fun k hk=>by simp only[hs k (by omega),Option.bind_some,e1,e2,f3 k hk,e4,if_neg c0,if_pos c1,e5]⟩
  ·by_cases c2:c=2
   ·exact⟨q++[true],by simp;omega,fun k hk=>by simp only[hs k (by omega),Option.bind_some,e1,e2,f3 k hk,e4,if_neg c0,if_neg c1,if_pos c2,if_pos hq2]⟩
   ·exact⟨q,by omega,fun k hk=>by simp only[hs k (by omega),Option.bind_some,e1,e2,f3 k hk,e4,if_neg c0,if_neg c1,if_neg c2]⟩
theorem drawPartyText_ev (d:List Int) (hd:d.length≤1048576):∃ W H xs a b l h,xs.length≤64∧l.length≤6∧h.length≤10∧∀ k,d.length+1100<k→spec_DrawPartyText.f k d=some (W,H,xs,a,b,l,h):=by
 obtain⟨s,hs⟩:=new_ev d hd
 obtain⟨W,H,xs,a,b,l,h,p',s',hx,hl,hh,h1⟩:=l9AnyX_ev d 0 s hd (by omega) (by omega)
 refine⟨W,H,xs,a,b,l,h,hx,hl,hh,fun k hk=>?_⟩
 unfold spec_DrawPartyText.f spec_DrawIsParty.f
 simp only[hs k (by omega),Option.bind_some,h1 k (by omega)]
theorem drawLandText_ev (d:List Int) (hd:d.length≤1048576):∃ W H xs,xs.length≤64∧∀ k,d.length+100<k→spec_DrawLandText.f k d=some (W,H,xs):=by
 obtain⟨s,hs⟩:=new_ev d hd
 obtain⟨W,H,xs,p1,s1,hx,_,_,h1⟩:=l4Any_ev d 0 s hd (by omega) (by omega)
 refine⟨W,H,xs,hx,fun k hk=>?_⟩
 unfold spec_DrawLandText.f spec_DrawIsLand.f
 simp only[hs k (by omega),Option.bind_some,h1 k (by omega)]
theorem law_j3 (d:List Int) (hd:d.length≤1048576) (k:Nat) (hk:d.length+1200<k):laws_FnTexts.j3 k d false=some true:=by
 obtain⟨k,rfl⟩:∃ m,k=m+1:=⟨k-1,by omega⟩
 obtain⟨past,hp1,hp⟩:=drawPast_ev d hd
 obtain⟨W,H,xs,a,b,l,h,hx,hl,hh,h1⟩:=drawPartyText_ev d hd
 obtain⟨W2,H2,ys,hy,h2⟩:=drawLandText_ev d hd
 obtain⟨b1,r1,e1,q1⟩:=partyTextI_ev W H xs hx a b l (by omega) h (by omega)
 obtain⟨b2,r2,e2,s2,q2⟩:=landI_ev W2 H2 ys (by omega)
 obtain⟨q,_,pz,hq⟩:=pastI_ev past (by omega)
 obtain⟨u1,u2⟩:=q1 k (by omega)
 obtain⟨v1,v2⟩:=q2 k (by omega)
 have hf:(if r2.toList=([]:List UInt8) then(some true) else(some ((r2.size:Int)==(wrap64 ((wrap64 ((ys.length:Int)+H2))-1)))))=some true:=by
  by_cases c:r2.toList=([]:List UInt8)
  ·rw[if_pos c]
  ·rw[if_neg c]
   have:b2=true:=by rw[←e2,bne_iff_ne];exact c
   rw[s2 this,beq_self_eq_true]
 by_cases c:(past.length:Int)=0
 ·simp only[laws_FnTexts.j3,Bool.false_eq_true,if_false,hp k (by omega),h1 k (by omega),h2 k (by omega),Option.bind_some,v2,if_pos c,u1,u2,e1,beq_self_eq_true,if_true,v1,e2,hf]
 ·have hz:(q.size:Int)=(past.length:Int):=by rw[pz (by omega)]
  simp only[laws_FnTexts.j3,Bool.false_eq_true,if_false,hp k (by omega),h1 k (by omega),h2 k (by omega),Option.bind_some,v2,if_neg c,hq k (by omega),if_pos hz,u1,u2,e1,beq_self_eq_true,if_true,v1,e2,hf]
theorem law_l0 (d:List Int) (hd:d.length≤1048576) (w:List Int) (hw:w.length≤64) (r:ByteArray) (hr:r.size≤1000) (h0:w.length=0→r=(⟨#[45]⟩:ByteArray)) (h1:0<w.length→r.toList=[]∨r.data.toList.count 45+1=w.length) :
  ∀ (e:Nat) (i c:Int),0≤i→(r.size:Int)-i=e→0≤c→c+((r.data.toList.drop i.toNat).count 45:Int)=(r.data.toList.count 45:Int)→∀ k,d.length+1201+e<k→laws_FnTexts.l0 k d w r c i=some true:=by
 have hcnt:r.data.toList.count 45≤1000:=by
  have h2:r.data.toList.count 45≤r.data.toList.length:=List.count_le_length
  have h3:r.data.toList.length=r.size:=by rw[Array.length_toList];rfl
  omega
 intro e
 induction e with
 |zero =>
  intro i c i0 he hc hcc k hk
  obtain⟨k,rfl⟩:∃ m,k=m+1:=⟨k-1,by omega⟩
  have hj:=law_j3 d hd k (by omega)
  have hlt:¬ i<(r.size:Int):=by omega
  have hdrop:r.data.toList.drop i.toNat=[]:=by
   apply List.drop_eq_nil_of_le
   have h3:r.data.toList.length=r.size:=by rw[Array.length_toList];rfl
   omega
  rw[hdrop,List.count_nil] at hcc
  rw[laws_FnTexts.l0,if_neg hlt]
  by_cases wz:w.length=0
  ·have e1:=h0 wz
   subst e1
   have t1:(⟨#[45]⟩:ByteArray).toList=([45]:List UInt8):=by rw[bytes_list]
   have wz2:(w.length:Int)=0:=by omega
   have wz3:¬ (w.length:Int)>0:=by omega
   have ne:¬ ([45]:List UInt8)=[]:=by simp
   rw[t1,if_neg ne,if_neg wz3,if_pos wz2,bne_self_eq_false]
   exact hj
  ·have wz2:¬ (w.length:Int)=0:=by omega
   have wz3:(w.length:Int)>0:=by omega
   by_cases t:r.toList=([]:List UInt8)
   ·rw[if_pos t,if_neg wz2]
    exact hj
   ·have h2:=(h1 (by omega)).resolve_left t
    have h3:c=wrap64 ((w.length:Int)-1):=by unfold wrap64;omega
    rw[if_neg t,if_pos wz3,if_pos h3,if_neg wz2]
    exact hj
 |succ e ih =>
  intro i c i0 he hc hcc k hk
  obtain⟨k,rfl⟩:∃ m,k=m+1:=⟨k-1,by omega⟩
  have hlt:i<(r.size:Int):=by omega
  have hs:=bt_cons i0 hlt
  have w1:wrap64 (i+1)=i+1:=by unfold wrap64;omega
  rw[laws_FnTexts.l0,if_pos hlt,if_pos i0,w1]
  by_cases g:bt r i=45
  ·rw[if_pos g] at hs ⊢
   have w2:wrap64 (c+1)=c+1:=by unfold wrap64;omega
   rw[w2]
   exact ih (i+1) (c+1) (by omega) (by omega) (by omega) (by omega) k (by omega)
  ·rw[if_neg g] at hs ⊢
   exact ih (i+1) c (by omega) (by omega) hc (by omega) k (by omega)
theorem law_j1 (d:List Int) (hd:d.length≤1048576) (k:Nat) (hk:d.length+2300<k):laws_FnTexts.j1 k d false=some true:=by
 obtain⟨k,rfl⟩:∃ m,k=m+1:=⟨k-1,by omega⟩
 obtain⟨W,H,xs,w,hx,hw,h1⟩:=drawWay_ev d hd
 obtain⟨r,r0,⟨r1,r2⟩,r3⟩:=wayTextI_ev W H xs w (by omega) (by omega)
 simp only[laws_FnTexts.j1,Bool.false_eq_true,if_false,spec_DrawWayText.f,h1 k (by omega),Option.bind_some,r3 k (by omega)]
 exact law_l0 d hd w hw r (by omega) r0 r1 r.size 0 0 (by omega) (by omega) (by omega) (by simp) k (by omega)
theorem law_j0 (d:List Int) (hd:d.length≤1048576) (k:Nat) (hk:d.length+2301<k):laws_FnTexts.j0 k d false=some true:=by
 obtain⟨k,rfl⟩:∃ m,k=m+1:=⟨k-1,by omega⟩
 have hj:=law_j1 d hd k (by omega)
 obtain⟨W,H,xs,s,hx,h1⟩:=drawParse_ev d hd
 obtain⟨b,hb,hp⟩:=isLand_ev W H xs (by omega)
 obtain⟨r,r1,r2,r3⟩:=parse_loop W H xs (by omega) s hb hp xs.length 0 (by omega) (by omega)
 have r4:impl_ParseCell.f k W H xs s=some r:=r3 k (by omega)
 simp only[laws_FnTexts.j0,Bool.false_eq_true,if_false,h1 k (by omega),Option.bind_some,r4]
 rcases r1 with e|⟨e1,e2⟩
 ·rw[if_neg (by omega)]
  exact hj
 ·have e3:=e1
  simp only[Bool.and_eq_true,decide_eq_true_eq] at e3
  rw[if_pos (by omega),(cellText_ev W H xs (by omega) r hb hp k (by omega)).1,Option.bind_some,e2,bne_self_eq_false]
  exact hj
theorem FnTexts:laws_FnTexts.Stmt:=by
 intro d
 by_cases hbig:(d.length:Int)>1048576
 ·exact fun _=>⟨0,by unfold laws_FnTexts.f laws_big.f;simp only[hbig,decide_true,Option.bind_some,if_true]⟩
 intro _
 have hd:d.length≤1048576:=by omega
 obtain⟨W,H,xs,n,hx,h1⟩:=drawCell_ev d hd
 obtain⟨b,hb,hp⟩:=isLand_ev W H xs (by omega)
 obtain⟨k,hk⟩:∃ k,k=d.length+2400:=⟨_,rfl⟩
 have c1:=(cellText_ev W H xs (by omega) n hb hp k (by omega)).1
 have i1:=(isCell_ev W H xs (by omega) n hb k (by omega)).1
 have hj:=law_j0 d hd k (by omega)
 have hne:=cellOf_ne (b:=b) (W:=W) (len:=xs.length) (n:=n)
 refine⟨k,?_⟩
 simp only[laws_FnTexts.f,laws_big.f,hbig,decide_false,Option.bind_some,Bool.false_eq_true,if_false,spec_DrawCellText.f,h1 k (by omega),c1,i1,hne,bne_self_eq_false]
 by_cases t:(cellOf b W xs.length n).toList=([]:List UInt8)
 ·rw[if_pos t]
  exact hj
 ·have hc:(b && decide (0≤n∧n≤(xs.length:Int)-1))=true:=by rw[←hne,bne_iff_ne];exact t
  have hn0:=hc
  simp only[Bool.and_eq_true,decide_eq_true_eq] at hn0
  obtain⟨r,r1,r2,r3⟩:=parse_loop W H xs (by omega) (cellOf b W xs.length n) hb hp xs.length 0 (by omega) (by omega)
  have r4:impl_ParseCell.f k W H xs (cellOf b W xs.length n)=some r:=r3 k (by omega)
  have r5:=r1.resolve_left (r2 n hn0.2.1 hc rfl)
  have r6:r=n:=cellOf_inj hp r5.1 hc r5.2
  rw[if_neg t,r4,Option.bind_some,r6,bne_self_eq_false]
  exact hj

end Go.Proofs.YtjbbmeldcoghbaaDoor.Pure
