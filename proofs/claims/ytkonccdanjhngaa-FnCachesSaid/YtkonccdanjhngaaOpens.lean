/- A value that can be read as data has cells that are of its kind: integers, bools, slices, structs, nested. For every program and type; no further condition. -/
import Derived.Deep.Slices
import Derived.ChangeArms
import Derived.Carry
import Derived.Test.YtkonccdanjhngaaWMore
namespace Go.Proofs.YtkonccdanjhngaaW.y0o
open Go.Proofs.YtkonccdanjhngaaW.PrintWords
set_option linter.unusedVariables false

/-- What is read as a value of type t is of kind d, and satisfies f. -/
def y0o {a:Type} (P:Program) (t:TypeId) (d:Kd a) (f:a→Prop):Prop :=
  ∀ (H:Type) (enc:TypeId × Value→H) (W:World) (fuel:Nat) (cs:List Value) (x:DataW H × List MemPlace),
    DataW.trod enc P W 0 (fun _=>true) true fuel t cs=some x→∃ y,d.K W y cs∧f y

theorem opens_int {P:Program} {t:TypeId} {k:IntKind} (ht:P.underlying t=some (.int k)):y0o P t (Kd.int k) (fun x=>(Lit.int k x).wf=true):=by
  intro H enc W fuel cs x h
  obtain⟨n,rfl,_,hw⟩:=DataW.trod_int ht h
  exact⟨n,rfl,hw⟩

theorem opens_bool {P:Program} {t:TypeId} (ht:P.underlying t=some .bool):y0o P t Kd.bool (fun _=>True):=by
  intro H enc W fuel cs x h
  obtain⟨n,rfl,_⟩:=DataW.trod_bool ht h
  exact⟨n,rfl,trivial⟩

theorem opens_slice {a:Type} {P:Program} {t e:TypeId} {d:Kd a} {f:a→Prop} (ht:P.underlying t=some (.slice e)) (hs:P.cellsOf e=d.sz) (h0:y0o P e d f) :
    y0o P t (Kd.slice e d) (fun xs=>xs.length≤maxLen∧∀ x∈xs,f x):=by
  intro H enc W fuel cs x h
  rcases Go.Deep.open_slice ht h with ⟨rfl,_⟩|⟨ad,len,cap,m,n,D,Pl,rfl,_,hl,hm,hmm,rfl,hx⟩
  · exact⟨[],⟨none,0,rfl,Nat.le_refl _,rfl,by simp,fun h=>absurd h (by simp)⟩,by simp,by simp⟩
  · have hm':m=cap:=by simpa using hmm
    subst hm'
    have h1:∀ i,i<len→∃ y:a,∃ c:List Value,W.cells? 0 (ad.add (i * P.cellsOf e)) (P.cellsOf e)=some c∧d.K W y c∧f y:=by
      intro i hi
      obtain⟨c,hc,ht2⟩:=hx i (by omega)
      obtain⟨y,hy,hf⟩:=h0 H enc W n c _ ht2
      exact⟨y,c,hc,hy,hf⟩
    have h2:∃ xs:List a,xs.length=len∧∀ i y,xs[i]?=some y→∃ c:List Value,W.cells? 0 (ad.add (i * P.cellsOf e)) (P.cellsOf e)=some c∧d.K W y c∧f y:=by
      clear hx h hl hmm
      induction len with
      |zero=>exact⟨[],rfl,fun i y hy=>by simp at hy⟩
      |succ len ih =>
        obtain⟨xs,hxl,hxs⟩:=ih (fun i hi=>h1 i (by omega))
        obtain⟨y,c,hc⟩:=h1 len (by omega)
        refine⟨xs++[y],by simp[hxl],fun i z hz=>?_⟩
        rcases Nat.lt_or_ge i xs.length with hi|hi
        · rw[List.getElem?_append_left hi] at hz
          exact hxs i z hz
        · rw[List.getElem?_append_right hi] at hz
          have h3:i=len:=by
            rcases Nat.lt_or_ge (i-xs.length) 1 with h4|h4
            · omega
            · rw[List.getElem?_eq_none (by simpa using h4)] at hz;cases hz
          subst h3
          have h4:z=y:=by rw[hxl] at hz;simpa using hz.symm
          subst h4
          exact⟨c,hc⟩
    obtain⟨xs,rfl,hxs⟩:=h2
    refine⟨xs,⟨some ad,m,rfl,hl,rfl,by simp only[maxLen] at hm;omega,fun _=>⟨ad,rfl,fun j p hp=>?_⟩⟩,by omega,fun y hy=>?_⟩
    · obtain⟨c,hc,hk,_⟩:=hxs j p hp
      obtain⟨_,hlen,hcell⟩:=World.cells?_some hc
      refine⟨c,by rw[hlen,hs],hk,fun i u hu=>?_⟩
      have hi:i<P.cellsOf e:=by rw[←hlen];exact(List.getElem?_eq_some_iff.1 hu).1
      have h5:=hcell i hi
      rw[Go.Deep.add_add,hs] at h5
      rw[h5];exact hu
    · obtain⟨i,hi,rfl⟩:=List.getElem_of_mem hy
      obtain⟨c,_,_,hf⟩:=hxs i _ (List.getElem?_eq_getElem hi)
      exact hf

/-- .. the fields of a struct from cell o on. -/
def OpensF {a:Type} (P:Program) (o:Nat) (fs:List Field) (d:Kd a) (f:a→Prop):Prop :=
  ∀ (H:Type) (enc:TypeId × Value→H) (W:World) (fuel:Nat) (cs:List Value),cs.length=o+d.sz →
    (∀ g∈fs,∃ x,DataW.trod enc P W 0 (fun _=>true) true fuel g.type ((cs.drop g.offset).take (P.cellsOf g.type))=some x)→∃ y,d.K W y (cs.drop o)∧f y

theorem opensF_one {a:Type} {P:Program} {o:Nat} {g:Field} {d:Kd a} {f:a→Prop} (ho:g.offset=o) (hs:P.cellsOf g.type=d.sz) (h0:y0o P g.type d f):OpensF P o [g] d f:=by
  intro H enc W fuel cs hl hx
  obtain⟨x,hx⟩:=hx g (by simp)
  obtain⟨y,hy,hf⟩:=h0 H enc W fuel _ x hx
  refine⟨y,?_,hf⟩
  rw[ho,hs,List.take_of_length_le (by rw[List.length_drop];omega)] at hy
  exact hy

theorem opensF_cons {a b:Type} {P:Program} {o:Nat} {g:Field} {fs:List Field} {d:Kd a} {d2:Kd b} {f:a→Prop} {f2:b→Prop} (ho:g.offset=o) (hs:P.cellsOf g.type=d.sz) (h0:y0o P g.type d f) (h1:OpensF P (o+d.sz) fs d2 f2) :
    OpensF P o (g :: fs) (Kd.pair d d2) (fun y=>f y.1∧f2 y.2):=by
  intro H enc W fuel cs hl hx
  have hl':cs.length=o+(d.sz+d2.sz):=hl
  obtain⟨x,hx0⟩:=hx g (by simp)
  obtain⟨y,hy,hf⟩:=h0 H enc W fuel _ x hx0
  obtain⟨z,hz,hf2⟩:=h1 H enc W fuel cs (by omega) (fun g' hg'=>hx g' (List.mem_cons_of_mem _ hg'))
  rw[ho,hs] at hy
  refine⟨(y,z),⟨(cs.drop o).take d.sz,cs.drop (o+d.sz),?_,hy,hz⟩,hf,hf2⟩
  rw[←List.drop_drop,List.take_append_drop]

theorem opens_struct {a b:Type} {P:Program} {t:TypeId} {fs:Array Field} {d:Kd a} {f:a→Prop} (F:b→a) (G:a→b) (hFG:∀ z,F (G z)=z) (ht:P.underlying t=some (.struct fs)) (hs:P.cellsOf t=d.sz) (h0:OpensF P 0 fs.toList d f) :
    y0o P t (Kd.iso d F) (fun y=>f (F y)):=by
  intro H enc W fuel cs x h
  obtain⟨xs,n,rfl,_,hl,hxl,hx⟩:=DataW.trod_struct ht h
  obtain⟨y,hy,hf⟩:=h0 H enc W n cs (by omega) (fun g hg=>by
    obtain⟨i,hi,rfl⟩:=List.getElem_of_mem hg
    have hi':i<fs.size:=by simpa using hi
    have:=hx i fs[i] (by simp[hi'])
    have h2:i<xs.length:=by omega
    exact⟨xs[i],by rw[List.getElem?_eq_getElem h2] at this;simpa using this⟩)
  exact⟨G y,by show d.K W (F (G y)) cs;rw[hFG];simpa using hy,by show f (F (G y));rw[hFG];exact hf⟩

/-- An argument. -/
theorem opens_arg {a:Type} {P:Program} {t:TypeId} {d:Kd a} {f:a→Prop} (h0:y0o P t d f) {H:Type} {enc:TypeId × Value→H} {W:World} {v:Value} {x:DataW H} {ps:List MemPlace}
    (h:DataW.Trod enc P W 0 (fun _=>true) true t v x ps):∃ y,d.K W y v.cells.toList∧f y:=by
  obtain⟨fuel,h⟩:=h
  exact h0 H enc W fuel _ _ h

end Go.Proofs.YtkonccdanjhngaaW.y0o
