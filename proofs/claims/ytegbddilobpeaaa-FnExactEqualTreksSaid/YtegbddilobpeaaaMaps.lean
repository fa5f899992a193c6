/- Sets of whole numbers kept as maps from int to bool that hold true alone: what a store, a look-up and a step of a range loop do to them. For every program; no further condition. -/
import Derived.Maps.OwnOps
import Derived.Maps.RangeWalk
import Derived.Below
namespace Go.Proofs.YtegbddilobpeaaaW.Sets
open Go Go.Maps
set_option linter.unusedVariables false

/-- The map D holds true at the keys of S, and nothing else. -/
def EL {H : Type} (D : DataW H) (S : Int → Bool) : Prop := IsMap D ∧ ∀ x, (Lit.int .i64 x).wf = true → ∀ zd, D.atKey (.int .i64 x) zd = if S x = true then .lit (.bool true) else zd

theorem el_empty {H : Type} : EL (DataW.map [] : DataW H) (fun _ => false) := ⟨isMap_empty, fun x _ zd => by simp [DataW.atKey]⟩
theorem el_congr {H : Type} {D : DataW H} {S S' : Int → Bool} (h : EL D S) (e : ∀ x, S x = S' x) : EL D S' := by
  have : S = S' := funext e
  rw [← this]; exact h
theorem el_put {H : Type} {D : DataW H} {S : Int → Bool} (h : EL D S) {a : Int} (ha : (Lit.int .i64 a).wf = true) : EL (D.put (.int .i64 a) (.lit (.bool true))) (fun x => S x || x == a) := by
  refine ⟨h.1.put _ _, fun x hx zd => ?_⟩
  by_cases e : x = a
  · subst e; rw [atKey_put_same h.1 (show WideAt.IsKeyLit (.int .i64 x) from trivial)]; simp
  · rw [atKey_put_other (by intro c; cases c; exact e rfl), h.2 x hx]; simp [e]
theorem el_in {H : Type} {D : DataW H} {S : Int → Bool} (h : EL D S) {x : Int} (hx : (Lit.int .i64 x).wf = true) {y : DataW H} (hat : ∀ zd, D.atKey (.int .i64 x) zd = y) : S x = true := by
  cases hs : S x with
  | true => rfl
  | false =>
    have h1 := (hat (.lit (.bool true))).symm.trans (h.2 x hx _)
    have h2 := (hat (.lit (.bool false))).symm.trans (h.2 x hx _)
    rw [hs, if_neg (by decide)] at h1 h2
    rw [h1] at h2
    cases h2
theorem el_has {H : Type} {D : DataW H} {S : Int → Bool} (h : EL D S) {x : Int} (hx : (Lit.int .i64 x).wf = true) (hs : S x = true) : has D (.int .i64 x) = true :=
  has_true_of_atKey (y := .lit (.bool true)) (fun z => by rw [h.2 x hx, if_pos hs])

theorem plainElem_bool_inv {H : Type} {P : Program} {e : TypeId} (he : P.underlying e = some .bool) {v : Value} {z : DataW H × List MemPlace} (h : plainElem P e v = some z) : ∃ b, v = .bool b ∧ z = (.lit (.bool b), []) := by
  unfold plainElem at h
  rw [he] at h
  cases v <;> simp at h
  exact ⟨_, rfl, h.symm⟩

/-- m[k] at elements of type bool. -/
theorem wpList_lookup_own_bool {H : Type} {P : Program} (w : World) {ops : Array Oper} {rest : List Oper} {o : Oper} {a : Act} {Q : Exit → Act → World → Prop}
    (hg : o.guard = none) (m x : Operand) (t : TypeId) (hop : o.op = Op.lookup t m x false)
    (k e : TypeId) (K : Keyed P k) (ht : P.underlying t = some (.map k e)) (he : P.underlying e = some .bool) (hz : (zeroValue e).run P w = .ok (.bool false) w) (b n : Nat) (D : DataW H)
    (hm : a.eval m = .map (some b)) (hown : w.ownsMap P k (plainElem P e) b n D) (key : Value) (kl : Lit) (hx : a.eval x = key) (hkey : keyOf P k key = some kl)
    (hK : ∀ c : Bool, D.atKey kl (.lit (.bool false)) = .lit (.bool c) → wpList P ops Q rest (a.put o.dst (.bool c)) w) :
    wpList P ops Q (o :: rest) a w := by
  refine wpList_plain hg fun K' hK' => ?_
  obtain ⟨v, ps, hrun, hv⟩ := hown.lookup K ht hz (plainElem_bool he false) hkey
  obtain ⟨c, rfl, hc⟩ := plainElem_bool_inv he hv
  simp only [Prod.mk.injEq] at hc
  unfold Oper.wp
  simp [execOp, hop, hm, hx, hrun, Result.andThen]
  exact hK' _ _ (hK c hc.1)

/-- A composite literal's entry: a store into the map that has just been made. -/
theorem wpList_insert_own {H : Type} {P : Program} (w : World) {ops : Array Oper} {rest : List Oper} {o : Oper} {a : Act} {Q : Exit → Act → World → Prop}
    (hg : o.guard = none) (m x v : Operand) (t : TypeId) (hop : o.op = Op.insert t m x v)
    (k e : TypeId) (K : Keyed P k) (ht : P.underlying t = some (.map k e)) (R : Value → Option (DataW H × List MemPlace)) (b n : Nat) (D : DataW H)
    (hm : a.eval m = .map (some b)) (hown : w.ownsMap P k R b n D) (hn : n < maxLen) (key val : Value) (kl : Lit) (hx : a.eval x = key) (hv : a.eval v = val) (hkey : keyOf P k key = some kl)
    (d : DataW H) (ps : List MemPlace) (hval : R val = some (d, ps))
    (hK : ∀ w', w'.ownsMap P k R b (n + 1) (D.put kl d) → w.grownBy w' (some b) → wpList P ops Q rest (a.put o.dst undef) w') :
    wpList P ops Q (o :: rest) a w := by
  refine wpList_plain hg fun K' hK' => ?_
  obtain ⟨w', hrun, r1, r2⟩ := hown.update K ht hn hkey hval
  unfold Oper.wp
  simp [execOp, hop, hm, hx, hv, hrun, Result.andThen]
  exact hK' _ _ (hK w' r1 r2)

/-- The step of a range loop over a map keyed by int; the element is told as it is read. -/
theorem wpList_next_ranges_ib {H : Type} {P : Program} (w : World) {ops : Array Oper} {rest : List Oper} {o : Oper} {a : Act} {Q : Exit → Act → World → Prop}
    (hg : o.guard = none) (it : Operand) (hop : o.op = Op.next it false) (k : TypeId) (K : Keyed P k) (R : Value → Option (DataW H × List MemPlace)) (hk : P.underlying k = some (.int .i64))
    (b r n : Nat) (D : DataW H) (left : Lit → Bool) (cnt : Nat) (hit : a.eval it = .pointer (some ⟨r, 0, none⟩)) (h : w.ranges P k R b r n D left cnt)
    (hDone : cnt = 0 → (∀ kl, left kl = false) → wpList P ops Q rest (a.put o.dst (.tuple #[.bool false])) w)
    (hMore : ∀ (x : Int) (c : Value) (y : DataW H) (w' : World) (cnt' : Nat), (Lit.int .i64 x).wf = true → left (.int .i64 x) = true → (∀ zd, D.atKey (.int .i64 x) zd = y) → w'.ranges P k R b r n D (fun z => left z && !z.sameKey (.int .i64 x)) cnt' → cnt' < cnt →
      w.grownBy w' (some r) → w'.heap.size = w.heap.size → (Instr.entry (.pointer (some ⟨r, 0, none⟩))).run P w' = .ok (.tuple #[.int .i64 x, c]) w' → wpList P ops Q rest (a.put o.dst (.tuple #[.bool true, .int .i64 x, c])) w') :
    wpList P ops Q (o :: rest) a w :=
  wpList_next_ranges w hg it hop k K R (Value.int .i64) (fun v : Value => v) (fun key kl hkey => by obtain ⟨x, rfl, _⟩ := keyOf_int_inv hk hkey; exact ⟨x, rfl⟩) (fun v y _ => ⟨v, rfl⟩)
    b r n D left cnt hit h hDone (fun x c kl y w' cnt' hkey hlk hv hat hrg hlt hgr hsz hen => by
      obtain ⟨x', ex, rfl, hwx⟩ := keyOf_int_inv hk hkey
      cases ex
      exact hMore x c y.1 w' cnt' hwx hlk hat hrg hlt hgr hsz hen)

/-- What a round over the entry x adds: x and x + v. 'left' says which entries are still to come. -/
def Gone (S : Int → Bool) (left : Lit → Bool) (v : Int) : Int → Bool := fun z => (S z && !left (.int .i64 z)) || (S (z - v) && !left (.int .i64 (z - v)))
theorem same_i64 (x y : Int) : (Lit.int .i64 y).sameKey (.int .i64 x) = (y == x) := by
  by_cases e : y = x
  · subst e; simp [Lit.sameKey]
  · rw [sameKey_ne (by intro c; cases c; exact e rfl)]; simp [e]
theorem gone_step (S : Int → Bool) (left : Lit → Bool) (v x : Int) (hs : S x = true) (z : Int) : ((Gone S left v z || z == x) || z == x + v) = Gone S (fun k => left k && !k.sameKey (.int .i64 x)) v z := by
  unfold Gone
  simp only [same_i64]
  by_cases e : z = x
  · subst e; simp [hs]
  · by_cases e2 : z = x + v
    · have e3 : z - v = x := by omega
      rw [e3]; simp [hs, e2]
    · have q1 : (z == x) = false := beq_eq_false_iff_ne.mpr e
      have q2 : (z == x + v) = false := beq_eq_false_iff_ne.mpr e2
      have q3 : (z - v == x) = false := beq_eq_false_iff_ne.mpr (by omega)
      simp only [q1, q2, q3, Bool.not_false, Bool.and_true, Bool.or_false]
theorem gone_start {H : Type} {D : DataW H} {S : Int → Bool} (h : EL D S) (hb : ∀ x, S x = true → (Lit.int .i64 x).wf = true) (v z : Int) : Gone S (has D) v z = false := by
  unfold Gone
  have h1 : ∀ x, (S x && !has D (.int .i64 x)) = false := fun x => by
    cases hs : S x with
    | false => rfl
    | true => rw [el_has h (hb x hs) hs]; rfl
  rw [h1, h1]; rfl
theorem gone_end (S : Int → Bool) (left : Lit → Bool) (h : ∀ kl, left kl = false) (v z : Int) : Gone S left v z = (S z || S (z - v)) := by
  unfold Gone; rw [h, h]; simp
end Go.Proofs.YtegbddilobpeaaaW.Sets
