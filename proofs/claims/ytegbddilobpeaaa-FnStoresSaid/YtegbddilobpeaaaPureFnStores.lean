/- For every text of at most 2^20 bytes from which stocks, a thing and a number are drawn (longer ones the statement lets pass): what is lent leaves the store and is on its way, what is given back comes back, what is lost is gone, the stocks stay stocks, and no call alters how many stocks there are. No further condition. -/
import Derived.Test.YtegbddilobpeaaaSFnStores
namespace Go.Proofs.Ytegbddilobpeaaa.Pure
open Go.RowKit Go.Proofs.Ytegbddilobpeaaa.Q Go.Proofs.YtegbddilobpeaaaW.PrintWords Go.Proofs.YtegbddilobpeaaaW.PrintLast Go.Proofs.YtegbddilobpeaaaW.PrintMore
set_option linter.unusedVariables false
set_option linter.unusedSimpArgs false

theorem ext_getD {α : Type} {d : α} {a b : List α} (h : a.length = b.length) (hj : ∀ j, j < a.length → a.getD j d = b.getD j d) : a = b := by
  apply List.ext_getElem h
  intro j h1 h2
  have := hj j h1
  simpa [List.getD_eq_getElem?_getD, List.getElem?_eq_getElem h1, List.getElem?_eq_getElem h2] using this

theorem getD_set {α : Type} {d : α} (a : List α) (i j : Nat) (v : α) (h : i < a.length) : (a.set i v).getD j d = if i = j then v else a.getD j d := by
  simp only [List.getD_eq_getElem?_getD, List.getElem?_set]
  by_cases e : i = j
  · subst e; simp [h]
  · simp [e]

theorem wrap_small {i : Int} {n : Nat} (h0 : 0 ≤ i) (h : i < (n : Int)) (hn : n ≤ 1048576) : wrap64 (i + 1) = i + 1 := by
  unfold wrap64; omega

theorem l1In_eq (a b c : Int) : spec_l1In.f a b c = some (decide (b ≤ a ∧ a ≤ c)) := by
  unfold spec_l1In.f
  by_cases h : a ≥ b
  · rw [if_pos h]; congr 1; have : b ≤ a := h; simp [this]
  · rw [if_neg h]; have : ¬ b ≤ a := h; simp [this]
theorem inRange_eq (a b c : Int) : impl_InRange.f a b c = some (decide (b ≤ a ∧ a ≤ c)) := by
  unfold impl_InRange.f
  by_cases h : b ≤ a
  · rw [if_pos h]; simp [h]
  · rw [if_neg h]; simp [h]

def okStock (l : List S110) (i : Int) : Prop :=
  1 ≤ (rd_T110 l i).f0 ∧ (rd_T110 l i).f0 ≤ 20 ∧ 0 ≤ (rd_T110 l i).f1 ∧ (rd_T110 l i).f1 ≤ 1000 ∧ 0 ≤ (rd_T110 l i).f2 ∧ (rd_T110 l i).f2 ≤ (rd_T110 l i).f1 ∧
    (0 < i → (rd_T110 l (i - 1)).f0 < (rd_T110 l i).f0)
instance (l : List S110) (i : Int) : Decidable (okStock l i) := by unfold okStock; exact inferInstance

theorem wrap_pred {i : Int} {n : Nat} (h0 : 0 ≤ i) (h : i ≤ (n : Int)) (hn : n ≤ 1048576) : wrap64 (i - 1) = i - 1 := by
  unfold wrap64; omega

theorem specStocks_step (l : List S110) (hn : l.length ≤ 1048576) (k : Nat) (i : Int) (h0 : 0 ≤ i) (hlt : i < (l.length : Int)) :
    spec_AreStocks.l0 (k + 1) l i = if okStock l i then spec_AreStocks.l0 k l (i + 1) else some false := by
  simp only [spec_AreStocks.l0, l1In_eq, Option.bind_some, decide_eq_true_eq, wrap_small (n := l.length) h0 hlt hn, wrap_pred (n := l.length) h0 (Int.le_of_lt hlt) hn, if_pos hlt, if_pos h0]
  by_cases hok : okStock l i
  · rw [if_pos hok]; unfold okStock at hok
    repeat' split
    all_goals first | rfl | (exfalso; omega)
  · rw [if_neg hok]; unfold okStock at hok
    repeat' split
    all_goals first | rfl | (exfalso; omega)

theorem implStocks_step (l : List S110) (hn : l.length ≤ 1048576) (k : Nat) (i : Int) (h0 : 0 ≤ i) (hlt : i < (l.length : Int)) :
    impl_AreStocks.l0 (k + 1) l l (l.length : Int) i = if okStock l i then impl_AreStocks.l0 k l l (l.length : Int) (i + 1) else some false := by
  simp only [impl_AreStocks.l0, inRange_eq, Option.bind_some, decide_eq_true_eq, wrap_small (n := l.length) h0 hlt hn, wrap_pred (n := l.length) h0 (Int.le_of_lt hlt) hn, if_pos hlt, if_pos h0]
  by_cases hok : okStock l i
  · rw [if_pos hok]; unfold okStock at hok
    repeat' split
    all_goals first | rfl | (exfalso; omega)
  · rw [if_neg hok]; unfold okStock at hok
    repeat' split
    all_goals first | rfl | (exfalso; omega)

theorem stocks_loop (l : List S110) (hn : l.length ≤ 1048576) : ∀ (d k : Nat) (i : Int), 0 ≤ i → (l.length : Int) - i = d → d < k →
    ∃ r, spec_AreStocks.l0 k l i = some r ∧ impl_AreStocks.l0 k l l (l.length : Int) i = some r ∧ (r = true ↔ ∀ j : Int, i ≤ j → j < l.length → okStock l j) := by
  intro d
  induction d with
  | zero =>
    intro k i h0 hd hk
    obtain ⟨k, rfl⟩ : ∃ m, k = m + 1 := ⟨k - 1, by omega⟩
    simp only [spec_AreStocks.l0, impl_AreStocks.l0]
    rw [if_neg (by omega), if_neg (by omega)]
    exact ⟨true, rfl, rfl, by simp; intro j h1 h2; omega⟩
  | succ d ih =>
    intro k i h0 hd hk
    obtain ⟨k, rfl⟩ : ∃ m, k = m + 1 := ⟨k - 1, by omega⟩
    rw [specStocks_step l hn k i h0 (by omega), implStocks_step l hn k i h0 (by omega)]
    by_cases hok : okStock l i
    · rw [if_pos hok, if_pos hok]
      obtain ⟨r, h1, h2, h3⟩ := ih k (i + 1) (by omega) (by omega) (by omega)
      refine ⟨r, h1, h2, ?_⟩
      rw [h3]
      constructor
      · intro h j hj hjl
        by_cases e : j = i
        · rw [e]; exact hok
        · exact h j (by omega) hjl
      · intro h j hj hjl; exact h j (by omega) hjl
    · rw [if_neg hok, if_neg hok]
      refine ⟨false, rfl, rfl, ?_⟩
      constructor
      · intro h; cases h
      · intro h; exact absurd (h i (by omega) (by omega)) hok

def Stocks (l : List S110) : Prop := ∀ j : Int, 0 ≤ j → j < l.length → okStock l j
theorem areStocks_ev (l : List S110) (hn : l.length ≤ 1048576) : ∃ r, (r = true ↔ Stocks l) ∧ ∀ k, l.length < k → spec_AreStocks.f k l = some r ∧ impl_AreStocks.f k l = some r := by
  obtain ⟨r, _, _, h3⟩ := stocks_loop l hn l.length (l.length + 1) 0 (by omega) (by omega) (by omega)
  refine ⟨r, h3, fun k hk => ?_⟩
  obtain ⟨r', h1, h2, h4⟩ := stocks_loop l hn l.length k 0 (by omega) (by omega) hk
  have : r' = r := by rw [Bool.eq_iff_iff, h4, h3]
  subst this
  exact ⟨h1, h2⟩

def fndL (t : Int) : Int → List S110 → Int
  | _, [] => -1
  | i, x :: xs => if x.f0 = t then i else fndL t (i + 1) xs
theorem fndL_range (t : Int) : ∀ (xs : List S110) (i : Int), fndL t i xs = -1 ∨ (i ≤ fndL t i xs ∧ fndL t i xs < i + xs.length)
  | [], i => .inl rfl
  | x :: xs, i => by
    unfold fndL
    by_cases e : x.f0 = t
    · rw [if_pos e]; right; simp only [List.length_cons]; omega
    · rw [if_neg e]
      rcases fndL_range t xs (i + 1) with h | h
      · exact .inl h
      · right; simp only [List.length_cons]; omega

theorem drop_step2 {α : Type} (d : α) (l : List α) (i : Int) (h0 : 0 ≤ i) (h : i < (l.length : Int)) : l.drop i.toNat = l.getD i.toNat d :: l.drop (i + 1).toNat := by
  have h1 : i.toNat < l.length := by omega
  rw [List.drop_eq_getElem_cons h1, show (i + 1).toNat = i.toNat + 1 by omega]
  congr 1
  simp [List.getD_eq_getElem?_getD, List.getElem?_eq_getElem h1]

theorem find_yes (l : List S110) (t : Int) (hn : l.length ≤ 1048576) (hb : ∀ k, l.length < k → spec_AreStocks.f k l = some true ∧ impl_AreStocks.f k l = some true) : ∀ (d k : Nat) (i : Int), 0 ≤ i → (l.length : Int) - i = d → 2 * d + l.length + 2 < k →
    spec_l30Find.l0 k l t i = some (fndL t i (l.drop i.toNat)) ∧ impl_stockOf.l0 k l t l (l.length : Int) i = some (fndL t i (l.drop i.toNat)) := by
  intro d
  induction d with
  | zero =>
    intro k i h0 hd hk
    obtain ⟨k, rfl⟩ : ∃ m, k = m + 2 := ⟨k - 2, by omega⟩
    simp only [spec_l30Find.l0, spec_l30Find.j1, impl_stockOf.l0]
    rw [if_neg (by omega), if_neg (by simp), if_neg (by omega), List.drop_eq_nil_of_le (by omega)]
    exact ⟨rfl, rfl⟩
  | succ d ih =>
    intro k i h0 hd hk
    obtain ⟨k, rfl⟩ : ∃ m, k = m + 2 := ⟨k - 2, by omega⟩
    have hlt : i < (l.length : Int) := by omega
    obtain ⟨h1, h2⟩ := ih k (i + 1) (by omega) (by omega) (by omega)
    obtain ⟨_, h3⟩ := ih (k + 1) (i + 1) (by omega) (by omega) (by omega)
    simp only [spec_l30Find.l0, spec_l30Find.j1, impl_stockOf.l0, (hb (k + 1) (by omega)).1, (hb (k + 1) (by omega)).2, Option.bind_some, if_pos hlt, if_pos h0, if_true, wrap_small (n := l.length) h0 hlt hn]
    rw [drop_step2 z110 l i h0 hlt, show l.getD i.toNat z110 = rd_T110 l i from rfl]
    unfold fndL
    by_cases e : (rd_T110 l i).f0 = t
    · simp only [if_pos e]; exact ⟨trivial, trivial⟩
    · simp only [if_neg e]; exact ⟨h1, h3⟩

theorem find_no (l : List S110) (t : Int) (hn : l.length ≤ 1048576) (hb : ∀ k, l.length < k → impl_AreStocks.f k l = some false) : ∀ (d k : Nat) (i : Int), 0 ≤ i → (l.length : Int) - i = d → d + l.length < k →
    impl_stockOf.l0 k l t l (l.length : Int) i = some (-1) := by
  intro d
  induction d with
  | zero =>
    intro k i h0 hd hk
    obtain ⟨k, rfl⟩ : ∃ m, k = m + 1 := ⟨k - 1, by omega⟩
    simp only [impl_stockOf.l0]
    rw [if_neg (by omega)]
  | succ d ih =>
    intro k i h0 hd hk
    obtain ⟨k, rfl⟩ : ∃ m, k = m + 1 := ⟨k - 1, by omega⟩
    have hlt : i < (l.length : Int) := by omega
    simp only [impl_stockOf.l0, hb k (by omega), Option.bind_some, if_pos hlt, if_pos h0, wrap_small (n := l.length) h0 hlt hn]
    exact ih k (i + 1) (by omega) (by omega) (by omega)

theorem find_ev (l : List S110) (t : Int) (hn : l.length ≤ 1048576) : ∃ r, (r = -1 ∨ (0 ≤ r ∧ r < (l.length : Int) ∧ Stocks l)) ∧ ∀ k, 3 * l.length + 2 < k → spec_l30Find.f k l t = some r ∧ impl_stockOf.f k l t = some r := by
  obtain ⟨b, hs, hb⟩ := areStocks_ev l hn
  cases b with
  | true =>
    refine ⟨fndL t 0 l, ?_, fun k hk => ?_⟩
    · rcases fndL_range t l 0 with h | h
      · exact .inl h
      · exact .inr ⟨by omega, by omega, hs.1 rfl⟩
    · have := find_yes l t hn hb l.length k 0 (by omega) (by omega) (by omega)
      show spec_l30Find.l0 k l t 0 = _ ∧ impl_stockOf.l0 k l t l _ 0 = _
      simpa using this
  | false =>
    refine ⟨-1, .inl rfl, fun k hk => ⟨?_, find_no l t hn (fun k hk => (hb k hk).2) l.length k 0 (by omega) (by omega) (by omega)⟩⟩
    obtain ⟨k, rfl⟩ : ∃ m, k = m + 2 := ⟨k - 2, by omega⟩
    simp only [spec_l30Find.f, spec_l30Find.l0, spec_l30Find.j1, (hb (k + 1) (by omega)).1, Option.bind_some, Bool.false_eq_true, if_false, ite_self]

theorem rd_setS (l : List S110) (r : Int) (v : S110) (h0 : 0 ≤ r) (h : r < (l.length : Int)) : rd_T110 (l.set r.toNat v) r = v := by
  unfold rd_T110
  rw [getD_set _ _ _ _ (by omega), if_pos rfl]

theorem hasIn_ev (l : List S110) (t : Int) (hn : l.length ≤ 1048576) : ∃ v, ∀ k, 3 * l.length + 2 < k → spec_HasIn.f k l t = some v ∧ impl_HasIn.f k l t = some v := by
  obtain ⟨r, hr, hk⟩ := find_ev l t hn
  by_cases hneg : r < 0
  · refine ⟨0, fun k h => ?_⟩
    unfold spec_HasIn.f impl_HasIn.f
    simp only [(hk k h).1, (hk k h).2, Option.bind_some, if_pos hneg]
    exact ⟨trivial, trivial⟩
  · refine ⟨wrap64 ((rd_T110 l r).f1 - (rd_T110 l r).f2), fun k h => ?_⟩
    have h0 : 0 ≤ r := by omega
    have h1 : r < (l.length : Int) := by rcases hr with h | h <;> omega
    unfold spec_HasIn.f impl_HasIn.f
    simp only [(hk k h).1, (hk k h).2, Option.bind_some, if_neg hneg, if_pos h0, if_pos h1]
    exact ⟨trivial, trivial⟩

theorem outOf_ev (l : List S110) (t : Int) (k : Nat) (r : Int) (h : impl_stockOf.f k l t = some r) (h1 : r < (l.length : Int)) : impl_outOf.f k l t = some (if r < 0 then 0 else (rd_T110 l r).f2) := by
  unfold impl_outOf.f
  rw [h]; simp only [Option.bind_some]
  by_cases hneg : r < 0
  · simp only [if_pos hneg]
  · have h0 : 0 ≤ r := by omega
    simp only [if_neg hneg, if_pos h0, if_pos h1]

theorem allOut_no (l : List S110) (hn : l.length ≤ 1048576) (hb : ∀ k, l.length < k → impl_AreStocks.f k l = some false) : ∀ (d k : Nat) (acc i : Int), 0 ≤ i → (l.length : Int) - i = d → l.length + d < k → impl_AllOut.l0 k l acc l (l.length : Int) i = some acc := by
  intro d
  induction d with
  | zero =>
    intro k acc i h0 hd hk
    obtain ⟨k, rfl⟩ : ∃ m, k = m + 1 := ⟨k - 1, by omega⟩
    simp only [impl_AllOut.l0]
    rw [if_neg (by omega)]
  | succ d ih =>
    intro k acc i h0 hd hk
    obtain ⟨k, rfl⟩ : ∃ m, k = m + 1 := ⟨k - 1, by omega⟩
    have hlt : i < (l.length : Int) := by omega
    simp only [impl_AllOut.l0, hb k (by omega), Option.bind_some, if_pos hlt, if_pos h0, wrap_small (n := l.length) h0 hlt hn]
    exact ih k acc (i + 1) (by omega) (by omega) (by omega)

theorem wrapNat (n : Nat) (h : n ≤ 1073741823) : Go.IntKind.wrap .i64 (n : Int) = (n : Int) := by
  have e1 : (Go.IntKind.i64).bits = 64 := rfl
  have e2 : (Go.IntKind.i64).signed = true := rfl
  unfold Go.IntKind.wrap
  simp only [e1, e2, Bool.true_and, decide_eq_true_eq]
  have e3 : (2 : Int) ^ 64 = 18446744073709551616 := by decide
  have e4 : (2 : Int) ^ (64 - 1) = 9223372036854775808 := by decide
  rw [e3, e4, if_neg (by omega)]; omega
theorem and255 (x : Int) : 0 ≤ Go.bits .and .i64 x 255 ∧ Go.bits .and .i64 x 255 ≤ 255 := by
  have h : (BitVec.ofInt 64 x &&& BitVec.ofInt 64 255).toNat ≤ 255 := by
    rw [BitVec.toNat_and]; exact Nat.le_trans Nat.and_le_right (by decide)
  show 0 ≤ Go.IntKind.wrap .i64 ((BitVec.ofInt 64 x &&& BitVec.ofInt 64 255).toNat : Int) ∧ Go.IntKind.wrap .i64 ((BitVec.ofInt 64 x &&& BitVec.ofInt 64 255).toNat : Int) ≤ 255
  generalize (BitVec.ofInt 64 x &&& BitVec.ofInt 64 255).toNat = n at h ⊢
  rw [wrapNat n (by omega)]; omega
/-- A draw's state: its place is none below nought. -/
theorem byte_ev (d : List Int) (p s : Int) (hd : d.length ≤ 1048576) (hp : 0 ≤ p) (hp2 : p ≤ d.length) : ∃ v p' s', spec_l1Byte.f d p s = some (v, p', s') ∧ (0 ≤ v ∧ v ≤ 255) ∧ 0 ≤ p' ∧ p' ≤ d.length := by
  unfold spec_l1Byte.f
  by_cases h : p < (d.length : Int)
  · rw [if_pos h, if_pos hp]
    exact ⟨_, _, _, rfl, and255 _, by unfold wrap64; omega, by unfold wrap64; omega⟩
  · rw [if_neg h]
    exact ⟨_, _, _, rfl, and255 _, hp, hp2⟩
theorem tmod_range (x n : Int) (hx : 0 ≤ x) (hn : 0 < n) : 0 ≤ Int.tmod x n ∧ Int.tmod x n < n := by
  rw [Int.tmod_eq_emod_of_nonneg hx]
  exact ⟨Int.emod_nonneg _ (by omega), Int.emod_lt_of_pos _ hn⟩
theorem below_ev (d : List Int) (p s n : Int) (hd : d.length ≤ 1048576) (hp : 0 ≤ p) (hp2 : p ≤ d.length) : ∃ v p' s', spec_l1Below.f d p s n = some (v, p', s') ∧ (0 ≤ v ∧ (0 < n → v < n) ∧ (n ≤ 0 → v = 0)) ∧ 0 ≤ p' ∧ p' ≤ d.length := by
  unfold spec_l1Below.f
  by_cases h : n ≤ 0
  · rw [if_pos h]; exact ⟨0, p, s, rfl, ⟨by omega, by omega, by omega⟩, hp, hp2⟩
  · have hz : ¬ n = 0 := by omega
    rw [if_neg h]
    by_cases h2 : n ≤ 256
    · rw [if_pos h2]
      obtain ⟨v, p', s', hb, hv, hp', hp2'⟩ := byte_ev d p s hd hp hp2
      rw [hb]; simp only [Option.bind_some, if_neg hz]
      have := tmod_range v n hv.1 (by omega)
      exact ⟨_, _, _, rfl, ⟨this.1, fun _ => this.2, by omega⟩, hp', hp2'⟩
    · rw [if_neg h2]
      obtain ⟨v, p', s', hb, hv, hp', hp2'⟩ := byte_ev d p s hd hp hp2
      rw [hb]; simp only [Option.bind_some]
      obtain ⟨v2, p2, s2, hb2, hv2, hq, hq2⟩ := byte_ev d p' s' hd hp' hp2'
      rw [hb2]; simp only [Option.bind_some]
      obtain ⟨v3, p3, s3, hb3, hv3, hr, hr2⟩ := byte_ev d p2 s2 hd hq hq2
      rw [hb3]; simp only [Option.bind_some, if_neg hz]
      have := tmod_range (wrap64 (wrap64 (wrap64 (v * 65536) + wrap64 (v2 * 256)) + v3)) n (by unfold wrap64; omega) (by omega)
      exact ⟨_, _, _, rfl, ⟨this.1, fun _ => this.2, by omega⟩, hr, hr2⟩
theorem int_ev (d : List Int) (p s : Int) (l : List Int) (hl : 0 < l.length) (hd : d.length ≤ 1048576) (hp : 0 ≤ p) (hp2 : p ≤ d.length) : ∃ v p' s', spec_l1Int.f d p s l = some (v, p', s') ∧ v ∈ l ∧ 0 ≤ p' ∧ p' ≤ d.length := by
  unfold spec_l1Int.f
  obtain ⟨v, p', s', hb, hv, hp', hp2'⟩ := below_ev d p s (l.length : Int) hd hp hp2
  have h2 := hv.2.1 (by omega)
  rw [hb]; simp only [Option.bind_some, if_pos hv.1, if_pos h2]
  refine ⟨_, _, _, rfl, ?_, hp', hp2'⟩
  have h3 : v.toNat < l.length := by omega
  unfold rd
  simp [List.getD_eq_getElem?_getD, List.getElem?_eq_getElem h3]
theorem new_loop (d : List Int) (hd : d.length ≤ 1048576) : ∀ (e : Nat) (s i : Int), 0 ≤ i → (d.length : Int) - i ≤ e → ∃ s', ∀ k, e < k → spec_l1New.l0 k d s i = some (d, 0, s') := by
  intro e
  induction e with
  | zero =>
    intro s i h0 he
    refine ⟨s, fun k hk => ?_⟩
    obtain ⟨k, rfl⟩ : ∃ m, k = m + 1 := ⟨k - 1, by omega⟩
    simp only [spec_l1New.l0]
    rw [if_neg (by omega)]
  | succ e ih =>
    intro s i h0 he
    by_cases h : i < (d.length : Int) ∧ i < 4000
    · obtain ⟨s', hs⟩ := ih (Go.bits .and .i64 (wrap64 ((wrap64 ((wrap64 (s * 137)) + (wrap64 (rd d i)))) + 11)) 1073741823) (i + 1) (by omega) (by omega)
      refine ⟨s', fun k hk => ?_⟩
      obtain ⟨k, rfl⟩ : ∃ m, k = m + 1 := ⟨k - 1, by omega⟩
      simp only [spec_l1New.l0, if_pos h.1, if_pos h.2, if_pos h0, wrap_small (n := d.length) h0 h.1 hd]
      exact hs k (by omega)
    · refine ⟨s, fun k hk => ?_⟩
      obtain ⟨k, rfl⟩ : ∃ m, k = m + 1 := ⟨k - 1, by omega⟩
      simp only [spec_l1New.l0]
      by_cases h1 : i < (d.length : Int)
      · rw [if_pos h1, if_neg (fun h2 => h ⟨h1, h2⟩)]
      · rw [if_neg h1]
theorem new_ev (d : List Int) (hd : d.length ≤ 1048576) : ∃ s, ∀ k, d.length < k → spec_l1New.f k d = some (d, 0, s) :=
  new_loop d hd d.length _ 0 (by omega) (by omega)

abbrev SS := S110
theorem rdS_get (l : List SS) (i : Nat) (h : i < l.length) : rd_T110 l (i : Int) = l[i] := by
  unfold rd_T110
  simp [List.getD_eq_getElem?_getD, List.getElem?_eq_getElem h]
theorem rdS_set (l : List SS) (r : Nat) (v : SS) (i : Int) (h0 : 0 ≤ i) (hr : r < l.length) : rd_T110 (l.set r v) i = if i = (r : Int) then v else rd_T110 l i := by
  unfold rd_T110
  by_cases e : i = (r : Int)
  · rw [if_pos e]; subst e; simp [List.getD_eq_getElem?_getD, hr]
  · rw [if_neg e, List.getD_eq_getElem?_getD, List.getD_eq_getElem?_getD, List.getElem?_set_ne (by omega)]
theorem stocks_set (l : List SS) (r : Nat) (v : SS) (hr : r < l.length) (h : Stocks l) (h0 : v.f0 = (rd_T110 l r).f0) (h1 : 0 ≤ v.f2) (h2 : v.f2 ≤ v.f1) (h3 : v.f1 ≤ 1000) : Stocks (l.set r v) := by
  intro j hj hjl
  rw [List.length_set] at hjl
  have hk := h j hj hjl
  have hk2 : 0 < j → okStock l (j - 1) := fun hj0 => h (j - 1) (by omega) (by omega)
  have hrk := h (r : Int) (by omega) (by omega)
  unfold okStock at hk hrk ⊢
  rw [rdS_set l r v j hj hr]
  refine ⟨?_, ?_, ?_, ?_, ?_, ?_, fun hj0 => ?_⟩
  · split
    · rw [h0]; exact hrk.1
    · exact hk.1
  · split
    · rw [h0]; exact hrk.2.1
    · exact hk.2.1
  · split
    · omega
    · exact hk.2.2.1
  · split
    · exact h3
    · exact hk.2.2.2.1
  · split
    · exact h1
    · exact hk.2.2.2.2.1
  · split
    · exact h2
    · exact hk.2.2.2.2.2.1
  · rw [rdS_set l r v (j - 1) (by omega) hr]
    have hlt := hk.2.2.2.2.2.2 hj0
    by_cases e1 : j - 1 = (r : Int)
    · have e2 : ¬ j = (r : Int) := by omega
      rw [if_pos e1, if_neg e2, h0, ← e1]; exact hlt
    · rw [if_neg e1]
      by_cases e2 : j = (r : Int)
      · rw [if_pos e2, h0, ← e2]; exact hlt
      · rw [if_neg e2]; exact hlt
theorem fndL_set (t : Int) : ∀ (l : List SS) (i : Int) (r : Nat) (v : SS), (∀ h : r < l.length, v.f0 = l[r].f0) → fndL t i (l.set r v) = fndL t i l
  | [], i, r, v, _ => rfl
  | x :: xs, i, 0, v, h => by
    have := h (by simp)
    simp only [List.set_cons_zero, fndL, this, List.getElem_cons_zero]
  | x :: xs, i, r + 1, v, h => by
    simp only [List.set_cons_succ, fndL]
    rw [fndL_set t xs (i + 1) r v (fun hr => by have := h (by simp; omega); simpa using this)]
theorem fndL_hit (t : Int) : ∀ (xs : List SS) (i : Int), 0 ≤ i → 0 ≤ fndL t i xs → (xs.getD (fndL t i xs - i).toNat z110).f0 = t
  | [], i, _, h => by simp [fndL] at h
  | x :: xs, i, hi, h => by
    unfold fndL at h ⊢
    by_cases e : x.f0 = t
    · rw [if_pos e]; simpa using e
    · rw [if_neg e] at h ⊢
      have h1 := fndL_hit t xs (i + 1) (by omega) h
      rcases fndL_range t xs (i + 1) with h2 | h2
      · omega
      · rw [show (fndL t (i + 1) xs - i).toNat = (fndL t (i + 1) xs - (i + 1)).toNat + 1 by omega]
        simpa using h1
open Classical in
noncomputable def fnd (l : List SS) (t : Int) : Int := if Stocks l then fndL t 0 l else -1
theorem fnd_range (l : List SS) (t : Int) : fnd l t = -1 ∨ (0 ≤ fnd l t ∧ fnd l t < (l.length : Int) ∧ Stocks l) := by
  unfold fnd
  split
  · rename_i h
    rcases fndL_range t l 0 with h2 | h2
    · exact .inl h2
    · exact .inr ⟨by omega, by omega, h⟩
  · exact .inl rfl
theorem find_val (l : List SS) (t : Int) (hn : l.length ≤ 1048576) : ∀ k, 3 * l.length + 2 < k → spec_l30Find.f k l t = some (fnd l t) ∧ impl_stockOf.f k l t = some (fnd l t) := by
  obtain ⟨b, hs, hb⟩ := areStocks_ev l hn
  intro k hk
  unfold fnd
  cases b with
  | true =>
    rw [if_pos (hs.1 rfl)]
    have := find_yes l t hn hb l.length k 0 (by omega) (by omega) (by omega)
    show spec_l30Find.l0 k l t 0 = _ ∧ impl_stockOf.l0 k l t l _ 0 = _
    simpa using this
  | false =>
    rw [if_neg (fun h => by simpa using hs.2 h)]
    refine ⟨?_, find_no l t hn (fun k hk => (hb k hk).2) l.length k 0 (by omega) (by omega) (by omega)⟩
    obtain ⟨k, rfl⟩ : ∃ m, k = m + 2 := ⟨k - 2, by omega⟩
    simp only [spec_l30Find.f, spec_l30Find.l0, spec_l30Find.j1, (hb (k + 1) (by omega)).1, Option.bind_some, Bool.false_eq_true, if_false, ite_self]
noncomputable def hIn (l : List SS) (t : Int) : Int := if fnd l t < 0 then 0 else (rd_T110 l (fnd l t)).f1 - (rd_T110 l (fnd l t)).f2
theorem hasIn_val (l : List SS) (t : Int) (hn : l.length ≤ 1048576) : ∀ k, 3 * l.length + 2 < k → spec_HasIn.f k l t = some (hIn l t) ∧ impl_HasIn.f k l t = some (hIn l t) := by
  intro k h
  have hk := find_val l t hn k h
  have hr := fnd_range l t
  unfold hIn spec_HasIn.f impl_HasIn.f
  by_cases hneg : fnd l t < 0
  · simp only [hk.1, hk.2, Option.bind_some, if_pos hneg]
    exact ⟨trivial, trivial⟩
  · have h0 : 0 ≤ fnd l t := by omega
    have h1 : fnd l t < (l.length : Int) := by rcases hr with h | h <;> omega
    have hS : Stocks l := by rcases hr with h | h; omega; exact h.2.2
    have ok := hS _ h0 h1
    unfold okStock at ok
    have hw : wrap64 ((rd_T110 l (fnd l t)).f1 - (rd_T110 l (fnd l t)).f2) = (rd_T110 l (fnd l t)).f1 - (rd_T110 l (fnd l t)).f2 := by unfold wrap64; omega
    simp only [hk.1, hk.2, Option.bind_some, if_neg hneg, if_pos h0, if_pos h1, hw]
    exact ⟨trivial, trivial⟩
/-- A stock changed. -/
noncomputable def chg (l : List SS) (t c o : Int) : List SS := l.set (fnd l t).toNat ⟨(rd_T110 l (fnd l t)).f0, (rd_T110 l (fnd l t)).f1 + c, (rd_T110 l (fnd l t)).f2 + o⟩
theorem changed_val (l : List SS) (t n most c o : Int) (hn : l.length ≤ 1048576) (hb : 0 ≤ fnd l t → 1 ≤ n → n ≤ most → (-1000 ≤ c ∧ c ≤ 1000) ∧ (-1000 ≤ o ∧ o ≤ 1000)) : ∀ k, 3 * l.length + 2 < k → impl_changed.f k l t n most c o = some (if 0 ≤ fnd l t ∧ 1 ≤ n ∧ n ≤ most then (chg l t c o, true) else (l, false)) := by
  intro k h
  have hk := find_val l t hn k h
  have hr := fnd_range l t
  have hlen : l.length < 5864062014805 := by omega
  unfold impl_changed.f chg
  by_cases hneg : fnd l t < 0
  · rw [if_neg (fun h => absurd h.1 (by omega))]
    simp only [hk.1, hk.2, Option.bind_some, List.length_nil, List.nil_append, Nat.zero_add, if_pos hlen, if_pos hneg]
  have h0 : 0 ≤ fnd l t := by omega
  have h1 : fnd l t < (l.length : Int) := by rcases hr with h | h <;> omega
  have hS : Stocks l := by rcases hr with h | h; omega; exact h.2.2
  by_cases hin : 1 ≤ n ∧ n ≤ most
  · have ok := hS _ h0 h1
    obtain ⟨hc, ho⟩ := hb h0 hin.1 hin.2
    unfold okStock at ok
    have hw : wrap64 ((rd_T110 l (fnd l t)).f1 + c) = (rd_T110 l (fnd l t)).f1 + c := by unfold wrap64; omega
    have hw2 : wrap64 ((rd_T110 l (fnd l t)).f2 + o) = (rd_T110 l (fnd l t)).f2 + o := by unfold wrap64; omega
    rw [if_pos ⟨h0, hin.1, hin.2⟩]
    simp only [hk.1, hk.2, inRange_eq, hin, and_self, decide_true, Option.bind_some, List.length_nil, List.nil_append, Nat.zero_add, if_pos hlen, if_neg hneg, if_pos h0, if_pos h1, if_true]
    rw [rd_setS _ (fnd l t) _ h0 h1, hw, hw2]
    simp only [List.set_set]
  · rw [if_neg (fun h => hin ⟨h.2.1, h.2.2⟩)]
    simp only [hk.1, hk.2, inRange_eq, hin, decide_false, Option.bind_some, List.length_nil, List.nil_append, Nat.zero_add, if_pos hlen, if_neg hneg, Bool.false_eq_true, if_false]
theorem fnd_chg (l : List SS) (t c o : Int) (h0 : 0 ≤ fnd l t) (hok : Stocks (chg l t c o)) : fnd (chg l t c o) t = fnd l t := by
  have hr := fnd_range l t
  have hS : Stocks l := by rcases hr with h | h; omega; exact h.2.2
  have h1 : fnd l t < (l.length : Int) := by rcases hr with h | h <;> omega
  have e : fnd l t = fndL t 0 l := by unfold fnd; rw [if_pos hS]
  have e2 : fnd (chg l t c o) t = fndL t 0 (chg l t c o) := by unfold fnd; rw [if_pos hok]
  rw [e2]
  unfold chg
  rw [fndL_set, ← e]
  intro h
  have := rdS_get l (fnd l t).toNat h
  rw [show ((fnd l t).toNat : Int) = fnd l t by omega] at this
  simp only [this]
theorem rd_chg (l : List SS) (t c o : Int) (h0 : 0 ≤ fnd l t) (h1 : fnd l t < (l.length : Int)) : rd_T110 (chg l t c o) (fnd l t) = ⟨(rd_T110 l (fnd l t)).f0, (rd_T110 l (fnd l t)).f1 + c, (rd_T110 l (fnd l t)).f2 + o⟩ := by
  unfold chg
  rw [rd_setS _ _ _ h0 h1]
def sumOut : List SS → Int
  | [] => 0
  | x :: xs => x.f2 + sumOut xs
theorem sumOut_set : ∀ (l : List SS) (r : Nat) (v : SS) (h : r < l.length), sumOut (l.set r v) = sumOut l - l[r].f2 + v.f2
  | x :: xs, 0, v, h => by simp only [List.set_cons_zero, sumOut, List.getElem_cons_zero]; omega
  | x :: xs, r + 1, v, h => by
    have := sumOut_set xs r v (by simpa using h)
    simp only [List.set_cons_succ, sumOut, List.getElem_cons_succ, this]; omega
theorem sumOut_chg (l : List SS) (t c o : Int) (h0 : 0 ≤ fnd l t) (h1 : fnd l t < (l.length : Int)) : sumOut (chg l t c o) = sumOut l + o := by
  unfold chg
  rw [sumOut_set _ _ _ (by omega)]
  have := rdS_get l (fnd l t).toNat (by omega)
  rw [show ((fnd l t).toNat : Int) = fnd l t by omega] at this
  rw [this]
  have e : ∀ a b : Int, a - b + (b + o) = a + o := by intros; omega
  exact e _ _
theorem stocks_len (l : List SS) (h : Stocks l) : l.length ≤ 20 := by
  have hh : ∀ i : Nat, i < l.length → (i : Int) + 1 ≤ (rd_T110 l i).f0 := by
    intro i
    induction i with
    | zero => intro hi; have := h 0 (by omega) (by omega); unfold okStock at this; have := this.1; simpa using this
    | succ i ih =>
      intro hi
      have h1 := ih (by omega)
      have h2 := h ((i + 1 : Nat) : Int) (by omega) (by omega)
      unfold okStock at h2
      have h3 := h2.2.2.2.2.2.2 (by omega)
      rw [show ((i + 1 : Nat) : Int) - 1 = (i : Int) by omega] at h3
      omega
  by_cases hz : l.length ≤ 20
  · exact hz
  · exfalso
    have h1 := hh 20 (by omega)
    have h2 := h 20 (by omega) (by omega)
    unfold okStock at h2
    have := h2.2.1
    have h1' : (20 : Int) + 1 ≤ (rd_T110 l 20).f0 := h1
    omega
open Classical in
noncomputable def aOut (l : List SS) : Int := if Stocks l then sumOut l else 0
theorem allOut_sum (l : List SS) (hn : l.length ≤ 20) (hS : Stocks l) (hb : ∀ k, l.length < k → impl_AreStocks.f k l = some true) : ∀ (d k : Nat) (acc i : Int), 0 ≤ i → (l.length : Int) - i = d → l.length + d < k → 0 ≤ acc → acc + 1000 * d ≤ 100000 →
    impl_AllOut.l0 k l acc l (l.length : Int) i = some (acc + sumOut (l.drop i.toNat)) := by
  intro d
  induction d with
  | zero =>
    intro k acc i h0 hd hk _ _
    obtain ⟨k, rfl⟩ : ∃ m, k = m + 1 := ⟨k - 1, by omega⟩
    simp only [impl_AllOut.l0]
    rw [if_neg (by omega), List.drop_eq_nil_of_le (by omega)]
    simp [sumOut]
  | succ d ih =>
    intro k acc i h0 hd hk ha ha2
    obtain ⟨k, rfl⟩ : ∃ m, k = m + 1 := ⟨k - 1, by omega⟩
    have hlt : i < (l.length : Int) := by omega
    have ok := hS i h0 hlt
    unfold okStock at ok
    have hw : wrap64 (acc + (rd_T110 l i).f2) = acc + (rd_T110 l i).f2 := by unfold wrap64; omega
    simp only [impl_AllOut.l0, hb k (by omega), Option.bind_some, if_pos hlt, if_pos h0, if_true, hw, wrap_small (n := l.length) h0 hlt (by omega)]
    rw [ih k _ (i + 1) (by omega) (by omega) (by omega) (by omega) (by omega), drop_step2 z110 l i h0 hlt, show l.getD i.toNat z110 = rd_T110 l i from rfl]
    simp only [sumOut]; congr 1; omega
theorem allOut_val (l : List SS) (hn : l.length ≤ 1048576) : ∀ k, 2 * l.length < k → impl_AllOut.f k l = some (aOut l) := by
  intro k hk
  obtain ⟨b, hs, hb⟩ := areStocks_ev l hn
  unfold aOut
  cases b with
  | true =>
    have hS := hs.1 rfl
    rw [if_pos hS]
    have := allOut_sum l (stocks_len l hS) hS (fun k hk => (hb k hk).2) l.length k 0 0 (by omega) (by omega) (by omega) (by omega) (by have := stocks_len l hS; omega)
    show impl_AllOut.l0 k l 0 l _ 0 = _
    simpa using this
  | false =>
    rw [if_neg (fun h => by simpa using hs.2 h)]
    exact allOut_no l hn (fun k hk => (hb k hk).2) l.length k 0 0 (by omega) (by omega) (by omega)

theorem hIn_bound (l : List SS) (t : Int) : 0 ≤ hIn l t ∧ hIn l t ≤ 1000 := by
  unfold hIn
  have hr := fnd_range l t
  by_cases hneg : fnd l t < 0
  · rw [if_pos hneg]; omega
  · rw [if_neg hneg]
    have h0 : 0 ≤ fnd l t := by omega
    have h1 : fnd l t < (l.length : Int) := by rcases hr with h | h <;> omega
    have hS : Stocks l := by rcases hr with h | h; omega; exact h.2.2
    have ok := hS _ h0 h1
    unfold okStock at ok
    omega
theorem Lend_val (l : List SS) (t n : Int) (hn : l.length ≤ 1048576) : ∀ k, 3 * l.length + 2 < k → impl_Lend.f k l t n = some (if 0 ≤ fnd l t ∧ 1 ≤ n ∧ n ≤ hIn l t then (chg l t 0 n, true) else (l, false)) := by
  intro k hk
  have hb := hIn_bound l t
  unfold impl_Lend.f
  simp only [(hasIn_val l t hn k hk).2, Option.bind_some, changed_val l t n (hIn l t) 0 n hn (fun _ h1 h2 => by omega) k hk]
noncomputable def oIn (l : List SS) (t : Int) : Int := if fnd l t < 0 then 0 else (rd_T110 l (fnd l t)).f2
theorem oIn_bound (l : List SS) (t : Int) : 0 ≤ oIn l t ∧ oIn l t ≤ 1000 := by
  unfold oIn
  have hr := fnd_range l t
  by_cases hneg : fnd l t < 0
  · rw [if_pos hneg]; omega
  · rw [if_neg hneg]
    have h0 : 0 ≤ fnd l t := by omega
    have h1 : fnd l t < (l.length : Int) := by rcases hr with h | h <;> omega
    have hS : Stocks l := by rcases hr with h | h; omega; exact h.2.2
    have ok := hS _ h0 h1
    unfold okStock at ok
    omega
theorem outOf_val (l : List SS) (t : Int) (hn : l.length ≤ 1048576) : ∀ k, 3 * l.length + 2 < k → impl_outOf.f k l t = some (oIn l t) := by
  intro k hk
  have hr := fnd_range l t
  have h1 : fnd l t < (l.length : Int) := by rcases hr with h | h <;> omega
  exact outOf_ev l t k (fnd l t) (find_val l t hn k hk).2 h1
theorem GiveBack_val (l : List SS) (t n : Int) (hn : l.length ≤ 1048576) : ∀ k, 3 * l.length + 2 < k → impl_GiveBack.f k l t n = some (if 0 ≤ fnd l t ∧ 1 ≤ n ∧ n ≤ oIn l t then (chg l t 0 (-n), true) else (l, false)) := by
  intro k hk
  have hb := oIn_bound l t
  unfold impl_GiveBack.f
  simp only [outOf_val l t hn k hk, Option.bind_some, changed_val l t n (oIn l t) 0 (wrap64 (-n)) hn (fun _ h1 h2 => by unfold wrap64; omega) k hk]
  by_cases h : 0 ≤ fnd l t ∧ 1 ≤ n ∧ n ≤ oIn l t
  · have hw : wrap64 (-n) = -n := by unfold wrap64; omega
    rw [if_pos h, hw, if_pos h]
  · rw [if_neg h, if_neg h]
theorem Lose_val (l : List SS) (t n : Int) (hn : l.length ≤ 1048576) : ∀ k, 3 * l.length + 2 < k → impl_Lose.f k l t n = some (if 0 ≤ fnd l t ∧ 1 ≤ n ∧ n ≤ oIn l t then (chg l t (-n) (-n), true) else (l, false)) := by
  intro k hk
  have hb := oIn_bound l t
  unfold impl_Lose.f
  simp only [outOf_val l t hn k hk, Option.bind_some, changed_val l t n (oIn l t) (wrap64 (-n)) (wrap64 (-n)) hn (fun _ h1 h2 => by unfold wrap64; omega) k hk]
  by_cases h : 0 ≤ fnd l t ∧ 1 ≤ n ∧ n ≤ oIn l t
  · have hw : wrap64 (-n) = -n := by unfold wrap64; omega
    rw [if_pos h, hw, if_pos h]
  · rw [if_neg h, if_neg h]
/-- A stock changed within its bounds: all that is known of it. -/
theorem chg_facts (l : List SS) (t c o : Int) (h0 : 0 ≤ fnd l t) (hb : ∀ x : SS, x = rd_T110 l (fnd l t) → 0 ≤ x.f2 + o ∧ x.f2 + o ≤ x.f1 + c ∧ x.f1 + c ≤ 1000) :
    Stocks l ∧ Stocks (chg l t c o) ∧ fnd (chg l t c o) t = fnd l t ∧ (chg l t c o).length = l.length ∧ hIn (chg l t c o) t = hIn l t + c - o ∧ oIn (chg l t c o) t = oIn l t + o ∧ aOut (chg l t c o) = aOut l + o := by
  have hr := fnd_range l t
  have h1 : fnd l t < (l.length : Int) := by rcases hr with h | h <;> omega
  have hS : Stocks l := by rcases hr with h | h; omega; exact h.2.2
  have hx := hb _ rfl
  have e0 : ((fnd l t).toNat : Int) = fnd l t := by omega
  have hS2 : Stocks (chg l t c o) := by
    unfold chg
    exact stocks_set l (fnd l t).toNat _ (by omega) hS (by rw [e0]) hx.1 hx.2.1 hx.2.2
  have hf := fnd_chg l t c o h0 hS2
  have hrd := rd_chg l t c o h0 h1
  have hneg : ¬ fnd l t < 0 := by omega
  refine ⟨hS, hS2, hf, by unfold chg; simp, ?_, ?_, ?_⟩
  · unfold hIn; rw [hf, if_neg hneg, if_neg hneg, hrd]
    have e : ∀ a b : Int, a + c - (b + o) = a - b + c - o := by intros; omega
    exact e _ _
  · unfold oIn; rw [hf, if_neg hneg, if_neg hneg, hrd]
  · unfold aOut; rw [if_pos hS2, if_pos hS, sumOut_chg l t c o h0 h1]
theorem aOut_bound (l : List SS) : 0 ≤ aOut l ∧ aOut l ≤ 20000 := by
  unfold aOut
  split
  · rename_i hS
    have hl := stocks_len l hS
    have key : ∀ q : List SS, (∀ x ∈ q, 0 ≤ x.f2 ∧ x.f2 ≤ 1000) → 0 ≤ sumOut q ∧ sumOut q ≤ 1000 * q.length := by
      intro q
      induction q with
      | nil => intro _; simp [sumOut]
      | cons x q ih =>
        intro h
        have h1 := ih (fun y hy => h y (List.mem_cons_of_mem _ hy))
        have h2 := h x (List.mem_cons_self)
        simp only [sumOut, List.length_cons]; omega
    have := key l (fun x hx => by
      obtain ⟨j, hj, rfl⟩ := List.mem_iff_getElem.mp hx
      have ok := hS (j : Int) (by omega) (by omega)
      unfold okStock at ok
      rw [rdS_get l j hj] at ok
      omega)
    omega
  · omega
theorem raw_ev (d : List Int) (p s : Int) (hd : d.length ≤ 1048576) (hp : 0 ≤ p) (hp2 : p ≤ d.length) : ∃ v p' s', spec_l4Raw.f d p s = some (v, p', s') ∧ 0 ≤ p' ∧ p' ≤ d.length := by
  obtain ⟨v, p', s', h, _, h1, h2⟩ := int_ev d p s [(-1), 0, 8, 9, 64, 9223372036854775807, (-9223372036854775808)] (by simp) hd hp hp2
  exact ⟨v, p', s', by unfold spec_l4Raw.f; rw [h]; rfl, h1, h2⟩
theorem any30_stop (d : List Int) (hd : d.length ≤ 1048576) (l : List SS) (i p s a p1 s1 : Int) (hl : l.length ≤ 6) (e1 : spec_l1Below.f d p s 6 = some (a, p1, s1)) (hc : ¬ i ≤ a) (hp1 : 0 ≤ p1) (hp1' : p1 ≤ d.length) :
    ∃ q p' s', q.length ≤ 6 ∧ 0 ≤ p' ∧ p' ≤ (d.length : Int) ∧ ∀ k, 0 < k → spec_l30Any.l0 k l i d p s = some (q, p', s') := by
  by_cases hz : (l.length : Int) > 0
  · obtain ⟨b, p2, s2, e2, ⟨hb0, hb1, _⟩, hp2a, hp2b⟩ := below_ev d p1 s1 (l.length : Int) hd hp1 hp1'
    have hb := hb1 (by omega)
    obtain ⟨c, p3, s3, e3, _, hp3, hp3'⟩ := below_ev d p2 s2 12 hd hp2a hp2b
    by_cases c0 : c = 0
    · obtain ⟨v, p4, s4, e4, _, hp4, hp4'⟩ := int_ev d p3 s3 [0, 2, 20, 21] (by simp) hd hp3 hp3'
      refine ⟨l.set b.toNat ⟨v, (rd_T110 l b).f1, (rd_T110 l b).f2⟩, p4, s4, by rw [List.length_set]; omega, hp4, hp4', fun k hk => ?_⟩
      obtain ⟨k, rfl⟩ : ∃ m, k = m + 1 := ⟨k - 1, by omega⟩
      simp only [spec_l30Any.l0, e1, Option.bind_some, if_neg hc, if_pos hz, e2, e3, if_pos c0, e4, if_pos hb0, if_pos hb]
    · by_cases c1 : c = 1
      · obtain ⟨v, p4, s4, e4, _, hp4, hp4'⟩ := int_ev d p3 s3 [(-1), 1000, 1001] (by simp) hd hp3 hp3'
        refine ⟨l.set b.toNat ⟨(rd_T110 l b).f0, v, (rd_T110 l b).f2⟩, p4, s4, by rw [List.length_set]; omega, hp4, hp4', fun k hk => ?_⟩
        obtain ⟨k, rfl⟩ : ∃ m, k = m + 1 := ⟨k - 1, by omega⟩
        simp only [spec_l30Any.l0, e1, Option.bind_some, if_neg hc, if_pos hz, e2, e3, if_neg c0, if_pos c1, e4, if_pos hb0, if_pos hb]
      · by_cases c2 : c = 2
        · obtain ⟨v, p4, s4, e4, hp4, hp4'⟩ := raw_ev d p3 s3 hd hp3 hp3'
          refine ⟨l.set b.toNat ⟨(rd_T110 l b).f0, (rd_T110 l b).f1, v⟩, p4, s4, by rw [List.length_set]; omega, hp4, hp4', fun k hk => ?_⟩
          obtain ⟨k, rfl⟩ : ∃ m, k = m + 1 := ⟨k - 1, by omega⟩
          simp only [spec_l30Any.l0, e1, Option.bind_some, if_neg hc, if_pos hz, e2, e3, if_neg c0, if_neg c1, if_pos c2, e4, if_pos hb0, if_pos hb]
        · refine ⟨l, p3, s3, by omega, hp3, hp3', fun k hk => ?_⟩
          obtain ⟨k, rfl⟩ : ∃ m, k = m + 1 := ⟨k - 1, by omega⟩
          simp only [spec_l30Any.l0, e1, Option.bind_some, if_neg hc, if_pos hz, e2, e3, if_neg c0, if_neg c1, if_neg c2]
  · refine ⟨l, p1, s1, by omega, hp1, hp1', fun k hk => ?_⟩
    obtain ⟨k, rfl⟩ : ∃ m, k = m + 1 := ⟨k - 1, by omega⟩
    simp only [spec_l30Any.l0, e1, Option.bind_some, if_neg hc, if_neg hz]
theorem any30_loop (d : List Int) (hd : d.length ≤ 1048576) : ∀ (e : Nat) (l : List SS) (i p s : Int), 1 ≤ i → 6 - i ≤ e → (l.length : Int) + 1 ≤ i → i ≤ 7 → 0 ≤ p → p ≤ d.length →
    ∃ q p' s', q.length ≤ 6 ∧ 0 ≤ p' ∧ p' ≤ (d.length : Int) ∧ ∀ k, e < k → spec_l30Any.l0 k l i d p s = some (q, p', s') := by
  intro e
  induction e with
  | zero =>
    intro l i p s h1 he hl h7 hp hp2
    obtain ⟨a, p1, s1, e1, ⟨ha0, ha1, _⟩, hp1, hp1'⟩ := below_ev d p s 6 hd hp hp2
    have := ha1 (by omega)
    exact any30_stop d hd l i p s a p1 s1 (by omega) e1 (by omega) hp1 hp1'
  | succ e ih =>
    intro l i p s h1 he hl h7 hp hp2
    obtain ⟨a, p1, s1, e1, ⟨ha0, ha1, _⟩, hp1, hp1'⟩ := below_ev d p s 6 hd hp hp2
    have := ha1 (by omega)
    by_cases hc : i ≤ a
    · obtain ⟨b, p2, s2, e2, ⟨hb0, hb1, _⟩, hp2a, hp2b⟩ := below_ev d p1 s1 12 hd hp1 hp1'
      obtain ⟨c, p3, s3, e3, _, hp3, hp3'⟩ := below_ev d p2 s2 (wrap64 (b + 1)) hd hp2a hp2b
      obtain ⟨q, p', s', hq, hp', hp'', hk2⟩ := ih (l ++ [⟨wrap64 (2 * i), b, c⟩]) (i + 1) p3 s3 (by omega) (by omega) (by simp; omega) (by omega) hp3 hp3'
      refine ⟨q, p', s', hq, hp', hp'', fun k hk => ?_⟩
      obtain ⟨k, rfl⟩ : ∃ m, k = m + 1 := ⟨k - 1, by omega⟩
      have hlen : l.length < 5864062014805 := by omega
      have hw : wrap64 (i + 1) = i + 1 := by unfold wrap64; omega
      simp only [spec_l30Any.l0, e1, Option.bind_some, if_pos hc, e2, e3, if_pos hlen, hw]
      exact hk2 k (by omega)
    · obtain ⟨q, p', s', hq, hp', hp'', hk2⟩ := any30_stop d hd l i p s a p1 s1 (by omega) e1 hc hp1 hp1'
      exact ⟨q, p', s', hq, hp', hp'', fun k hk => hk2 k (by omega)⟩
theorem drawLend_ev (d : List Int) (hd : d.length ≤ 1048576) : ∃ l t n, l.length ≤ 6 ∧ ∀ k, d.length + 60 < k → spec_DrawLend.f k d = some (l, t, n) := by
  obtain ⟨s, hs⟩ := new_ev d hd
  obtain ⟨q, p1, s1, hq, hp1, hp1', hk2⟩ := any30_loop d hd 6 [] 1 0 s (by omega) (by omega) (by simp) (by omega) (by omega) (by omega)
  obtain ⟨a, p2, s2, e2, _, hp2, hp2'⟩ := below_ev d p1 s1 6 hd hp1 hp1'
  obtain ⟨v, p3, s3, e3, _, _, _⟩ := int_ev d p2 s2 [1, 2, hIn q (wrap64 (2 * a)), wrap64 (hIn q (wrap64 (2 * a)) + 1), 0] (by simp) hd hp2 hp2'
  refine ⟨q, wrap64 (2 * a), v, hq, fun k hk => ?_⟩
  have h1 : spec_l30Any.f k d 0 s = some (q, p1, s1) := hk2 k (by omega)
  unfold spec_DrawLend.f
  simp only [hs k (by omega), Option.bind_some, h1, e2, (hasIn_val q (wrap64 (2 * a)) (by omega) k (by omega)).1, e3]
theorem drawGive_ev (d : List Int) (hd : d.length ≤ 1048576) : ∃ l t n, l.length ≤ 6 ∧ ∀ k, d.length + 60 < k → spec_DrawGiveBack.f k d = some (l, t, n) := by
  obtain ⟨s, hs⟩ := new_ev d hd
  obtain ⟨q, p1, s1, hq, hp1, hp1', hk2⟩ := any30_loop d hd 6 [] 1 0 s (by omega) (by omega) (by simp) (by omega) (by omega) (by omega)
  obtain ⟨a, p2, s2, e2, _, hp2, hp2'⟩ := below_ev d p1 s1 6 hd hp1 hp1'
  obtain ⟨v, p3, s3, e3, _, _, _⟩ := int_ev d p2 s2 [1, 2, 5, 12, 0] (by simp) hd hp2 hp2'
  refine ⟨q, wrap64 (2 * a), v, hq, fun k hk => ?_⟩
  have h1 : spec_l30Any.f k d 0 s = some (q, p1, s1) := hk2 k (by omega)
  unfold spec_DrawGiveBack.f
  simp only [hs k (by omega), Option.bind_some, h1, e2, e3]

theorem stores_end (d : List Int) (hd : d.length ≤ 1048576) (k : Nat) (hk : d.length + 100 < k) : laws_FnStores.j0 k d = some true := by
  obtain ⟨k, rfl⟩ : ∃ m, k = m + 1 := ⟨k - 1, by omega⟩
  obtain ⟨l, t, n, hl, h1⟩ := drawGive_ev d hd
  have hg := GiveBack_val l t n (by omega) k (by omega)
  have ha := aOut_bound l
  by_cases h : 0 ≤ fnd l t ∧ 1 ≤ n ∧ n ≤ oIn l t
  · rw [if_pos h] at hg
    have hob := oIn_bound l t
    have hc := chg_facts l t 0 (-n) h.1 (fun x hx => by
      have hr := fnd_range l t
      have h1 : fnd l t < (l.length : Int) := by rcases hr with h | h <;> omega
      have hS : Stocks l := by rcases hr with h | h; omega; exact h.2.2
      have ok := hS _ h.1 h1
      unfold okStock at ok
      rw [← hx] at ok
      have h2 := h.2.2
      unfold oIn at h2
      rw [if_neg (by omega), ← hx] at h2
      omega)
    have hlen : ((chg l t 0 (-n)).length : Int) = (l.length : Int) := by rw [hc.2.2.2.1]
    have hw : wrap64 (aOut l - n) = aOut l - n := by unfold wrap64; omega
    have he : aOut l + -n = aOut l - n := by omega
    simp only [laws_FnStores.j0, h1 k (by omega), Option.bind_some, hg, if_pos hlen, if_true, allOut_val l (by omega) k (by omega), allOut_val (chg l t 0 (-n)) (by omega) k (by omega), hc.2.2.2.2.2.2, hw, he, beq_self_eq_true]
  · rw [if_neg h] at hg
    simp only [laws_FnStores.j0, h1 k (by omega), Option.bind_some, hg, if_true, Bool.false_eq_true, if_false]
theorem FnStores : laws_FnStores.Stmt := by
  intro d _
  by_cases hbig : (d.length : Int) > 1048576
  · exact ⟨0, by unfold laws_FnStores.f laws_big.f; simp only [hbig, decide_true, Option.bind_some, if_true]⟩
  have hd : d.length ≤ 1048576 := by omega
  obtain ⟨l, t, n, hl, h1⟩ := drawLend_ev d hd
  obtain ⟨k, hk⟩ : ∃ k, k = d.length + 500 := ⟨_, rfl⟩
  refine ⟨k, ?_⟩
  unfold laws_FnStores.f laws_big.f
  have hL := Lend_val l t n (by omega) k (by omega)
  have hend := stores_end d hd k (by omega)
  by_cases h : 0 ≤ fnd l t ∧ 1 ≤ n ∧ n ≤ hIn l t
  · rw [if_pos h] at hL
    have hib := hIn_bound l t
    have hr := fnd_range l t
    have hlt : fnd l t < (l.length : Int) := by rcases hr with h | h <;> omega
    have hS : Stocks l := by rcases hr with h | h; omega; exact h.2.2
    have ok := hS _ h.1 hlt
    unfold okStock at ok
    have h2 := h.2.2
    unfold hIn at h2
    rw [if_neg (by omega)] at h2
    obtain ⟨_, c2, c3, c4, c5, c6, c7⟩ := chg_facts l t 0 n h.1 (fun x hx => by rw [hx]; omega)
    obtain ⟨x, hx⟩ : ∃ x, x = chg l t 0 n := ⟨_, rfl⟩
    rw [← hx] at hL c2 c3 c4 c5 c6 c7
    have hxl : x.length ≤ 6 := by omega
    have hob : 0 ≤ oIn l t := (oIn_bound l t).1
    have hgc : 0 ≤ fnd x t ∧ 1 ≤ n ∧ n ≤ oIn x t := ⟨by omega, h.2.1, by omega⟩
    have hG := GiveBack_val x t n (by omega) k (by omega)
    have hO := Lose_val x t n (by omega) k (by omega)
    rw [if_pos hgc] at hG hO
    have hrdx : rd_T110 x (fnd x t) = ⟨(rd_T110 l (fnd l t)).f0, (rd_T110 l (fnd l t)).f1 + 0, (rd_T110 l (fnd l t)).f2 + n⟩ := by rw [c3, hx]; exact rd_chg l t 0 n h.1 hlt
    obtain ⟨_, y2, y3, y4, y5, y6, y7⟩ := chg_facts x t 0 (-n) hgc.1 (fun z hz => by rw [hz, hrdx]; simp only []; omega)
    obtain ⟨_, z2, z3, z4, z5, z6, z7⟩ := chg_facts x t (-n) (-n) hgc.1 (fun z hz => by rw [hz, hrdx]; simp only []; omega)
    obtain ⟨b1, hb1, hbk1⟩ := areStocks_ev x (by omega)
    obtain ⟨b2, hb2, hbk2⟩ := areStocks_ev (chg x t (-n) (-n)) (by omega)
    have e1 : b1 = true := hb1.2 c2
    have e2 : b2 = true := hb2.2 z2
    subst e1; subst e2
    have hal := aOut_bound l
    have w1 : wrap64 (hIn l t - n) = hIn l t - n := by unfold wrap64; omega
    have w2 : wrap64 (aOut l + n) = aOut l + n := by unfold wrap64; omega
    have q1 : hIn x t = hIn l t - n := by omega
    have q2 : hIn (chg x t 0 (-n)) t = hIn l t := by omega
    have q3 : hIn (chg x t (-n) (-n)) t = hIn l t - n := by omega
    simp only [hbig, decide_false, Option.bind_some, Bool.false_eq_true, if_false, h1 k (by omega), hL, if_true, hG, hO, (hbk1 k (by omega)).2, (hbk2 k (by omega)).2,
      (hasIn_val x t (by omega) k (by omega)).2, (hasIn_val l t (by omega) k (by omega)).2, (hasIn_val (chg x t 0 (-n)) t (by omega) k (by omega)).2, (hasIn_val (chg x t (-n) (-n)) t (by omega) k (by omega)).2,
      allOut_val x (by omega) k (by omega), allOut_val l (by omega) k (by omega), q1, q2, q3, c7, w1, w2, hend]
  · rw [if_neg h] at hL
    simp only [hbig, decide_false, Option.bind_some, Bool.false_eq_true, if_false, h1 k (by omega), hL, if_true, hend]

end Go.Proofs.Ytegbddilobpeaaa.Pure
