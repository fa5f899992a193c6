/- The program's Lose returns what the reference's Lose returns, for every list of stocks no longer than 2^20, every thing and every number; the result is new memory and the argument stays as it was. No further condition. -/
import Derived.Test.YtcokbhkjfdddkaaSFnExactLose
namespace Go.Proofs.Ytcokbhkjfdddkaa.Pure
open Go.RowKit Go.Proofs.Ytcokbhkjfdddkaa.Q Go.Proofs.YtcokbhkjfdddkaaW.PrintWords Go.Proofs.YtcokbhkjfdddkaaW.PrintLast Go.Proofs.YtcokbhkjfdddkaaW.PrintMore
set_option linter.unusedVariables false
set_option linter.unusedSimpArgs false

theorem ext_getD {α : Type} {d : α} {a b : List α} (h : a.length = b.length) (hj : ∀ j, j < a.length → a.getD j d = b.getD j d) : a = b := by
  apply List.ext_getElem h
  intro j h1 h2
  have := hj j h1
  simpa [List.getD_eq_getElem?_getD, List.getElem?_eq_getElem h1, List.getElem?_eq_getElem h2] using this

theorem getD_set {α : Type} {d : α} (a : List α) (i j : Nat) (v : α) (h : i < a.length) : (a.set i v).getD j d = if i = j then v else a.getD j d := by
  simp only [List.getD_eq_getElem?_getD, List.getElem?_set]
  by_cases e : i = j
  · subst e; simp [h]
  · simp [e]

theorem wrap_small {i : Int} {n : Nat} (h0 : 0 ≤ i) (h : i < (n : Int)) (hn : n ≤ 1048576) : wrap64 (i + 1) = i + 1 := by
  unfold wrap64; omega

def cStock (x : S110) : S108 := ⟨x.f0, x.f1, x.f2⟩
theorem toStock_ev (x : S110) : laws_toStock.f x.f0 x.f1 x.f2 = some (x.f0, x.f1, x.f2) := rfl
theorem toStockS_loop (xs : List S110) (hn : xs.length ≤ 1048576) : ∀ (d k : Nat) (acc : List S108) (i : Int), acc.length = xs.length → 0 ≤ i → (xs.length : Int) - i = d → d < k →
    (∀ j : Nat, (j : Int) < i → acc.getD j z108 = (xs.map cStock).getD j z108) → laws_toStockS.l0 k xs acc i = some (xs.map cStock) := by
  intro d
  induction d with
  | zero =>
    intro k acc i hl h0 hd hk hj
    obtain ⟨k, rfl⟩ : ∃ m, k = m + 1 := ⟨k - 1, by omega⟩
    simp only [laws_toStockS.l0]
    rw [if_neg (by omega)]
    exact congrArg some (ext_getD (by rw [List.length_map]; exact hl) (fun j h => hj j (by omega)))
  | succ d ih =>
    intro k acc i hl h0 hd hk hj
    obtain ⟨k, rfl⟩ : ∃ m, k = m + 1 := ⟨k - 1, by omega⟩
    simp only [laws_toStockS.l0, toStock_ev, Option.bind_some]
    rw [if_pos (by omega), if_pos h0, if_pos (by omega), wrap_small (n := xs.length) h0 (by omega) hn]
    refine ih k _ _ (by simpa using hl) (by omega) (by omega) (by omega) ?_
    intro j hj'
    rw [getD_set _ _ _ _ (by omega)]
    by_cases e : i.toNat = j
    · rw [if_pos e]
      have h1 : j < xs.length := by omega
      unfold rd_T110
      rw [e]
      simp [List.getD_eq_getElem?_getD, List.getElem?_eq_getElem h1, cStock]
    · rw [if_neg e]; exact hj j (by omega)
theorem toStockS_ev (xs : List S110) (hn : xs.length ≤ 1048576) (k : Nat) (hk : xs.length < k) : laws_toStockS.f k xs = some (xs.map cStock) := by
  unfold laws_toStockS.f
  rw [if_pos (by omega), if_pos (by omega)]
  exact toStockS_loop xs hn xs.length k _ 0 (by simp) (by omega) (by omega) hk (fun j hj => by omega)

theorem eqStock_ev (x : S108) : laws_eqStock.f x.f0 x.f1 x.f2 x.f0 x.f1 x.f2 = some true := by simp [laws_eqStock.f]
theorem eqStockS_loop (xs : List S108) (hn : xs.length ≤ 1048576) : ∀ (d k : Nat) (i : Int), 0 ≤ i → (xs.length : Int) - i = d → d < k → laws_eqStockS.l0 k xs xs i = some true := by
  intro d
  induction d with
  | zero =>
    intro k i h0 hd hk
    obtain ⟨k, rfl⟩ : ∃ m, k = m + 1 := ⟨k - 1, by omega⟩
    simp only [laws_eqStockS.l0]
    rw [if_neg (by omega)]
  | succ d ih =>
    intro k i h0 hd hk
    obtain ⟨k, rfl⟩ : ∃ m, k = m + 1 := ⟨k - 1, by omega⟩
    simp only [laws_eqStockS.l0, eqStock_ev, Option.bind_some, if_true]
    rw [if_pos (by omega), if_pos h0, if_pos (by omega), wrap_small (n := xs.length) h0 (by omega) hn]
    exact ih k _ (by omega) (by omega) (by omega)
theorem eqStockS_ev (xs : List S108) (hn : xs.length ≤ 1048576) (k : Nat) (hk : xs.length < k) : laws_eqStockS.f k xs xs = some true := by
  unfold laws_eqStockS.f
  rw [if_pos rfl]
  exact eqStockS_loop xs hn xs.length k 0 (by omega) (by omega) hk

theorem szStockS_ev (l : List S110) (hm : l.length ≤ maxLen) : ∃ r, laws_szStockS.f l 1048576 = some r ∧ (r < 0 ∨ l.length ≤ 1048576) := by
  unfold maxLen at hm
  have hw : wrap64 (1048576 - (l.length : Int)) = 1048576 - (l.length : Int) := by unfold wrap64; omega
  unfold laws_szStockS.f
  rw [hw]
  by_cases h : (1048576 - (l.length : Int)) < 0
  · rw [if_pos h]; exact ⟨_, rfl, .inl (by omega)⟩
  · rw [if_neg h]; exact ⟨_, rfl, .inr (by omega)⟩

theorem l1In_eq (a b c : Int) : spec_l1In.f a b c = some (decide (b ≤ a ∧ a ≤ c)) := by
  unfold spec_l1In.f
  by_cases h : a ≥ b
  · rw [if_pos h]; congr 1; have : b ≤ a := h; simp [this]
  · rw [if_neg h]; have : ¬ b ≤ a := h; simp [this]
theorem inRange_eq (a b c : Int) : impl_InRange.f a b c = some (decide (b ≤ a ∧ a ≤ c)) := by
  unfold impl_InRange.f
  by_cases h : b ≤ a
  · rw [if_pos h]; simp [h]
  · rw [if_neg h]; simp [h]

def okStock (l : List S108) (i : Int) : Prop :=
  1 ≤ (rd_T108 l i).f0 ∧ (rd_T108 l i).f0 ≤ 20 ∧ 0 ≤ (rd_T108 l i).f1 ∧ (rd_T108 l i).f1 ≤ 1000 ∧ 0 ≤ (rd_T108 l i).f2 ∧ (rd_T108 l i).f2 ≤ (rd_T108 l i).f1 ∧
    (0 < i → (rd_T108 l (i - 1)).f0 < (rd_T108 l i).f0)
instance (l : List S108) (i : Int) : Decidable (okStock l i) := by unfold okStock; exact inferInstance

theorem wrap_pred {i : Int} {n : Nat} (h0 : 0 ≤ i) (h : i ≤ (n : Int)) (hn : n ≤ 1048576) : wrap64 (i - 1) = i - 1 := by
  unfold wrap64; omega

theorem specStocks_step (l : List S108) (hn : l.length ≤ 1048576) (k : Nat) (i : Int) (h0 : 0 ≤ i) (hlt : i < (l.length : Int)) :
    spec_AreStocks.l0 (k + 1) l i = if okStock l i then spec_AreStocks.l0 k l (i + 1) else some false := by
  simp only [spec_AreStocks.l0, l1In_eq, Option.bind_some, decide_eq_true_eq, wrap_small (n := l.length) h0 hlt hn, wrap_pred (n := l.length) h0 (Int.le_of_lt hlt) hn, if_pos hlt, if_pos h0]
  by_cases hok : okStock l i
  · rw [if_pos hok]; unfold okStock at hok
    repeat' split
    all_goals first | rfl | (exfalso; omega)
  · rw [if_neg hok]; unfold okStock at hok
    repeat' split
    all_goals first | rfl | (exfalso; omega)

theorem implStocks_step (l : List S108) (hn : l.length ≤ 1048576) (k : Nat) (i : Int) (h0 : 0 ≤ i) (hlt : i < (l.length : Int)) :
    impl_AreStocks.l0 (k + 1) l l (l.length : Int) i = if okStock l i then impl_AreStocks.l0 k l l (l.length : Int) (i + 1) else some false := by
  simp only [impl_AreStocks.l0, inRange_eq, Option.bind_some, decide_eq_true_eq, wrap_small (n := l.length) h0 hlt hn, wrap_pred (n := l.length) h0 (Int.le_of_lt hlt) hn, if_pos hlt, if_pos h0]
  by_cases hok : okStock l i
  · rw [if_pos hok]; unfold okStock at hok
    repeat' split
    all_goals first | rfl | (exfalso; omega)
  · rw [if_neg hok]; unfold okStock at hok
    repeat' split
    all_goals first | rfl | (exfalso; omega)

theorem stocks_loop (l : List S108) (hn : l.length ≤ 1048576) : ∀ (d k : Nat) (i : Int), 0 ≤ i → (l.length : Int) - i = d → d < k →
    ∃ r, spec_AreStocks.l0 k l i = some r ∧ impl_AreStocks.l0 k l l (l.length : Int) i = some r ∧ (r = true ↔ ∀ j : Int, i ≤ j → j < l.length → okStock l j) := by
  intro d
  induction d with
  | zero =>
    intro k i h0 hd hk
    obtain ⟨k, rfl⟩ : ∃ m, k = m + 1 := ⟨k - 1, by omega⟩
    simp only [spec_AreStocks.l0, impl_AreStocks.l0]
    rw [if_neg (by omega), if_neg (by omega)]
    exact ⟨true, rfl, rfl, by simp; intro j h1 h2; omega⟩
  | succ d ih =>
    intro k i h0 hd hk
    obtain ⟨k, rfl⟩ : ∃ m, k = m + 1 := ⟨k - 1, by omega⟩
    rw [specStocks_step l hn k i h0 (by omega), implStocks_step l hn k i h0 (by omega)]
    by_cases hok : okStock l i
    · rw [if_pos hok, if_pos hok]
      obtain ⟨r, h1, h2, h3⟩ := ih k (i + 1) (by omega) (by omega) (by omega)
      refine ⟨r, h1, h2, ?_⟩
      rw [h3]
      constructor
      · intro h j hj hjl
        by_cases e : j = i
        · rw [e]; exact hok
        · exact h j (by omega) hjl
      · intro h j hj hjl; exact h j (by omega) hjl
    · rw [if_neg hok, if_neg hok]
      refine ⟨false, rfl, rfl, ?_⟩
      constructor
      · intro h; cases h
      · intro h; exact absurd (h i (by omega) (by omega)) hok

def Stocks (l : List S108) : Prop := ∀ j : Int, 0 ≤ j → j < l.length → okStock l j
theorem areStocks_ev (l : List S108) (hn : l.length ≤ 1048576) : ∃ r, (r = true ↔ Stocks l) ∧ ∀ k, l.length < k → spec_AreStocks.f k l = some r ∧ impl_AreStocks.f k l = some r := by
  obtain ⟨r, _, _, h3⟩ := stocks_loop l hn l.length (l.length + 1) 0 (by omega) (by omega) (by omega)
  refine ⟨r, h3, fun k hk => ?_⟩
  obtain ⟨r', h1, h2, h4⟩ := stocks_loop l hn l.length k 0 (by omega) (by omega) hk
  have : r' = r := by rw [Bool.eq_iff_iff, h4, h3]
  subst this
  exact ⟨h1, h2⟩

def fndL (t : Int) : Int → List S108 → Int
  | _, [] => -1
  | i, x :: xs => if x.f0 = t then i else fndL t (i + 1) xs
theorem fndL_range (t : Int) : ∀ (xs : List S108) (i : Int), fndL t i xs = -1 ∨ (i ≤ fndL t i xs ∧ fndL t i xs < i + xs.length)
  | [], i => .inl rfl
  | x :: xs, i => by
    unfold fndL
    by_cases e : x.f0 = t
    · rw [if_pos e]; right; simp only [List.length_cons]; omega
    · rw [if_neg e]
      rcases fndL_range t xs (i + 1) with h | h
      · exact .inl h
      · right; simp only [List.length_cons]; omega

theorem drop_step2 {α : Type} (d : α) (l : List α) (i : Int) (h0 : 0 ≤ i) (h : i < (l.length : Int)) : l.drop i.toNat = l.getD i.toNat d :: l.drop (i + 1).toNat := by
  have h1 : i.toNat < l.length := by omega
  rw [List.drop_eq_getElem_cons h1, show (i + 1).toNat = i.toNat + 1 by omega]
  congr 1
  simp [List.getD_eq_getElem?_getD, List.getElem?_eq_getElem h1]

theorem find_yes (l : List S108) (t : Int) (hn : l.length ≤ 1048576) (hb : ∀ k, l.length < k → spec_AreStocks.f k l = some true ∧ impl_AreStocks.f k l = some true) : ∀ (d k : Nat) (i : Int), 0 ≤ i → (l.length : Int) - i = d → 2 * d + l.length + 2 < k →
    spec_l30Find.l0 k l t i = some (fndL t i (l.drop i.toNat)) ∧ impl_stockOf.l0 k l t l (l.length : Int) i = some (fndL t i (l.drop i.toNat)) := by
  intro d
  induction d with
  | zero =>
    intro k i h0 hd hk
    obtain ⟨k, rfl⟩ : ∃ m, k = m + 2 := ⟨k - 2, by omega⟩
    simp only [spec_l30Find.l0, spec_l30Find.j1, impl_stockOf.l0]
    rw [if_neg (by omega), if_neg (by simp), if_neg (by omega), List.drop_eq_nil_of_le (by omega)]
    exact ⟨rfl, rfl⟩
  | succ d ih =>
    intro k i h0 hd hk
    obtain ⟨k, rfl⟩ : ∃ m, k = m + 2 := ⟨k - 2, by omega⟩
    have hlt : i < (l.length : Int) := by omega
    obtain ⟨h1, h2⟩ := ih k (i + 1) (by omega) (by omega) (by omega)
    obtain ⟨_, h3⟩ := ih (k + 1) (i + 1) (by omega) (by omega) (by omega)
    simp only [spec_l30Find.l0, spec_l30Find.j1, impl_stockOf.l0, (hb (k + 1) (by omega)).1, (hb (k + 1) (by omega)).2, Option.bind_some, if_pos hlt, if_pos h0, if_true, wrap_small (n := l.length) h0 hlt hn]
    rw [drop_step2 z108 l i h0 hlt, show l.getD i.toNat z108 = rd_T108 l i from rfl]
    unfold fndL
    by_cases e : (rd_T108 l i).f0 = t
    · simp only [if_pos e]; exact ⟨trivial, trivial⟩
    · simp only [if_neg e]; exact ⟨h1, h3⟩

theorem find_no (l : List S108) (t : Int) (hn : l.length ≤ 1048576) (hb : ∀ k, l.length < k → impl_AreStocks.f k l = some false) : ∀ (d k : Nat) (i : Int), 0 ≤ i → (l.length : Int) - i = d → d + l.length < k →
    impl_stockOf.l0 k l t l (l.length : Int) i = some (-1) := by
  intro d
  induction d with
  | zero =>
    intro k i h0 hd hk
    obtain ⟨k, rfl⟩ : ∃ m, k = m + 1 := ⟨k - 1, by omega⟩
    simp only [impl_stockOf.l0]
    rw [if_neg (by omega)]
  | succ d ih =>
    intro k i h0 hd hk
    obtain ⟨k, rfl⟩ : ∃ m, k = m + 1 := ⟨k - 1, by omega⟩
    have hlt : i < (l.length : Int) := by omega
    simp only [impl_stockOf.l0, hb k (by omega), Option.bind_some, if_pos hlt, if_pos h0, wrap_small (n := l.length) h0 hlt hn]
    exact ih k (i + 1) (by omega) (by omega) (by omega)

theorem find_ev (l : List S108) (t : Int) (hn : l.length ≤ 1048576) : ∃ r, (r = -1 ∨ (0 ≤ r ∧ r < (l.length : Int) ∧ Stocks l)) ∧ ∀ k, 3 * l.length + 2 < k → spec_l30Find.f k l t = some r ∧ impl_stockOf.f k l t = some r := by
  obtain ⟨b, hs, hb⟩ := areStocks_ev l hn
  cases b with
  | true =>
    refine ⟨fndL t 0 l, ?_, fun k hk => ?_⟩
    · rcases fndL_range t l 0 with h | h
      · exact .inl h
      · exact .inr ⟨by omega, by omega, hs.1 rfl⟩
    · have := find_yes l t hn hb l.length k 0 (by omega) (by omega) (by omega)
      show spec_l30Find.l0 k l t 0 = _ ∧ impl_stockOf.l0 k l t l _ 0 = _
      simpa using this
  | false =>
    refine ⟨-1, .inl rfl, fun k hk => ⟨?_, find_no l t hn (fun k hk => (hb k hk).2) l.length k 0 (by omega) (by omega) (by omega)⟩⟩
    obtain ⟨k, rfl⟩ : ∃ m, k = m + 2 := ⟨k - 2, by omega⟩
    simp only [spec_l30Find.f, spec_l30Find.l0, spec_l30Find.j1, (hb (k + 1) (by omega)).1, Option.bind_some, Bool.false_eq_true, if_false, ite_self]

theorem rd_setS (l : List S108) (r : Int) (v : S108) (h0 : 0 ≤ r) (h : r < (l.length : Int)) : rd_T108 (l.set r.toNat v) r = v := by
  unfold rd_T108
  rw [getD_set _ _ _ _ (by omega), if_pos rfl]

theorem rd_setK (l : List S108) (r : Int) (v : S108) (h0 : 0 ≤ r) (h : r < (l.length : Int)) : rd_T108 (l.set r.toNat v) r = v := by
  unfold rd_T108
  rw [getD_set _ _ _ _ (by omega), if_pos rfl]
theorem wrap_id {x : Int} (h0 : 0 ≤ x) (h : x ≤ 4611686018427387904) : wrap64 x = x := by unfold wrap64; omega
theorem markStockS_loop (n : Nat) (hn : n ≤ 1048576) : ∀ (d k : Nat) (acc : List S108) (c i : Int), acc.length = n → 0 ≤ i → (n : Int) - i = d → 0 ≤ c → c + 3 * d ≤ 4611686018427387000 → d < k →
    ∃ r, laws_markStockS.l0 k acc c i = some (c + 3 * d, r) ∧ r.length = n ∧ ∀ j : Nat, j < n → r.getD j z108 = if (j : Int) < i then acc.getD j z108 else ⟨c + 3 * (j - i), c + 3 * (j - i) + 1, c + 3 * (j - i) + 2⟩ := by
  intro d
  induction d with
  | zero =>
    intro k acc c i hl h0 hd hc hb hk
    obtain ⟨k, rfl⟩ : ∃ m, k = m + 1 := ⟨k - 1, by omega⟩
    simp only [laws_markStockS.l0]
    rw [if_neg (by omega)]
    exact ⟨acc, by simp, hl, fun j hj => by rw [if_pos (by omega)]⟩
  | succ d ih =>
    intro k acc c i hl h0 hd hc hb hk
    obtain ⟨k, rfl⟩ : ∃ m, k = m + 1 := ⟨k - 1, by omega⟩
    have hlt : i < (acc.length : Int) := by omega
    have w1 : wrap64 (c + 1) = c + 1 := wrap_id (by omega) (by omega)
    have w2 : wrap64 (c + 1 + 1) = c + 2 := by rw [wrap_id (by omega) (by omega)]; omega
    have w3 : wrap64 (c + 2 + 1) = c + 3 := by rw [wrap_id (by omega) (by omega)]; omega
    simp only [laws_markStockS.l0, Option.bind_some, if_pos hlt, if_pos h0, w1, w2, w3, wrap_small (n := n) h0 (by omega) hn]
    rw [rd_setK _ i _ h0 (by simpa using hlt), rd_setK _ i _ h0 (by simpa using hlt)]
    simp only [List.set_set]
    obtain ⟨r, hr, hrl, hrj⟩ := ih k (acc.set i.toNat ⟨c, c + 1, c + 2⟩) (c + 3) (i + 1) (by simpa using hl) (by omega) (by omega) (by omega) (by omega) (by omega)
    refine ⟨r, by rw [hr]; congr 2; omega, hrl, fun j hj => ?_⟩
    rw [hrj j hj, getD_set _ _ _ _ (by omega)]
    by_cases h1 : (j : Int) < i
    · rw [if_pos (by omega), if_neg (by omega), if_pos h1]
    · rw [if_neg h1]
      by_cases h2 : (j : Int) = i
      · rw [if_pos (by omega), if_pos (by omega), h2]; congr 1 <;> omega
      · rw [if_neg (by omega)]; congr 1 <;> omega

theorem markStockS_ev (l : List S108) (hn : l.length ≤ 1048576) (k : Nat) (hk : l.length < k) :
    ∃ r, laws_markStockS.f k l 1 = some (1 + 3 * (l.length : Int), r) ∧ r.length = l.length ∧ ∀ j : Nat, j < l.length → r.getD j z108 = ⟨1 + 3 * (j : Int), 1 + 3 * (j : Int) + 1, 1 + 3 * (j : Int) + 2⟩ := by
  obtain ⟨r, h1, h2, h3⟩ := markStockS_loop l.length hn l.length k l 1 0 rfl (by omega) (by omega) (by omega) (by omega) hk
  refine ⟨r, h1, h2, fun j hj => ?_⟩
  rw [h3 j hj, if_neg (by omega)]; congr 1 <;> omega

theorem heldStockS_loop (l : List S108) (hn : l.length ≤ 1048576) : ∀ (d k : Nat) (c i : Int), 0 ≤ i → (l.length : Int) - i = d → 0 ≤ c → c + 3 * d ≤ 4611686018427387000 → d < k →
    (∀ j : Nat, i ≤ j → j < l.length → l.getD j z108 = ⟨c + 3 * (j - i), c + 3 * (j - i) + 1, c + 3 * (j - i) + 2⟩) → laws_heldStockS.l0 k l c i = some (c + 3 * d) := by
  intro d
  induction d with
  | zero =>
    intro k c i h0 hd hc hb hk hj
    obtain ⟨k, rfl⟩ : ∃ m, k = m + 1 := ⟨k - 1, by omega⟩
    simp only [laws_heldStockS.l0]
    rw [if_neg (by omega)]; simp
  | succ d ih =>
    intro k c i h0 hd hc hb hk hj
    obtain ⟨k, rfl⟩ : ∃ m, k = m + 1 := ⟨k - 1, by omega⟩
    have hlt : i < (l.length : Int) := by omega
    have h1 : rd_T108 l i = ⟨c, c + 1, c + 2⟩ := by
      have := hj i.toNat (by omega) (by omega)
      unfold rd_T108; rw [this]; congr 1 <;> omega
    have w1 : wrap64 (c + 1) = c + 1 := wrap_id (by omega) (by omega)
    have w2 : wrap64 (c + 1 + 1) = c + 2 := by rw [wrap_id (by omega) (by omega)]; omega
    have w3 : wrap64 (c + 2 + 1) = c + 3 := by rw [wrap_id (by omega) (by omega)]; omega
    simp only [laws_heldStockS.l0, h1, w1, w2, w3, if_pos hlt, if_pos h0, if_true, wrap_small (n := l.length) h0 hlt hn]
    rw [ih k (c + 3) (i + 1) (by omega) (by omega) (by omega) (by omega) (by omega) (fun j h2 h3 => by rw [hj j (by omega) h3]; congr 1 <;> omega)]
    congr 1; omega

theorem heldStockS_ev (l : List S108) (hn : l.length ≤ 1048576) (k : Nat) (hk : l.length < k) (hj : ∀ j : Nat, j < l.length → l.getD j z108 = ⟨1 + 3 * (j : Int), 1 + 3 * (j : Int) + 1, 1 + 3 * (j : Int) + 2⟩) :
    laws_heldStockS.f k l 1 = some (1 + 3 * (l.length : Int)) :=
  heldStockS_loop l hn l.length k 1 0 (by omega) (by omega) (by omega) (by omega) hk (fun j _ h => by rw [hj j h]; congr 1 <;> omega)

theorem outOf_ev (l : List S108) (t : Int) (k : Nat) (r : Int) (h : impl_stockOf.f k l t = some r) (h1 : r < (l.length : Int)) : impl_outOf.f k l t = some (if r < 0 then 0 else (rd_T108 l r).f2) := by
  unfold impl_outOf.f
  rw [h]; simp only [Option.bind_some]
  by_cases hneg : r < 0
  · simp only [if_pos hneg]
  · have h0 : 0 ≤ r := by omega
    simp only [if_neg hneg, if_pos h0, if_pos h1]

theorem Lose_ev (l : List S108) (t n : Int) (hn : l.length ≤ 1048576) : ∃ q b, q.length = l.length ∧ ∀ k, 3 * l.length + 2 < k → spec_Lose.f k l t n = some (q, b) ∧ impl_Lose.f k l t n = some (q, b) := by
  obtain ⟨r, hr, hk⟩ := find_ev l t hn
  have h1 : r < (l.length : Int) := by rcases hr with h | h <;> omega
  have hlen : l.length < 5864062014805 := by omega
  by_cases hneg : r < 0
  · refine ⟨l, false, rfl, fun k h => ?_⟩
    unfold spec_Lose.f spec_GiveBack.f impl_Lose.f impl_changed.f
    rw [outOf_ev l t k r (hk k h).2 h1]
    simp only [(hk k h).1, (hk k h).2, Option.bind_some, List.length_nil, List.nil_append, Nat.zero_add, if_pos hlen, if_pos hneg, Bool.false_eq_true, if_false]
    exact ⟨trivial, trivial⟩
  have h0 : 0 ≤ r := by omega
  have hS : Stocks l := by rcases hr with h | h; omega; exact h.2.2
  by_cases hin : 1 ≤ n ∧ n ≤ (rd_T108 l r).f2
  · refine ⟨l.set r.toNat ⟨(rd_T108 l r).f0, wrap64 ((rd_T108 l r).f1 - n), wrap64 ((rd_T108 l r).f2 - n)⟩, true, by simp, fun k h => ?_⟩
    have ok := hS r h0 h1
    unfold okStock at ok
    have hw : wrap64 ((rd_T108 l r).f1 + wrap64 (-n)) = wrap64 ((rd_T108 l r).f1 - n) := by unfold wrap64; omega
    have hw2 : wrap64 ((rd_T108 l r).f2 + wrap64 (-n)) = wrap64 ((rd_T108 l r).f2 - n) := by unfold wrap64; omega
    unfold spec_Lose.f spec_GiveBack.f impl_Lose.f impl_changed.f
    rw [outOf_ev l t k r (hk k h).2 h1]
    simp only [(hk k h).1, (hk k h).2, l1In_eq, inRange_eq, hin, and_self, decide_true, Option.bind_some, List.length_nil, List.nil_append, Nat.zero_add, if_pos hlen, if_neg hneg, if_pos h0, if_pos h1, if_true, List.length_set]
    rw [rd_setS _ r _ h0 h1, rd_setS _ r _ h0 h1, hw, hw2]
    simp only [List.set_set]
    exact ⟨trivial, trivial⟩
  · refine ⟨l, false, rfl, fun k h => ?_⟩
    unfold spec_Lose.f spec_GiveBack.f impl_Lose.f impl_changed.f
    rw [outOf_ev l t k r (hk k h).2 h1]
    simp only [(hk k h).1, (hk k h).2, l1In_eq, inRange_eq, hin, decide_false, Option.bind_some, List.length_nil, List.nil_append, Nat.zero_add, if_pos hlen, if_neg hneg, if_pos h0, if_pos h1, Bool.false_eq_true, if_false]
    exact ⟨trivial, trivial⟩

theorem FnExactLose : laws_FnExactLose.Stmt := by
  intro xs t n hxs _ _
  obtain ⟨z, hz, hz2⟩ := szStockS_ev xs hxs.1
  by_cases hneg : z < 0
  · exact ⟨0, by unfold laws_FnExactLose.f; rw [hz]; simp only [Option.bind_some]; rw [if_pos hneg]⟩
  have hn : xs.length ≤ 1048576 := hz2.resolve_left hneg
  obtain ⟨ys, hys⟩ : ∃ ys, ys = xs.map cStock := ⟨_, rfl⟩
  have hyl : ys.length = xs.length := by rw [hys]; simp
  obtain ⟨q, b, hql, hv⟩ := Lose_ev ys t n (by omega)
  have T := fun k (hk : xs.length < k) => toStockS_ev xs hn k hk
  rw [← hys] at T
  have E := fun k (hk : ys.length < k) => eqStockS_ev ys (by omega) k hk
  have EQ := fun k (hk : q.length < k) => eqStockS_ev q (by omega) k hk
  obtain ⟨K, hK⟩ : ∃ K, K = 3 * xs.length + 10 := ⟨_, rfl⟩
  obtain ⟨m1, hm1, _, _⟩ := markStockS_ev ys (by omega) (K + 2) (by omega)
  obtain ⟨m2, hm2, hm2l, hm2j⟩ := markStockS_ev q (by omega) (K + 1) (by omega)
  have hh1 := heldStockS_ev m2 (by omega) (K + 1) (by omega) (fun j hj => hm2j j (by omega))
  have hh2 := heldStockS_ev m2 (by omega) K (by omega) (fun j hj => hm2j j (by omega))
  rw [hm2l] at hh1 hh2
  have hj2 : laws_FnExactLose.j2 (K + 1) m2 (1 + 3 * (q.length : Int)) false = some true := by
    simp only [laws_FnExactLose.j2, hh2, Option.bind_some, Bool.false_eq_true, if_false, if_true]
    rw [if_neg (by omega)]
  have hj1 : laws_FnExactLose.j1 (K + 2) xs t n q b q false = some true := by
    simp only [laws_FnExactLose.j1, hm2, hh1, T (K + 1) (by omega), (hv (K + 1) (by omega)).2, EQ (K + 1) (by omega), bne_self_eq_false, Option.bind_some, Bool.false_eq_true, if_false, if_true]
    rw [if_neg (by omega)]
    exact hj2
  have hj0 : laws_FnExactLose.j0 (K + 3) xs t n q b ys q b false = some true := by
    simp only [laws_FnExactLose.j0, T (K + 2) (by omega), E (K + 2) (by omega), hm1, EQ (K + 2) (by omega), bne_self_eq_false, Option.bind_some, Bool.false_eq_true, if_false, if_true]
    rw [if_neg (by omega)]
    exact hj1
  refine ⟨K + 3, ?_⟩
  unfold laws_FnExactLose.f
  rw [hz]; simp only [Option.bind_some]; rw [if_neg hneg]
  simp only [T (K + 3) (by omega), (hv (K + 3) (by omega)).1, (hv (K + 3) (by omega)).2, EQ (K + 3) (by omega), bne_self_eq_false, Option.bind_some, if_true]
  exact hj0

end Go.Proofs.Ytcokbhkjfdddkaa.Pure
