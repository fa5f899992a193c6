/- The program's AllOut returns what the reference's AllOut returns, for every list of stocks no longer than 2^20, and leaves it as it was. No further condition. -/
import Derived.Test.YtcokbhkjfdddkaaSFnExactAllOut
namespace Go.Proofs.Ytcokbhkjfdddkaa.Pure
open Go.RowKit Go.Proofs.Ytcokbhkjfdddkaa.Q Go.Proofs.YtcokbhkjfdddkaaW.PrintWords Go.Proofs.YtcokbhkjfdddkaaW.PrintLast Go.Proofs.YtcokbhkjfdddkaaW.PrintMore
set_option linter.unusedVariables false
set_option linter.unusedSimpArgs false

theorem ext_getD {α : Type} {d : α} {a b : List α} (h : a.length = b.length) (hj : ∀ j, j < a.length → a.getD j d = b.getD j d) : a = b := by
  apply List.ext_getElem h
  intro j h1 h2
  have := hj j h1
  simpa [List.getD_eq_getElem?_getD, List.getElem?_eq_getElem h1, List.getElem?_eq_getElem h2] using this

theorem getD_set {α : Type} {d : α} (a : List α) (i j : Nat) (v : α) (h : i < a.length) : (a.set i v).getD j d = if i = j then v else a.getD j d := by
  simp only [List.getD_eq_getElem?_getD, List.getElem?_set]
  by_cases e : i = j
  · subst e; simp [h]
  · simp [e]

theorem wrap_small {i : Int} {n : Nat} (h0 : 0 ≤ i) (h : i < (n : Int)) (hn : n ≤ 1048576) : wrap64 (i + 1) = i + 1 := by
  unfold wrap64; omega

def cStock (x : S110) : S108 := ⟨x.f0, x.f1, x.f2⟩
theorem toStock_ev (x : S110) : laws_toStock.f x.f0 x.f1 x.f2 = some (x.f0, x.f1, x.f2) := rfl
theorem toStockS_loop (xs : List S110) (hn : xs.length ≤ 1048576) : ∀ (d k : Nat) (acc : List S108) (i : Int), acc.length = xs.length → 0 ≤ i → (xs.length : Int) - i = d → d < k →
    (∀ j : Nat, (j : Int) < i → acc.getD j z108 = (xs.map cStock).getD j z108) → laws_toStockS.l0 k xs acc i = some (xs.map cStock) := by
  intro d
  induction d with
  | zero =>
    intro k acc i hl h0 hd hk hj
    obtain ⟨k, rfl⟩ : ∃ m, k = m + 1 := ⟨k - 1, by omega⟩
    simp only [laws_toStockS.l0]
    rw [if_neg (by omega)]
    exact congrArg some (ext_getD (by rw [List.length_map]; exact hl) (fun j h => hj j (by omega)))
  | succ d ih =>
    intro k acc i hl h0 hd hk hj
    obtain ⟨k, rfl⟩ : ∃ m, k = m + 1 := ⟨k - 1, by omega⟩
    simp only [laws_toStockS.l0, toStock_ev, Option.bind_some]
    rw [if_pos (by omega), if_pos h0, if_pos (by omega), wrap_small (n := xs.length) h0 (by omega) hn]
    refine ih k _ _ (by simpa using hl) (by omega) (by omega) (by omega) ?_
    intro j hj'
    rw [getD_set _ _ _ _ (by omega)]
    by_cases e : i.toNat = j
    · rw [if_pos e]
      have h1 : j < xs.length := by omega
      unfold rd_T110
      rw [e]
      simp [List.getD_eq_getElem?_getD, List.getElem?_eq_getElem h1, cStock]
    · rw [if_neg e]; exact hj j (by omega)
theorem toStockS_ev (xs : List S110) (hn : xs.length ≤ 1048576) (k : Nat) (hk : xs.length < k) : laws_toStockS.f k xs = some (xs.map cStock) := by
  unfold laws_toStockS.f
  rw [if_pos (by omega), if_pos (by omega)]
  exact toStockS_loop xs hn xs.length k _ 0 (by simp) (by omega) (by omega) hk (fun j hj => by omega)

theorem eqStock_ev (x : S108) : laws_eqStock.f x.f0 x.f1 x.f2 x.f0 x.f1 x.f2 = some true := by simp [laws_eqStock.f]
theorem eqStockS_loop (xs : List S108) (hn : xs.length ≤ 1048576) : ∀ (d k : Nat) (i : Int), 0 ≤ i → (xs.length : Int) - i = d → d < k → laws_eqStockS.l0 k xs xs i = some true := by
  intro d
  induction d with
  | zero =>
    intro k i h0 hd hk
    obtain ⟨k, rfl⟩ : ∃ m, k = m + 1 := ⟨k - 1, by omega⟩
    simp only [laws_eqStockS.l0]
    rw [if_neg (by omega)]
  | succ d ih =>
    intro k i h0 hd hk
    obtain ⟨k, rfl⟩ : ∃ m, k = m + 1 := ⟨k - 1, by omega⟩
    simp only [laws_eqStockS.l0, eqStock_ev, Option.bind_some, if_true]
    rw [if_pos (by omega), if_pos h0, if_pos (by omega), wrap_small (n := xs.length) h0 (by omega) hn]
    exact ih k _ (by omega) (by omega) (by omega)
theorem eqStockS_ev (xs : List S108) (hn : xs.length ≤ 1048576) (k : Nat) (hk : xs.length < k) : laws_eqStockS.f k xs xs = some true := by
  unfold laws_eqStockS.f
  rw [if_pos rfl]
  exact eqStockS_loop xs hn xs.length k 0 (by omega) (by omega) hk

theorem szStockS_ev (l : List S110) (hm : l.length ≤ maxLen) : ∃ r, laws_szStockS.f l 1048576 = some r ∧ (r < 0 ∨ l.length ≤ 1048576) := by
  unfold maxLen at hm
  have hw : wrap64 (1048576 - (l.length : Int)) = 1048576 - (l.length : Int) := by unfold wrap64; omega
  unfold laws_szStockS.f
  rw [hw]
  by_cases h : (1048576 - (l.length : Int)) < 0
  · rw [if_pos h]; exact ⟨_, rfl, .inl (by omega)⟩
  · rw [if_neg h]; exact ⟨_, rfl, .inr (by omega)⟩

theorem l1In_eq (a b c : Int) : spec_l1In.f a b c = some (decide (b ≤ a ∧ a ≤ c)) := by
  unfold spec_l1In.f
  by_cases h : a ≥ b
  · rw [if_pos h]; congr 1; have : b ≤ a := h; simp [this]
  · rw [if_neg h]; have : ¬ b ≤ a := h; simp [this]
theorem inRange_eq (a b c : Int) : impl_InRange.f a b c = some (decide (b ≤ a ∧ a ≤ c)) := by
  unfold impl_InRange.f
  by_cases h : b ≤ a
  · rw [if_pos h]; simp [h]
  · rw [if_neg h]; simp [h]

def okStock (l : List S108) (i : Int) : Prop :=
  1 ≤ (rd_T108 l i).f0 ∧ (rd_T108 l i).f0 ≤ 20 ∧ 0 ≤ (rd_T108 l i).f1 ∧ (rd_T108 l i).f1 ≤ 1000 ∧ 0 ≤ (rd_T108 l i).f2 ∧ (rd_T108 l i).f2 ≤ (rd_T108 l i).f1 ∧
    (0 < i → (rd_T108 l (i - 1)).f0 < (rd_T108 l i).f0)
instance (l : List S108) (i : Int) : Decidable (okStock l i) := by unfold okStock; exact inferInstance

theorem wrap_pred {i : Int} {n : Nat} (h0 : 0 ≤ i) (h : i ≤ (n : Int)) (hn : n ≤ 1048576) : wrap64 (i - 1) = i - 1 := by
  unfold wrap64; omega

theorem specStocks_step (l : List S108) (hn : l.length ≤ 1048576) (k : Nat) (i : Int) (h0 : 0 ≤ i) (hlt : i < (l.length : Int)) :
    spec_AreStocks.l0 (k + 1) l i = if okStock l i then spec_AreStocks.l0 k l (i + 1) else some false := by
  simp only [spec_AreStocks.l0, l1In_eq, Option.bind_some, decide_eq_true_eq, wrap_small (n := l.length) h0 hlt hn, wrap_pred (n := l.length) h0 (Int.le_of_lt hlt) hn, if_pos hlt, if_pos h0]
  by_cases hok : okStock l i
  · rw [if_pos hok]; unfold okStock at hok
    repeat' split
    all_goals first | rfl | (exfalso; omega)
  · rw [if_neg hok]; unfold okStock at hok
    repeat' split
    all_goals first | rfl | (exfalso; omega)

theorem implStocks_step (l : List S108) (hn : l.length ≤ 1048576) (k : Nat) (i : Int) (h0 : 0 ≤ i) (hlt : i < (l.length : Int)) :
    impl_AreStocks.l0 (k + 1) l l (l.length : Int) i = if okStock l i then impl_AreStocks.l0 k l l (l.length : Int) (i + 1) else some false := by
  simp only [impl_AreStocks.l0, inRange_eq, Option.bind_some, decide_eq_true_eq, wrap_small (n := l.length) h0 hlt hn, wrap_pred (n := l.length) h0 (Int.le_of_lt hlt) hn, if_pos hlt, if_pos h0]
  by_cases hok : okStock l i
  · rw [if_pos hok]; unfold okStock at hok
    repeat' split
    all_goals first | rfl | (exfalso; omega)
  · rw [if_neg hok]; unfold okStock at hok
    repeat' split
    all_goals first | rfl | (exfalso; omega)

theorem stocks_loop (l : List S108) (hn : l.length ≤ 1048576) : ∀ (d k : Nat) (i : Int), 0 ≤ i → (l.length : Int) - i = d → d < k →
    ∃ r, spec_AreStocks.l0 k l i = some r ∧ impl_AreStocks.l0 k l l (l.length : Int) i = some r ∧ (r = true ↔ ∀ j : Int, i ≤ j → j < l.length → okStock l j) := by
  intro d
  induction d with
  | zero =>
    intro k i h0 hd hk
    obtain ⟨k, rfl⟩ : ∃ m, k = m + 1 := ⟨k - 1, by omega⟩
    simp only [spec_AreStocks.l0, impl_AreStocks.l0]
    rw [if_neg (by omega), if_neg (by omega)]
    exact ⟨true, rfl, rfl, by simp; intro j h1 h2; omega⟩
  | succ d ih =>
    intro k i h0 hd hk
    obtain ⟨k, rfl⟩ : ∃ m, k = m + 1 := ⟨k - 1, by omega⟩
    rw [specStocks_step l hn k i h0 (by omega), implStocks_step l hn k i h0 (by omega)]
    by_cases hok : okStock l i
    · rw [if_pos hok, if_pos hok]
      obtain ⟨r, h1, h2, h3⟩ := ih k (i + 1) (by omega) (by omega) (by omega)
      refine ⟨r, h1, h2, ?_⟩
      rw [h3]
      constructor
      · intro h j hj hjl
        by_cases e : j = i
        · rw [e]; exact hok
        · exact h j (by omega) hjl
      · intro h j hj hjl; exact h j (by omega) hjl
    · rw [if_neg hok, if_neg hok]
      refine ⟨false, rfl, rfl, ?_⟩
      constructor
      · intro h; cases h
      · intro h; exact absurd (h i (by omega) (by omega)) hok

def Stocks (l : List S108) : Prop := ∀ j : Int, 0 ≤ j → j < l.length → okStock l j
theorem areStocks_ev (l : List S108) (hn : l.length ≤ 1048576) : ∃ r, (r = true ↔ Stocks l) ∧ ∀ k, l.length < k → spec_AreStocks.f k l = some r ∧ impl_AreStocks.f k l = some r := by
  obtain ⟨r, _, _, h3⟩ := stocks_loop l hn l.length (l.length + 1) 0 (by omega) (by omega) (by omega)
  refine ⟨r, h3, fun k hk => ?_⟩
  obtain ⟨r', h1, h2, h4⟩ := stocks_loop l hn l.length k 0 (by omega) (by omega) hk
  have : r' = r := by rw [Bool.eq_iff_iff, h4, h3]
  subst this
  exact ⟨h1, h2⟩

theorem allOut_no (l : List S108) (hn : l.length ≤ 1048576) (hb : ∀ k, l.length < k → impl_AreStocks.f k l = some false) : ∀ (d k : Nat) (acc i : Int), 0 ≤ i → (l.length : Int) - i = d → l.length + d < k → impl_AllOut.l0 k l acc l (l.length : Int) i = some acc := by
  intro d
  induction d with
  | zero =>
    intro k acc i h0 hd hk
    obtain ⟨k, rfl⟩ : ∃ m, k = m + 1 := ⟨k - 1, by omega⟩
    simp only [impl_AllOut.l0]
    rw [if_neg (by omega)]
  | succ d ih =>
    intro k acc i h0 hd hk
    obtain ⟨k, rfl⟩ : ∃ m, k = m + 1 := ⟨k - 1, by omega⟩
    have hlt : i < (l.length : Int) := by omega
    simp only [impl_AllOut.l0, hb k (by omega), Option.bind_some, if_pos hlt, if_pos h0, wrap_small (n := l.length) h0 hlt hn]
    exact ih k acc (i + 1) (by omega) (by omega) (by omega)

theorem allOut_loop (l : List S108) (hn : l.length ≤ 1048576) (b : Bool) (hb : ∀ k, l.length < k → spec_AreStocks.f k l = some b ∧ impl_AreStocks.f k l = some b) : ∀ (d k : Nat) (acc i : Int), 0 ≤ i → (l.length : Int) - i = d → l.length + d < k →
    ∃ r, spec_AllOut.l0 k l acc i = some r ∧ impl_AllOut.l0 k l acc l (l.length : Int) i = some r := by
  intro d
  induction d with
  | zero =>
    intro k acc i h0 hd hk
    obtain ⟨k, rfl⟩ : ∃ m, k = m + 1 := ⟨k - 1, by omega⟩
    simp only [spec_AllOut.l0, impl_AllOut.l0]
    rw [if_neg (by omega), if_neg (by omega)]
    exact ⟨_, rfl, rfl⟩
  | succ d ih =>
    intro k acc i h0 hd hk
    cases b with
    | false =>
      refine ⟨acc, ?_, allOut_no l hn (fun k hk => (hb k hk).2) (d + 1) k acc i h0 hd hk⟩
      obtain ⟨k, rfl⟩ : ∃ m, k = m + 1 := ⟨k - 1, by omega⟩
      have hlt : i < (l.length : Int) := by omega
      simp only [spec_AllOut.l0, (hb k (by omega)).1, Option.bind_some, if_pos hlt]
      rfl
    | true =>
      obtain ⟨k, rfl⟩ : ∃ m, k = m + 1 := ⟨k - 1, by omega⟩
      have hlt : i < (l.length : Int) := by omega
      simp only [spec_AllOut.l0, impl_AllOut.l0, (hb k (by omega)).1, (hb k (by omega)).2, Option.bind_some, if_pos hlt, if_pos h0, if_true, wrap_small (n := l.length) h0 hlt hn]
      exact ih k _ _ (by omega) (by omega) (by omega)

theorem allOut_ev (l : List S108) (hn : l.length ≤ 1048576) (k : Nat) (hk : 2 * l.length < k) : ∃ r, spec_AllOut.f k l = some r ∧ impl_AllOut.f k l = some r := by
  obtain ⟨b, _, hb⟩ := areStocks_ev l hn
  exact allOut_loop l hn b hb l.length k 0 0 (by omega) (by omega) (by omega)

theorem FnExactAllOut : laws_FnExactAllOut.Stmt := by
  intro xs hxs
  obtain ⟨z, hz, hz2⟩ := szStockS_ev xs hxs.1
  by_cases hneg : z < 0
  · exact ⟨0, by unfold laws_FnExactAllOut.f; rw [hz]; simp only [Option.bind_some]; rw [if_pos hneg]⟩
  have hn : xs.length ≤ 1048576 := hz2.resolve_left hneg
  have hn2 : (xs.map cStock).length ≤ 1048576 := by simpa using hn
  refine ⟨2 * xs.length + 1, ?_⟩
  obtain ⟨r, h1, h2⟩ := allOut_ev (xs.map cStock) hn2 (2 * xs.length + 1) (by simp)
  unfold laws_FnExactAllOut.f
  rw [hz]; simp only [Option.bind_some]; rw [if_neg hneg]
  simp only [toStockS_ev xs hn _ (show xs.length < 2 * xs.length + 1 by omega), eqStockS_ev (xs.map cStock) hn2 (2 * xs.length + 1) (by simp; omega), h1, h2, Option.bind_some, if_true]

end Go.Proofs.Ytcokbhkjfdddkaa.Pure
