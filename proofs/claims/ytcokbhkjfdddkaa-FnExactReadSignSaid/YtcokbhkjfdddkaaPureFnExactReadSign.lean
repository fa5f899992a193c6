/- The program's ReadSign returns what the reference's ReadSign returns, for every list of numbers no longer than 2^20, and leaves it as it was. No further condition. -/
import Derived.Test.YtcokbhkjfdddkaaSFnExactReadSign
namespace Go.Proofs.Ytcokbhkjfdddkaa.Pure
open Go.RowKit Go.Proofs.Ytcokbhkjfdddkaa.Q Go.Proofs.YtcokbhkjfdddkaaW.PrintWords Go.Proofs.YtcokbhkjfdddkaaW.PrintLast Go.Proofs.YtcokbhkjfdddkaaW.PrintMore
set_option linter.unusedVariables false
set_option linter.unusedSimpArgs false

theorem ext_getD {α : Type} {d : α} {a b : List α} (h : a.length = b.length) (hj : ∀ j, j < a.length → a.getD j d = b.getD j d) : a = b := by
  apply List.ext_getElem h
  intro j h1 h2
  have := hj j h1
  simpa [List.getD_eq_getElem?_getD, List.getElem?_eq_getElem h1, List.getElem?_eq_getElem h2] using this

theorem getD_set {α : Type} {d : α} (a : List α) (i j : Nat) (v : α) (h : i < a.length) : (a.set i v).getD j d = if i = j then v else a.getD j d := by
  simp only [List.getD_eq_getElem?_getD, List.getElem?_set]
  by_cases e : i = j
  · subst e; simp [h]
  · simp [e]

theorem wrap_small {i : Int} {n : Nat} (h0 : 0 ≤ i) (h : i < (n : Int)) (hn : n ≤ 1048576) : wrap64 (i + 1) = i + 1 := by
  unfold wrap64; omega

theorem toIntS_loop (xs : List Int) (hn : xs.length ≤ 1048576) : ∀ (d k : Nat) (acc : List Int) (i : Int), acc.length = xs.length → 0 ≤ i → (xs.length : Int) - i = d → d < k →
    (∀ j : Nat, (j : Int) < i → acc.getD j 0 = xs.getD j 0) → laws_toIntS.l0 k xs acc i = some xs := by
  intro d
  induction d with
  | zero =>
    intro k acc i hl h0 hd hk hj
    obtain ⟨k, rfl⟩ : ∃ m, k = m + 1 := ⟨k - 1, by omega⟩
    simp only [laws_toIntS.l0]
    rw [if_neg (by omega)]
    exact congrArg some (ext_getD hl (fun j h => hj j (by omega)))
  | succ d ih =>
    intro k acc i hl h0 hd hk hj
    obtain ⟨k, rfl⟩ : ∃ m, k = m + 1 := ⟨k - 1, by omega⟩
    simp only [laws_toIntS.l0]
    rw [if_pos (by omega), if_pos h0, if_pos (by omega), wrap_small (n := xs.length) h0 (by omega) hn]
    refine ih k _ _ (by simpa using hl) (by omega) (by omega) (by omega) ?_
    intro j hj'
    rw [getD_set _ _ _ _ (by omega)]
    by_cases e : i.toNat = j
    · rw [if_pos e]; unfold rd; rw [e]
    · rw [if_neg e]; exact hj j (by omega)

theorem toIntS_ev (xs : List Int) (hn : xs.length ≤ 1048576) (k : Nat) (hk : xs.length < k) : laws_toIntS.f k xs = some xs := by
  unfold laws_toIntS.f
  rw [if_pos (by omega), if_pos (by omega)]
  exact toIntS_loop xs hn xs.length k _ 0 (by simp) (by omega) (by omega) hk (fun j hj => by omega)

theorem eqIntS_loop (xs : List Int) (hn : xs.length ≤ 1048576) : ∀ (d k : Nat) (i : Int), 0 ≤ i → (xs.length : Int) - i = d → d < k → laws_eqIntS.l0 k xs xs i = some true := by
  intro d
  induction d with
  | zero =>
    intro k i h0 hd hk
    obtain ⟨k, rfl⟩ : ∃ m, k = m + 1 := ⟨k - 1, by omega⟩
    simp only [laws_eqIntS.l0]
    rw [if_neg (by omega)]
  | succ d ih =>
    intro k i h0 hd hk
    obtain ⟨k, rfl⟩ : ∃ m, k = m + 1 := ⟨k - 1, by omega⟩
    simp only [laws_eqIntS.l0]
    rw [if_pos (by omega), if_pos h0, if_pos (by omega), if_pos trivial, wrap_small (n := xs.length) h0 (by omega) hn]
    exact ih k _ (by omega) (by omega) (by omega)

theorem eqIntS_ev (xs : List Int) (hn : xs.length ≤ 1048576) (k : Nat) (hk : xs.length < k) : laws_eqIntS.f k xs xs = some true := by
  unfold laws_eqIntS.f
  rw [if_pos rfl]
  exact eqIntS_loop xs hn xs.length k 0 (by omega) (by omega) hk

theorem drop_step {α : Type} (d : α) (l : List α) (i : Int) (h0 : 0 ≤ i) (h : i < (l.length : Int)) : l.drop i.toNat = l.getD i.toNat d :: l.drop (i + 1).toNat := by
  have h1 : i.toNat < l.length := by omega
  rw [List.drop_eq_getElem_cons h1, show (i + 1).toNat = i.toNat + 1 by omega]
  congr 1
  simp [List.getD_eq_getElem?_getD, List.getElem?_eq_getElem h1]

theorem l1In_eq (a b c : Int) : spec_l1In.f a b c = some (decide (b ≤ a ∧ a ≤ c)) := by
  unfold spec_l1In.f
  by_cases h : a ≥ b
  · rw [if_pos h]; congr 1; have : b ≤ a := h; simp [this]
  · rw [if_neg h]; have : ¬ b ≤ a := h; simp [this]
theorem inRange_eq (a b c : Int) : impl_InRange.f a b c = some (decide (b ≤ a ∧ a ≤ c)) := by
  unfold impl_InRange.f
  by_cases h : b ≤ a
  · rw [if_pos h]; simp [h]
  · rw [if_neg h]; simp [h]

def cnt2 : Int → List Int → Int
  | c, [] => c
  | c, v :: vs => if v = 2 then cnt2 (wrap64 (c + 1)) vs else cnt2 c vs
theorem count_loop (l : List Int) (hn : l.length ≤ 1048576) : ∀ (d k : Nat) (c i : Int), 0 ≤ i → (l.length : Int) - i = d → d < k →
    spec_CountLong.l0 k l c i = some (cnt2 c (l.drop i.toNat)) ∧ impl_CountLong.l0 k c l (l.length : Int) i = some (cnt2 c (l.drop i.toNat)) := by
  intro d
  induction d with
  | zero =>
    intro k c i h0 hd hk
    obtain ⟨k, rfl⟩ : ∃ m, k = m + 1 := ⟨k - 1, by omega⟩
    simp only [spec_CountLong.l0, impl_CountLong.l0]
    rw [if_neg (by omega), if_neg (by omega), List.drop_eq_nil_of_le (by omega)]
    exact ⟨rfl, rfl⟩
  | succ d ih =>
    intro k c i h0 hd hk
    obtain ⟨k, rfl⟩ : ∃ m, k = m + 1 := ⟨k - 1, by omega⟩
    have hlt : i < (l.length : Int) := by omega
    simp only [spec_CountLong.l0, impl_CountLong.l0, if_pos hlt, if_pos h0, wrap_small (n := l.length) h0 hlt hn]
    rw [drop_step 0 l i h0 hlt, show l.getD i.toNat 0 = rd l i from rfl]
    unfold cnt2
    by_cases e : rd l i = 2
    · simp only [if_pos e]; exact ih k _ _ (by omega) (by omega) (by omega)
    · simp only [if_neg e]; exact ih k _ _ (by omega) (by omega) (by omega)
theorem count_ev (l : List Int) (hn : l.length ≤ 1048576) (k : Nat) (hk : l.length < k) : spec_CountLong.f k l = some (cnt2 0 l) ∧ impl_CountLong.f k l = some (cnt2 0 l) := by
  have := count_loop l hn l.length k 0 0 (by omega) (by omega) hk
  rw [Int.toNat_zero, List.drop_zero] at this
  exact this

theorem half_eq {n : Int} (h0 : 0 ≤ n) (h : n ≤ 4611686018427387904) : wrap64 (Int.tdiv n 2) = n / 2 := by
  rw [Int.tdiv_eq_ediv_of_nonneg h0]; unfold wrap64; omega

theorem sign_loop : ∀ (d : Nat) (n : Int) (acc : List Int), 0 ≤ n → n < 2 ^ d → n ≤ 10000 → acc.length + d ≤ 1000 →
    ∃ r, (r.length ≤ acc.length + d + 1 ∨ (d = 0 ∧ r.length ≤ acc.length + 2)) ∧ ∀ k, acc.length + 2 * d + 3 < k → impl_SignOf.l0 k n acc = some r ∧ spec_SignOf.l0 k (n / 2) ([wrap64 (1 + Int.tmod n 2)] ++ acc) = some r := by
  intro d
  induction d with
  | zero =>
    intro n acc h0 h1 h2 hl
    obtain rfl : n = 0 := by simp at h1; omega
    refine ⟨([wrap64 (1 + Int.tmod 0 2)] ++ acc) ++ [wrap64 (1 + Int.tmod (cnt2 0 ([wrap64 (1 + Int.tmod 0 2)] ++ acc)) 2)], Or.inr ⟨rfl, by simp⟩, fun k hk => ?_⟩
    obtain ⟨k, rfl⟩ : ∃ m, k = m + 1 := ⟨k - 1, by omega⟩
    have hc := count_ev ([wrap64 (1 + Int.tmod 0 2)] ++ acc) (by simp <;> omega) k (by simp <;> omega)
    have hx : ([wrap64 (1 + Int.tmod 0 2)] ++ acc).length < 17592186044416 := by simp; omega
    have hx2 : ([wrap64 (1 + Int.tmod 0 2)] : List Int).length + acc.length < 17592186044416 := by simp; omega
    have hg : ¬ ((0 : Int) / 2 > 0) := by omega
    have hz : (0 : Int) / 2 = 0 := by omega
    constructor
    · simp only [impl_SignOf.l0, half_eq (Int.le_refl 0) (by omega), Int.add_comm (Int.tmod 0 2) 1, Option.bind_some, if_pos hx2, if_pos hz, hc.2, if_pos hx]
      rw [Int.add_comm (Int.tmod _ 2) 1]
    · simp only [spec_SignOf.l0, if_neg hg, hc.1, Option.bind_some, if_pos hx]
  | succ d ih =>
    intro n acc h0 h1 h2 hl
    have hx : ([wrap64 (1 + Int.tmod n 2)] ++ acc).length < 17592186044416 := by simp; omega
    have hx2 : ([wrap64 (1 + Int.tmod n 2)] : List Int).length + acc.length < 17592186044416 := by simp; omega
    by_cases hz : n / 2 = 0
    · have hg : ¬ (n / 2 > 0) := by omega
      refine ⟨([wrap64 (1 + Int.tmod n 2)] ++ acc) ++ [wrap64 (1 + Int.tmod (cnt2 0 ([wrap64 (1 + Int.tmod n 2)] ++ acc)) 2)], Or.inl (by simp <;> omega), fun k hk => ?_⟩
      obtain ⟨k, rfl⟩ : ∃ m, k = m + 1 := ⟨k - 1, by omega⟩
      have hc := count_ev ([wrap64 (1 + Int.tmod n 2)] ++ acc) (by simp <;> omega) k (by simp <;> omega)
      constructor
      · simp only [impl_SignOf.l0, half_eq h0 (by omega), Int.add_comm (Int.tmod n 2) 1, Option.bind_some, if_pos hx2, if_pos hz, hc.2, if_pos hx]
        rw [Int.add_comm (Int.tmod (cnt2 _ _) 2) 1]
      · simp only [spec_SignOf.l0, if_neg hg, hc.1, Option.bind_some, if_pos hx]
    · have hg : n / 2 > 0 := by omega
      have h3 : n / 2 < 2 ^ d := by rw [Int.pow_succ] at h1; omega
      obtain ⟨r, hrl, hk2⟩ := ih (n / 2) ([wrap64 (1 + Int.tmod n 2)] ++ acc) (by omega) h3 (by omega) (by simp <;> omega)
      have hx3 : ([wrap64 (1 + Int.tmod (n / 2) 2)] : List Int).length + ([wrap64 (1 + Int.tmod n 2)] ++ acc).length < 17592186044416 := by simp; omega
      have hrl2 : r.length ≤ acc.length + (d + 1) + 1 := by
        rcases hrl with h | ⟨h, _⟩
        · simp at h; omega
        · subst h; simp at h3; omega
      refine ⟨r, Or.inl hrl2, fun k hk => ?_⟩
      obtain ⟨k, rfl⟩ : ∃ m, k = m + 1 := ⟨k - 1, by omega⟩
      obtain ⟨hr, hs⟩ := hk2 k (by simp <;> omega)
      constructor
      · simp only [impl_SignOf.l0, half_eq h0 (by omega), Int.add_comm (Int.tmod n 2) 1, Option.bind_some, if_pos hx2, if_neg hz]
        exact hr
      · simp only [spec_SignOf.l0, half_eq (show 0 ≤ n / 2 by omega) (by omega), Option.bind_some, if_pos hx3, if_pos hg]
        exact hs

theorem signOf_ev (n : Int) : ∃ r, r.length ≤ 15 ∧ ∀ k, 40 < k → spec_SignOf.f k n = some r ∧ impl_SignOf.f k n = some r := by
  by_cases hin : 0 ≤ n ∧ n ≤ 9999
  · obtain ⟨r, hl, hk⟩ := sign_loop 14 n [] hin.1 (by omega) (by omega) (by simp)
    have hl2 : r.length ≤ 15 := by
      rcases hl with h | ⟨h, _⟩
      · simpa using h
      · omega
    refine ⟨r, hl2, fun k h => ?_⟩
    obtain ⟨hr, hs⟩ := hk k (by simp <;> omega)
    unfold spec_SignOf.f impl_SignOf.f
    simp only [l1In_eq, inRange_eq, hin, and_self, decide_true, Option.bind_some, if_true, half_eq hin.1 (by omega)]
    exact ⟨by simpa using hs, hr⟩
  · refine ⟨[], by simp, fun k hk => ?_⟩
    unfold spec_SignOf.f impl_SignOf.f
    simp only [l1In_eq, inRange_eq, hin, decide_false, Option.bind_some, Bool.false_eq_true, if_false]
    exact ⟨trivial, trivial⟩

theorem equalInts_loop (a b : List Int) (hn : a.length ≤ 1048576) (hl : a.length = b.length) : ∀ (d k : Nat) (i : Int), 0 ≤ i → (a.length : Int) - i = d → d < k →
    impl_EqualInts.l0 k a b (a.length : Int) i = some (decide (a.drop i.toNat = b.drop i.toNat)) ∧ spec_EqualInts.l0 k a b i = some (decide (a.drop i.toNat = b.drop i.toNat)) := by
  intro d
  induction d with
  | zero =>
    intro k i h0 hd hk
    obtain ⟨k, rfl⟩ : ∃ m, k = m + 1 := ⟨k - 1, by omega⟩
    have hlt : ¬ i < (a.length : Int) := by omega
    rw [List.drop_eq_nil_of_le (show a.length ≤ i.toNat by omega), List.drop_eq_nil_of_le (show b.length ≤ i.toNat by omega)]
    simp only [impl_EqualInts.l0, spec_EqualInts.l0, if_neg hlt, decide_true, and_self]
  | succ d ih =>
    intro k i h0 hd hk
    obtain ⟨k, rfl⟩ : ∃ m, k = m + 1 := ⟨k - 1, by omega⟩
    have hlt : i < (a.length : Int) := by omega
    have hlt2 : i < (b.length : Int) := by omega
    obtain ⟨h1, h2⟩ := ih k (i + 1) (by omega) (by omega) (by omega)
    rw [drop_step 0 a i h0 hlt, drop_step 0 b i h0 hlt2, show a.getD i.toNat 0 = rd a i from rfl, show b.getD i.toNat 0 = rd b i from rfl]
    simp only [impl_EqualInts.l0, spec_EqualInts.l0, if_pos hlt, if_pos hlt2, if_pos h0, wrap_small (n := a.length) h0 hlt hn, h1, h2, List.cons.injEq]
    by_cases e : rd a i = rd b i
    · simp [e]
    · simp [e]
theorem equalInts_ev (a b : List Int) (hn : a.length ≤ 1048576) (k : Nat) (hk : a.length < k) : impl_EqualInts.f k a b = some (decide (a = b)) ∧ spec_EqualInts.f k a b = some (decide (a = b)) := by
  unfold impl_EqualInts.f spec_EqualInts.f
  by_cases hl : a.length = b.length
  · rw [if_pos (by omega), if_pos (by omega)]
    have := equalInts_loop a b hn hl a.length k 0 (by omega) (by omega) hk
    rw [Int.toNat_zero, List.drop_zero, List.drop_zero] at this
    exact this
  · rw [if_neg (by omega), if_neg (by omega)]
    have e : ¬ a = b := fun h => hl (by rw [h])
    simp [e]

theorem readSign_loop (l L : List Int) (h2 : 2 ≤ l.length) (h15 : l.length ≤ 15) (hL : (L.length : Int) = (l.length : Int) - 1) (hrd : ∀ i : Int, 0 ≤ i → i < (L.length : Int) → rd L i = rd l i) :
    ∀ (d : Nat) (i n : Int), 0 ≤ i → (L.length : Int) - i = d → ∃ v, ∀ k, 60 + 2 * d < k → impl_ReadSign.l0 k l n L (L.length : Int) i = some v ∧ spec_ReadSign.l0 k l n i = some v := by
  have hw : wrap64 ((l.length : Int) - 1) = (L.length : Int) := by unfold wrap64; omega
  have h20 : (l.length : Int) ≤ 20 := by omega
  intro d
  induction d with
  | zero =>
    intro i n h0 hd
    have hlt : ¬ i < (L.length : Int) := by omega
    have hl2 : ¬ (l.length : Int) < 2 := by omega
    obtain ⟨r, hr, hk2⟩ := signOf_ev n
    refine ⟨if decide (r = l) = true then (n, true) else (0, false), fun k hk => ?_⟩
    obtain ⟨k, rfl⟩ : ∃ m, k = m + 2 := ⟨k - 2, by omega⟩
    have a1 := (hk2 (k + 1) (by omega)).2
    have a2 := (hk2 k (by omega)).1
    have e1 := (equalInts_ev r l (by omega) (k + 1) (by omega)).1
    have e2 := (equalInts_ev r l (by omega) k (by omega)).2
    simp only [impl_ReadSign.l0, spec_ReadSign.l0, spec_ReadSign.j1, hw, if_neg hlt, Bool.false_eq_true, if_false, if_neg hl2, a1, a2, Option.bind_some, e1, e2]
    split <;> exact ⟨rfl, rfl⟩
  | succ d ih =>
    intro i n h0 hd
    have hlt : i < (L.length : Int) := by omega
    have hlt2 : i < (l.length : Int) := by omega
    have hwi : wrap64 (i + 1) = i + 1 := by unfold wrap64; omega
    by_cases e : 1 ≤ rd l i ∧ rd l i ≤ 2
    · obtain ⟨v, hv⟩ := ih (i + 1) (wrap64 (wrap64 (wrap64 (2 * n) + rd l i) - 1)) (by omega) (by omega)
      refine ⟨v, fun k hk => ?_⟩
      obtain ⟨k, rfl⟩ : ∃ m, k = m + 2 := ⟨k - 2, by omega⟩
      have v1 := (hv (k + 1) (by omega)).1
      have v2 := (hv k (by omega)).2
      constructor
      · rw [impl_ReadSign.l0]
        simp only [if_pos hlt, if_pos h0, inRange_eq, hrd i h0 hlt, e, and_self, decide_true, Option.bind_some, if_true, hwi, v1]
      · rw [spec_ReadSign.l0]
        simp only [hw, spec_ReadSign.j1, if_pos hlt, h20, decide_true, if_true, if_pos h0, if_pos hlt2, l1In_eq, e, and_self, Option.bind_some, hwi, v2]
    · refine ⟨(0, false), fun k hk => ?_⟩
      obtain ⟨k, rfl⟩ : ∃ m, k = m + 2 := ⟨k - 2, by omega⟩
      constructor
      · rw [impl_ReadSign.l0]
        simp only [if_pos hlt, if_pos h0, inRange_eq, hrd i h0 hlt, e, decide_false, Option.bind_some, Bool.false_eq_true, if_false]
      · rw [spec_ReadSign.l0]
        simp only [hw, spec_ReadSign.j1, if_pos hlt, h20, decide_true, if_true, if_pos h0, if_pos hlt2, l1In_eq, e, decide_false, Option.bind_some, Bool.false_eq_true, if_false]
theorem readSign_end (l : List Int) (n i : Int) (b : Bool) (hb : b = false) (h15 : 15 < l.length) (hn : l.length ≤ 1048576) (k : Nat) (hk : 60 < k) : spec_ReadSign.j1 k l n i b = some (0, false) := by
  subst hb
  obtain ⟨k, rfl⟩ : ∃ m, k = m + 1 := ⟨k - 1, by omega⟩
  obtain ⟨r, hr, hk2⟩ := signOf_ev n
  have e2 := (equalInts_ev r l (by omega) k (by omega)).2
  have hne : ¬ r = l := fun h => by rw [h] at hr; omega
  simp only [spec_ReadSign.j1, Bool.false_eq_true, if_false, (hk2 k (by omega)).1, Option.bind_some, e2, hne, decide_false, ite_self]
theorem readSign_big (l : List Int) (h15 : 15 < l.length) (hn : l.length ≤ 1048576) :
    ∀ (d : Nat) (i n : Int), 0 ≤ i → (l.length : Int) - 1 - i ≤ d → ∀ k, 60 + 2 * d + 1 < k → spec_ReadSign.l0 k l n i = some (0, false) := by
  have hw : wrap64 ((l.length : Int) - 1) = (l.length : Int) - 1 := by unfold wrap64; omega
  intro d
  induction d with
  | zero =>
    intro i n h0 hd k hk
    obtain ⟨k, rfl⟩ : ∃ m, k = m + 1 := ⟨k - 1, by omega⟩
    have hlt : ¬ i < (l.length : Int) - 1 := by omega
    rw [spec_ReadSign.l0]
    simp only [hw, if_neg hlt]
    exact readSign_end l n i false rfl h15 hn k (by omega)
  | succ d ih =>
    intro i n h0 hd k hk
    obtain ⟨k, rfl⟩ : ∃ m, k = m + 2 := ⟨k - 2, by omega⟩
    by_cases hlt : i < (l.length : Int) - 1
    · by_cases h20 : (l.length : Int) ≤ 20
      · have hwi : wrap64 (i + 1) = i + 1 := by unfold wrap64; omega
        have hlt2 : i < (l.length : Int) := by omega
        rw [spec_ReadSign.l0]
        simp only [hw, spec_ReadSign.j1, if_pos hlt, h20, decide_true, if_true, if_pos h0, if_pos hlt2, l1In_eq, Option.bind_some, hwi, ih (i + 1) _ (by omega) (by omega) k (by omega), ite_self]
      · rw [spec_ReadSign.l0]
        simp only [hw, if_pos hlt, h20, decide_false]
        exact readSign_end l n i false rfl h15 hn (k + 1) (by omega)
    · rw [spec_ReadSign.l0]
      simp only [hw, if_neg hlt]
      exact readSign_end l n i false rfl h15 hn (k + 1) (by omega)
theorem readSign_ev (l : List Int) (hn : l.length ≤ 1048576) : ∃ v, ∀ k, 64 + 2 * l.length < k → impl_ReadSign.f k l = some v ∧ spec_ReadSign.f k l = some v := by
  by_cases h2 : 2 ≤ l.length
  · by_cases h15 : l.length ≤ 15
    · have hw : wrap64 ((l.length : Int) - 1) = (l.length : Int) - 1 := by unfold wrap64; omega
      have hin : 2 ≤ (l.length : Int) ∧ (l.length : Int) ≤ 15 := by omega
      have hL : ((l.take ((l.length : Int) - 1).toNat).length : Int) = (l.length : Int) - 1 := by rw [List.length_take]; omega
      obtain ⟨v, hv⟩ := readSign_loop l (l.take ((l.length : Int) - 1).toNat) h2 h15 hL (fun i hi1 hi2 => by
        have h3 : i.toNat < l.length - 1 := by omega
        unfold rd
        have h4 : i.toNat < l.length := by omega
        simp [List.getD_eq_getElem?_getD, List.getElem?_take, h3, List.getElem?_eq_getElem h4]) (l.length - 1) 0 0 (by omega) (by omega)
      refine ⟨v, fun k hk => ?_⟩
      obtain ⟨v1, v2⟩ := hv k (by omega)
      unfold impl_ReadSign.f spec_ReadSign.f
      refine ⟨?_, v2⟩
      have g1 : 0 ≤ (l.length : Int) - 1 := by omega
      have g2 : (l.length : Int) - 1 ≤ (l.length : Int) := by omega
      simp only [inRange_eq, hin, and_self, decide_true, Option.bind_some, if_true, hw, if_pos g1, if_pos g2]
      exact v1
    · refine ⟨(0, false), fun k hk => ⟨?_, ?_⟩⟩
      · have hin : ¬ (2 ≤ (l.length : Int) ∧ (l.length : Int) ≤ 15) := by omega
        unfold impl_ReadSign.f
        simp only [inRange_eq, hin, decide_false, Option.bind_some, Bool.false_eq_true, if_false]
      · exact readSign_big l (by omega) hn l.length 0 0 (by omega) (by omega) k (by omega)
  · refine ⟨(0, false), fun k hk => ?_⟩
    obtain ⟨k, rfl⟩ : ∃ m, k = m + 2 := ⟨k - 2, by omega⟩
    have hin : ¬ (2 ≤ (l.length : Int) ∧ (l.length : Int) ≤ 15) := by omega
    have hw : wrap64 ((l.length : Int) - 1) = (l.length : Int) - 1 := by unfold wrap64; omega
    have hlt : ¬ (0 : Int) < (l.length : Int) - 1 := by omega
    have hl2 : (l.length : Int) < 2 := by omega
    unfold impl_ReadSign.f spec_ReadSign.f
    simp only [inRange_eq, hin, decide_false, Option.bind_some, Bool.false_eq_true, if_false, spec_ReadSign.l0, hw, if_neg hlt, spec_ReadSign.j1, if_pos hl2, and_self]

theorem FnExactReadSign : laws_FnExactReadSign.Stmt := by
  intro xs _
  by_cases hbig : (xs.length : Int) > 1048576
  · exact ⟨0, by unfold laws_FnExactReadSign.f; rw [if_pos hbig]⟩
  have hn : xs.length ≤ 1048576 := by omega
  obtain ⟨v, hv⟩ := readSign_ev xs hn
  obtain ⟨k, hk⟩ : ∃ k, k = 2 * xs.length + 80 := ⟨_, rfl⟩
  obtain ⟨h1, h2⟩ := hv (k + 1) (by omega)
  refine ⟨k + 1, ?_⟩
  unfold laws_FnExactReadSign.f
  rw [if_neg hbig]
  simp only [toIntS_ev xs hn (k + 1) (by omega), toIntS_ev xs hn k (by omega), eqIntS_ev xs hn k (by omega), h1, h2, Option.bind_some, if_true, laws_FnExactReadSign.j0, bne_self_eq_false, Bool.false_eq_true, if_false]

end Go.Proofs.Ytcokbhkjfdddkaa.Pure
