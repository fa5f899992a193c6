/- The program's WayText returns what the reference's WayText returns, for every land and way whose lists are no longer than 2^20, and leaves both as they were. The listed tables of the library's are as the program's text lays them (the card's tie); none of them is read. -/
import Derived.Test.YtnicfhfclnmdaaaDoorSFnExactWayText
namespace Go.Proofs.YtnicfhfclnmdaaaDoor.Pure
open Go.RowKit Go.Proofs.YtnicfhfclnmdaaaDoor.Q Go.Proofs.YtnicfhfclnmdaaaDoorW.PrintWords Go.Proofs.YtnicfhfclnmdaaaDoorW.PrintLast Go.Proofs.YtnicfhfclnmdaaaDoorW.PrintMore
set_option linter.unusedVariables false
set_option linter.unusedSimpArgs false
theorem ext_getD {α : Type} {d : α} {a b : List α} (h : a.length = b.length) (hj : ∀ j, j < a.length → a.getD j d = b.getD j d) : a = b := by
 apply List.ext_getElem h
 intro j h1 h2
 have := hj j h1
 simpa [List.getD_eq_getElem?_getD, List.getElem?_eq_getElem h1, List.getElem?_eq_getElem h2] using this
theorem getD_set {α : Type} {d : α} (a : List α) (i j : Nat) (v : α) (h : i < a.length) : (a.set i v).getD j d = if i = j then v else a.getD j d := by
 simp only [List.getD_eq_getElem?_getD, List.getElem?_set]
 by_cases e : i = j
 ·subst e; simp [h]
 ·simp [e]
theorem wrap_small {i : Int} {n : Nat} (h0 : 0 ≤ i) (h : i < (n : Int)) (hn : n ≤ 1048576) : wrap64 (i + 1) = i + 1 := by
 unfold wrap64; omega
theorem toIntS_loop (xs : List Int) (hn : xs.length ≤ 1048576) : ∀ (d k : Nat) (acc : List Int) (i : Int), acc.length = xs.length → 0 ≤ i → (xs.length : Int) - i = d → d < k →
  (∀ j : Nat, (j : Int) < i → acc.getD j 0 = xs.getD j 0) → laws_toIntS.l0 k xs acc i = some xs := by
 intro d
 induction d with
 | zero =>
  intro k acc i hl h0 hd hk hj
  obtain ⟨k, rfl⟩ : ∃ m, k = m + 1 := ⟨k - 1, by omega⟩
  simp only [laws_toIntS.l0]
  rw [if_neg (by omega)]
  exact congrArg some (ext_getD hl (fun j h => hj j (by omega)))
 | succ d ih =>
  intro k acc i hl h0 hd hk hj
  obtain ⟨k, rfl⟩ : ∃ m, k = m + 1 := ⟨k - 1, by omega⟩
  simp only [laws_toIntS.l0]
  rw [if_pos (by omega), if_pos h0, if_pos (by omega), wrap_small (n := xs.length) h0 (by omega) hn]
  refine ih k _ _ (by simpa using hl) (by omega) (by omega) (by omega) ?_
  intro j hj'
  rw [getD_set _ _ _ _ (by omega)]
  by_cases e : i.toNat = j
  ·rw [if_pos e]; unfold rd; rw [e]
  ·rw [if_neg e]; exact hj j (by omega)
theorem toIntS_ev (xs : List Int) (hn : xs.length ≤ 1048576) (k : Nat) (hk : xs.length < k) : laws_toIntS.f k xs = some xs := by
 unfold laws_toIntS.f
 rw [if_pos (by omega), if_pos (by omega)]
 exact toIntS_loop xs hn xs.length k _ 0 (by simp) (by omega) (by omega) hk (fun j hj => by omega)
theorem eqIntS_loop (xs : List Int) (hn : xs.length ≤ 1048576) : ∀ (d k : Nat) (i : Int), 0 ≤ i → (xs.length : Int) - i = d → d < k → laws_eqIntS.l0 k xs xs i = some true := by
 intro d
 induction d with
 | zero =>
  intro k i h0 hd hk
  obtain ⟨k, rfl⟩ : ∃ m, k = m + 1 := ⟨k - 1, by omega⟩
  simp only [laws_eqIntS.l0]
  rw [if_neg (by omega)]
 | succ d ih =>
  intro k i h0 hd hk
  obtain ⟨k, rfl⟩ : ∃ m, k = m + 1 := ⟨k - 1, by omega⟩
  simp only [laws_eqIntS.l0]
  rw [if_pos (by omega), if_pos h0, if_pos (by omega), if_pos trivial, wrap_small (n := xs.length) h0 (by omega) hn]
  exact ih k _ (by omega) (by omega) (by omega)
theorem eqIntS_ev (xs : List Int) (hn : xs.length ≤ 1048576) (k : Nat) (hk : xs.length < k) : laws_eqIntS.f k xs xs = some true := by
 unfold laws_eqIntS.f
 rw [if_pos rfl]
 exact eqIntS_loop xs hn xs.length k 0 (by omega) (by omega) hk
theorem szIntS_ev (l : List Int) (hm : l.length ≤ maxLen) : ∃ r, laws_szIntS.f l 1048576 = some r ∧ (r < 0 ∨ l.length ≤ 1048576) := by
 unfold maxLen at hm
 have hw : wrap64 (1048576 - (l.length : Int)) = 1048576 - (l.length : Int) := by unfold wrap64; omega
 unfold laws_szIntS.f
 rw [hw]
 by_cases h : (1048576 - (l.length : Int)) < 0
 ·rw [if_pos h]; exact ⟨_, rfl, .inl (by omega)⟩
 ·rw [if_neg h]; exact ⟨_, rfl, .inr (by omega)⟩
theorem l1In_eq (a b c : Int) : spec_l1In.f a b c = some (decide (b ≤ a ∧ a ≤ c)) := by
 unfold spec_l1In.f
 by_cases h : a ≥ b
 ·rw [if_pos h]; congr 1; have : b ≤ a := h; simp [this]
 ·rw [if_neg h]; have : ¬ b ≤ a := h; simp [this]
theorem inRange_eq (a b c : Int) : impl_InRange.f a b c = some (decide (b ≤ a ∧ a ≤ c)) := by
 unfold impl_InRange.f
 by_cases h : b ≤ a
 ·rw [if_pos h]; simp [h]
 ·rw [if_neg h]; simp [h]
theorem landCells_loop (W H : Int) (xs : List Int) (hn : xs.length ≤ 1048576) : ∀ (d : Nat) (i : Int), 0 ≤ i → (xs.length : Int) - i = d →
  ∃ b, (∀ k, d < k → impl_allIn.l0 k 0 2 xs (xs.length : Int) i = some b ∧ spec_IsLand.l0 k i W H xs = some b) ∧ (b = true → ∀ j : Int, i ≤ j → j < (xs.length : Int) → 0 ≤ rd xs j ∧ rd xs j ≤ 2) := by
 intro d
 induction d with
 | zero =>
  intro i h0 hd
  have hlt : ¬ i < (xs.length : Int) := by omega
  refine ⟨true, fun k hk => ?_, fun _ j h1 h2 => by omega⟩
  obtain ⟨k, rfl⟩ : ∃ m, k = m + 1 := ⟨k - 1, by omega⟩
  simp only [impl_allIn.l0, spec_IsLand.l0, if_neg hlt, and_self]
 | succ d ih =>
  intro i h0 hd
  have hlt : i < (xs.length : Int) := by omega
  obtain ⟨b, hb, hp⟩ := ih (i + 1) (by omega) (by omega)
  by_cases e : 0 ≤ rd xs i ∧ rd xs i ≤ 2
  ·refine ⟨b, fun k hk => ?_, fun h j h1 h2 => ?_⟩
   ·obtain ⟨k, rfl⟩ : ∃ m, k = m + 1 := ⟨k - 1, by omega⟩
    simp only [impl_allIn.l0, spec_IsLand.l0, if_pos hlt, if_pos h0, l1In_eq, inRange_eq, e, and_self, decide_true, Option.bind_some, if_true, wrap_small (n := xs.length) h0 hlt hn]
    exact hb k (by omega)
   ·by_cases h3 : j = i
    ·subst h3; exact e
    ·exact hp h j (by omega) h2
  ·refine ⟨false, fun k hk => ?_, fun h => by cases h⟩
   obtain ⟨k, rfl⟩ : ∃ m, k = m + 1 := ⟨k - 1, by omega⟩
   simp only [impl_allIn.l0, spec_IsLand.l0, if_pos hlt, if_pos h0, l1In_eq, inRange_eq, e, decide_false, Option.bind_some, Bool.false_eq_true, if_false, and_self]
theorem isLand_ev (W H : Int) (xs : List Int) (hn : xs.length ≤ 1048576) : ∃ b, (∀ k, xs.length + 1 < k → impl_IsLand.f k W H xs = some b ∧ spec_IsLand.f k W H xs = some b) ∧
  (b = true → (1 ≤ W ∧ W ≤ 8) ∧ (1 ≤ H ∧ H ≤ 8) ∧ (xs.length : Int) = W * H ∧ 1 ≤ xs.length ∧ xs.length ≤ 64 ∧ ∀ j : Int, 0 ≤ j → j < (xs.length : Int) → 0 ≤ rd xs j ∧ rd xs j ≤ 2) := by
 by_cases hW : 1 ≤ W ∧ W ≤ 8
 ·by_cases hH : 1 ≤ H ∧ H ≤ 8
  ·have h1 : W * H ≤ 8 * 8 := Int.mul_le_mul hW.2 hH.2 (by omega) (by omega)
   have h2 : 1 * 1 ≤ W * H := Int.mul_le_mul hW.1 hH.1 (by omega) (by omega)
   have hw : wrap64 (W * H) = W * H := by unfold wrap64; omega
   by_cases hl : (xs.length : Int) = W * H
   ·obtain ⟨b, hb, hp⟩ := landCells_loop W H xs hn xs.length 0 (by omega) (by omega)
    refine ⟨b, fun k hk => ?_, fun e => ⟨hW, hH, hl, by omega, by omega, hp e⟩⟩
    obtain ⟨k, rfl⟩ : ∃ m, k = m + 1 := ⟨k - 1, by omega⟩
    have e : ((xs.length : Int) != W * H) = false := by simp [hl]
    have b1 := (hb (k + 1) (by omega)).1
    have b2 := (hb k (by omega)).2
    unfold impl_IsLand.f spec_IsLand.f
    simp only [l1In_eq, inRange_eq, hW, hH, and_self, decide_true, Option.bind_some, if_true, hw, if_pos hl, e, spec_IsLand.j0, Bool.false_eq_true, if_false, impl_allIn.f, b1, b2]
   ·refine ⟨false, fun k hk => ?_, fun e => by cases e⟩
    obtain ⟨k, rfl⟩ : ∃ m, k = m + 1 := ⟨k - 1, by omega⟩
    have e : ((xs.length : Int) != W * H) = true := by simp [hl]
    unfold impl_IsLand.f spec_IsLand.f
    simp only [l1In_eq, inRange_eq, hW, hH, and_self, decide_true, Option.bind_some, if_true, hw, if_neg hl, e, spec_IsLand.j0]
  ·refine ⟨false, fun k hk => ?_, fun e => by cases e⟩
   obtain ⟨k, rfl⟩ : ∃ m, k = m + 1 := ⟨k - 1, by omega⟩
   unfold impl_IsLand.f spec_IsLand.f
   simp only [l1In_eq, inRange_eq, hW, hH, and_self, decide_true, decide_false, Option.bind_some, if_true, Bool.false_eq_true, if_false, spec_IsLand.j0]
 ·refine ⟨false, fun k hk => ?_, fun e => by cases e⟩
  obtain ⟨k, rfl⟩ : ∃ m, k = m + 1 := ⟨k - 1, by omega⟩
  unfold impl_IsLand.f spec_IsLand.f
  simp only [l1In_eq, inRange_eq, hW, decide_false, Option.bind_some, if_true, Bool.false_eq_true, if_false, spec_IsLand.j0, and_self]
theorem isCell_ev (W H : Int) (xs : List Int) (hn : xs.length ≤ 1048576) (n : Int) {b : Bool} (hb : ∀ k, xs.length + 1 < k → impl_IsLand.f k W H xs = some b ∧ spec_IsLand.f k W H xs = some b) (k : Nat) (hk : xs.length + 1 < k) :
  impl_IsCell.f k W H xs n = some (b && decide (0 ≤ n ∧ n ≤ (xs.length : Int) - 1)) ∧ spec_IsCell.f k W H xs n = some (b && decide (0 ≤ n ∧ n ≤ (xs.length : Int) - 1)) := by
 have hw : wrap64 ((xs.length : Int) - 1) = (xs.length : Int) - 1 := by unfold wrap64; omega
 obtain ⟨h1, h2⟩ := hb k hk
 unfold impl_IsCell.f spec_IsCell.f
 rw [h1, h2, hw]
 cases b <;> simp [l1In_eq, inRange_eq]
theorem digit_ev (d : Int) (h0 : 0 ≤ d) (h9 : d ≤ 9) : ∃ t : ByteArray, t.size = 1 ∧ ∀ k, 2 < k → impl_FormatInt.f k d = some t ∧ spec_FormatInt.f k d = some t := by
 refine ⟨(⟨#[UInt8.ofNat (48 + d.toNat)]⟩ : ByteArray), rfl, fun k hk => ?_⟩
 obtain ⟨k, rfl⟩ : ∃ m, k = m + 3 := ⟨k - 3, by omega⟩
 have h1 : impl_FormatInt.f (k + 3) d = some (⟨#[UInt8.ofNat (48 + d.toNat)]⟩ : ByteArray) := by
  unfold impl_FormatInt.f
  rw [if_pos (by omega), Go.Lib.decDigits_one (by omega)]
 refine ⟨h1, ?_⟩
 clear h1 hk
 by_cases hz : d = 0
 ·subst hz; rfl
 ·have e1 : Int.tmod d 10 = d := by rw [Int.tmod_eq_emod_of_nonneg h0]; omega
  have e2 : Int.tdiv d 10 = 0 := by rw [Int.tdiv_eq_ediv_of_nonneg h0]; omega
  have w1 : wrap64 (48 + d) % 256 = 48 + d := by unfold wrap64; omega
  have w2 : wrap64 0 = 0 := by unfold wrap64; omega
  have hs : ∀ v : Int, (strOfNums [v]).size = 1 := fun _ => rfl
  have he : (⟨#[]⟩ : ByteArray).size = 0 := rfl
  unfold spec_FormatInt.f
  rw [if_neg hz, spec_FormatInt.l0, if_neg hz, e1, e2, w2, if_neg (by omega)]
  simp only [Option.bind_some, w1]
  rw [if_pos (by rw [hs, he]; omega), spec_FormatInt.l0, if_pos rfl, if_neg (by omega)]
  congr 1
  obtain rfl | rfl | rfl | rfl | rfl | rfl | rfl | rfl | rfl : d = 1 ∨ d = 2 ∨ d = 3 ∨ d = 4 ∨ d = 5 ∨ d = 6 ∨ d = 7 ∨ d = 8 ∨ d = 9 := by omega
  all_goals rfl
theorem letter_ev (m : Int) (h0 : 0 ≤ m) (h7 : m ≤ 7) : ∃ t : ByteArray, t.size = 1 ∧ runeOf (wrap64 (97 + m)) = some t ∧ (⟨#[97, 98, 99, 100, 101, 102, 103, 104]⟩ : ByteArray).extract m.toNat (m + 1).toNat = t := by
 rw [show wrap64 (97 + m) = 97 + m by unfold wrap64; omega]
 obtain rfl | rfl | rfl | rfl | rfl | rfl | rfl | rfl : m = 0 ∨ m = 1 ∨ m = 2 ∨ m = 3 ∨ m = 4 ∨ m = 5 ∨ m = 6 ∨ m = 7 := by omega
 ·exact ⟨(⟨#[97]⟩ : ByteArray), rfl, rfl, rfl⟩
 ·exact ⟨(⟨#[98]⟩ : ByteArray), rfl, rfl, rfl⟩
 ·exact ⟨(⟨#[99]⟩ : ByteArray), rfl, rfl, rfl⟩
 ·exact ⟨(⟨#[100]⟩ : ByteArray), rfl, rfl, rfl⟩
 ·exact ⟨(⟨#[101]⟩ : ByteArray), rfl, rfl, rfl⟩
 ·exact ⟨(⟨#[102]⟩ : ByteArray), rfl, rfl, rfl⟩
 ·exact ⟨(⟨#[103]⟩ : ByteArray), rfl, rfl, rfl⟩
 ·exact ⟨(⟨#[104]⟩ : ByteArray), rfl, rfl, rfl⟩
theorem cell_place {W H n : Int} {len : Nat} (hW : 1 ≤ W ∧ W ≤ 8) (hH : 1 ≤ H ∧ H ≤ 8) (hl : (len : Int) = W * H) (h0 : 0 ≤ n) (h1 : n ≤ (len : Int) - 1) : (0 ≤ Int.tmod n W ∧ Int.tmod n W ≤ 7) ∧ 0 ≤ Int.tdiv n W ∧ Int.tdiv n W ≤ 7 := by
 have e1 : Int.tmod n W = n % W := by rw [Int.tmod_eq_emod_of_nonneg h0]
 have e2 : Int.tdiv n W = n / W := by rw [Int.tdiv_eq_ediv_of_nonneg h0]
 have h2 := Int.emod_nonneg n (show W ≠ 0 by omega)
 have h3 := Int.emod_lt_of_pos n (show 0 < W by omega)
 have h4 : 0 ≤ n / W := Int.ediv_nonneg h0 (by omega)
 have h5 : n / W < H := by
  rw [Int.ediv_lt_iff_lt_mul (by omega), Int.mul_comm]
  omega
 rw [e1, e2]
 omega
theorem cellText_ev (W H : Int) (xs : List Int) (hn : xs.length ≤ 1048576) (n : Int) {b : Bool} (hb : ∀ k, xs.length + 1 < k → impl_IsLand.f k W H xs = some b ∧ spec_IsLand.f k W H xs = some b)
  (hp : b = true → (1 ≤ W ∧ W ≤ 8) ∧ (1 ≤ H ∧ H ≤ 8) ∧ (xs.length : Int) = W * H ∧ 1 ≤ xs.length ∧ xs.length ≤ 64 ∧ ∀ j : Int, 0 ≤ j → j < (xs.length : Int) → 0 ≤ rd xs j ∧ rd xs j ≤ 2) :
  ∃ t : ByteArray, t.size ≤ 2 ∧ ∀ k, xs.length + 3 < k → impl_CellText.f k W H xs n = some t ∧ spec_CellText.f k W H xs n = some t := by
 by_cases c : b = true ∧ (0 ≤ n ∧ n ≤ (xs.length : Int) - 1)
 ·obtain ⟨rfl, c0, c1⟩ := c
  obtain ⟨hW, hH, hl, h1, h64, _⟩ := hp rfl
  obtain ⟨⟨m0, m7⟩, q0, q7⟩ := cell_place hW hH hl c0 c1
  obtain ⟨t1, s1, e1, e2⟩ := letter_ev (Int.tmod n W) m0 m7
  obtain ⟨t2, s2, hd⟩ := digit_ev (Int.tdiv n W) q0 (by omega)
  have hwq : wrap64 (Int.tdiv n W) = Int.tdiv n W := by unfold wrap64; omega
  have hwm : wrap64 (Int.tmod n W + 1) = Int.tmod n W + 1 := by unfold wrap64; omega
  refine ⟨t1 ++ t2, by rw [ByteArray.size_append]; omega, fun k hk => ?_⟩
  obtain ⟨i1, i2⟩ := isCell_ev W H xs hn n hb k (by omega)
  obtain ⟨d1, d2⟩ := hd k (by omega)
  have hc : (true && decide (0 ≤ n ∧ n ≤ (xs.length : Int) - 1)) = true := by simp [c0, c1]
  rw [hc] at i1 i2
  have hz : ¬ W = 0 := by omega
  have hs : t1.size + t2.size ≤ 9223372036854775807 := by omega
  constructor
  ·unfold impl_CellText.f
   simp only [i1, Option.bind_some, if_true, if_neg hz, e1, hwq, d1, if_pos hs]
  ·unfold spec_CellText.f
   simp only [i2, Option.bind_some, if_true, if_neg hz, hwq, hwm, if_pos m0, if_pos (show Int.tmod n W ≤ Int.tmod n W + 1 by omega), if_pos (show Int.tmod n W + 1 ≤ 8 by omega), d2, e2, if_pos hs]
 ·refine ⟨(⟨#[]⟩ : ByteArray), by show 0 ≤ 2; omega, fun k hk => ?_⟩
  obtain ⟨i1, i2⟩ := isCell_ev W H xs hn n hb k (by omega)
  have hc : (b && decide (0 ≤ n ∧ n ≤ (xs.length : Int) - 1)) = false := by
   cases b with
   | false => rfl
   | true => simp only [Bool.true_and, decide_eq_false_iff_not]; exact fun h => c ⟨rfl, h⟩
  rw [hc] at i1 i2
  unfold impl_CellText.f spec_CellText.f
  simp only [i1, i2, Option.bind_some, Bool.false_eq_true, if_false, and_self]
theorem joinTail_snoc (sep : List UInt8) (r : List (List UInt8)) (x : List UInt8) : Go.Lib.joinTail sep (r ++ [x]) = Go.Lib.joinTail sep r ++ (sep ++ x) := by simp [Go.Lib.joinTail]
theorem join_snoc (sep : List UInt8) (r : List (List UInt8)) (x : List UInt8) (h : r ≠ []) : Go.Lib.join (r ++ [x]) sep = Go.Lib.join r sep ++ (sep ++ x) := by
 cases r with
 | nil => exact absurd rfl h
 | cons y r => rw [List.cons_append, Go.Lib.join_cons, Go.Lib.join_cons, joinTail_snoc, List.append_assoc]
theorem bytes_ext (s : ByteArray) (l : List UInt8) (h : s.data.toList = l) : s = (⟨l.toArray⟩ : ByteArray) := by
 subst h
 cases s with
 | mk d => simp
theorem bytes_append (s t : ByteArray) : (s ++ t).data.toList = s.data.toList ++ t.data.toList := by simp
theorem wayText_loop (W H : Int) (xs l : List Int) (hn : xs.length ≤ 1048576) (hl : l.length ≤ 1048576) (hz : 0 < l.length) {b : Bool} (hb : ∀ k, xs.length + 1 < k → impl_IsLand.f k W H xs = some b ∧ spec_IsLand.f k W H xs = some b)
  (hp : b = true → (1 ≤ W ∧ W ≤ 8) ∧ (1 ≤ H ∧ H ≤ 8) ∧ (xs.length : Int) = W * H ∧ 1 ≤ xs.length ∧ xs.length ≤ 64 ∧ ∀ j : Int, 0 ≤ j → j < (xs.length : Int) → 0 ≤ rd xs j ∧ rd xs j ≤ 2) :
  ∀ (d : Nat) (i : Int) (ts : List ByteArray) (s : ByteArray), 0 ≤ i → (l.length : Int) - i = d → (ts.length : Int) = i → s.data.toList = Go.Lib.join (ts.map (·.data.toList)) [45] → (s.size : Int) ≤ 3 * i →
   ∃ r, ∀ k, xs.length + d + 6 < k → impl_WayText.l0 k ts l (l.length : Int) i W H xs = some r ∧ spec_WayText.l0 k l s i W H xs = some r := by
 intro d
 induction d with
 | zero =>
  intro i ts s h0 hd ht hs hsz
  have hlt : ¬ i < (l.length : Int) := by omega
  have hnz : ¬ (l.length : Int) = 0 := by omega
  refine ⟨s, fun k hk => ?_⟩
  obtain ⟨k, rfl⟩ : ∃ m, k = m + 1 := ⟨k - 1, by omega⟩
  have hsl : (Go.Lib.join (ts.map (·.data.toList)) [45]).length ≤ 140737488355328 := by
   rw [← hs]
   have : s.data.toList.length = s.size := by rw [Array.length_toList]; rfl
   omega
  have hj : strings_Join.f ts (⟨#[45]⟩ : ByteArray) = some s := by
   unfold strings_Join.f
   rw [show (⟨#[45]⟩ : ByteArray).data.toList = [45] from rfl, if_pos hsl, if_pos (by omega), bytes_ext s _ hs]
  constructor
  ·rw [impl_WayText.l0]
   simp only [if_neg hlt, hj, Option.bind_some]
  ·rw [spec_WayText.l0]
   simp only [if_neg hlt, if_neg hnz]
 | succ d ih =>
  intro i ts s h0 hd ht hs hsz
  have hlt : i < (l.length : Int) := by omega
  obtain ⟨n, hnn⟩ : ∃ n, n = rd l i := ⟨_, rfl⟩
  by_cases c : (b && decide (0 ≤ n ∧ n ≤ (xs.length : Int) - 1)) = true
  ·obtain ⟨t, ht2, htx⟩ := cellText_ev W H xs hn n hb hp
   have hd1 : (⟨#[45]⟩ : ByteArray).size = 1 := rfl
   have g0 : ts.length < 8796093022208 := by omega
   by_cases hi : i > 0
   ·have hne : ts ≠ [] := by intro e; subst e; simp at ht; omega
    obtain ⟨r, hr⟩ := ih (i + 1) (ts ++ [t]) ((s ++ (⟨#[45]⟩ : ByteArray)) ++ t) (by omega) (by omega) (by simp; omega)
     (by rw [bytes_append, bytes_append, hs, List.map_append, List.map_singleton, join_snoc _ _ _ (by simpa using hne), List.append_assoc])
     (by rw [ByteArray.size_append, ByteArray.size_append, hd1]; omega)
    refine ⟨r, fun k hk => ?_⟩
    obtain ⟨k, rfl⟩ : ∃ m, k = m + 1 := ⟨k - 1, by omega⟩
    obtain ⟨i1, i2⟩ := isCell_ev W H xs hn n hb k (by omega)
    rw [c] at i1 i2
    obtain ⟨t1, t2⟩ := htx k (by omega)
    obtain ⟨r1, r2⟩ := hr k (by omega)
    have g1 : s.size + 1 ≤ 9223372036854775807 := by omega
    have g2 : (s ++ (⟨#[45]⟩ : ByteArray)).size + t.size ≤ 9223372036854775807 := by rw [ByteArray.size_append, hd1]; omega
    constructor
    ·rw [impl_WayText.l0]
     simp only [if_pos hlt, if_pos h0, ← hnn, i1, t1, Option.bind_some, if_true, if_pos g0, wrap_small (n := l.length) h0 hlt hl, r1]
    ·rw [spec_WayText.l0]
     simp only [if_pos hlt, if_pos h0, ← hnn, i2, t2, Option.bind_some, if_true, if_pos hi, if_pos g1, if_pos g2, wrap_small (n := l.length) h0 hlt hl, r2]
   ·have hi0 : i = 0 := by omega
    have hte : ts = [] := List.length_eq_zero_iff.mp (by omega)
    subst hte
    have hse : s.data.toList = [] := by rw [hs]; rfl
    obtain ⟨r, hr⟩ := ih (i + 1) ([] ++ [t]) (s ++ t) (by omega) (by omega) (by simp; omega)
     (by rw [bytes_append, hse, List.nil_append, List.nil_append, List.map_singleton, Go.Lib.join_one])
     (by rw [ByteArray.size_append]; omega)
    refine ⟨r, fun k hk => ?_⟩
    obtain ⟨k, rfl⟩ : ∃ m, k = m + 1 := ⟨k - 1, by omega⟩
    obtain ⟨i1, i2⟩ := isCell_ev W H xs hn n hb k (by omega)
    rw [c] at i1 i2
    obtain ⟨t1, t2⟩ := htx k (by omega)
    obtain ⟨r1, r2⟩ := hr k (by omega)
    have g2 : s.size + t.size ≤ 9223372036854775807 := by omega
    constructor
    ·rw [impl_WayText.l0]
     simp only [if_pos hlt, if_pos h0, ← hnn, i1, t1, Option.bind_some, if_true, if_pos g0, wrap_small (n := l.length) h0 hlt hl, r1]
    ·rw [spec_WayText.l0]
     simp only [if_pos hlt, if_pos h0, ← hnn, i2, t2, Option.bind_some, if_true, if_neg hi, if_pos g2, wrap_small (n := l.length) h0 hlt hl, r2]
  ·refine ⟨(⟨#[]⟩ : ByteArray), fun k hk => ?_⟩
   obtain ⟨k, rfl⟩ : ∃ m, k = m + 1 := ⟨k - 1, by omega⟩
   obtain ⟨i1, i2⟩ := isCell_ev W H xs hn n hb k (by omega)
   rw [Bool.eq_false_iff.mpr c] at i1 i2
   constructor
   ·rw [impl_WayText.l0]
    simp only [if_pos hlt, if_pos h0, ← hnn, i1, Option.bind_some, Bool.false_eq_true, if_false]
   ·rw [spec_WayText.l0]
    simp only [if_pos hlt, if_pos h0, ← hnn, i2, Option.bind_some, Bool.false_eq_true, if_false]
theorem wayText_ev (W H : Int) (xs l : List Int) (hn : xs.length ≤ 1048576) (hl : l.length ≤ 1048576) : ∃ r, ∀ k, xs.length + l.length + 8 < k → impl_WayText.f k W H xs l = some r ∧ spec_WayText.f k W H xs l = some r := by
 obtain ⟨b, hb, hp⟩ := isLand_ev W H xs hn
 by_cases hz : l.length = 0
 ·refine ⟨(⟨#[45]⟩ : ByteArray), fun k hk => ?_⟩
  obtain ⟨k, rfl⟩ : ∃ m, k = m + 1 := ⟨k - 1, by omega⟩
  have h1 : (l.length : Int) = 0 := by omega
  have hlt : ¬ (0 : Int) < (l.length : Int) := by omega
  unfold impl_WayText.f spec_WayText.f
  rw [spec_WayText.l0]
  simp only [if_pos h1, if_neg hlt, and_self]
 ·obtain ⟨r, hr⟩ := wayText_loop W H xs l hn hl (by omega) hb hp l.length 0 [] (⟨#[]⟩ : ByteArray) (by omega) (by omega) rfl rfl (by show ((0 : Nat) : Int) ≤ 3 * 0; omega)
  refine ⟨r, fun k hk => ?_⟩
  unfold impl_WayText.f spec_WayText.f
  rw [if_neg (by omega)]
  exact hr k (by omega)
theorem FnExactWayText : laws_FnExactWayText.Stmt := by
 intro x l hx hl
 by_cases hbig : (l.length : Int) > 1048576
 ·exact ⟨0, by unfold laws_FnExactWayText.f; rw [if_pos hbig]⟩
 have hl2 : l.length ≤ 1048576 := by omega
 obtain ⟨z, hz, hz2⟩ := szIntS_ev x.f2 hx.2.2.1
 by_cases hneg : z < 0
 ·exact ⟨0, by unfold laws_FnExactWayText.f laws_szLand.f; rw [if_neg hbig, hz]; simp only [Option.bind_some]; rw [if_pos hneg]; simp only [Option.bind_some]; rw [if_pos (by omega)]⟩
 have hn : x.f2.length ≤ 1048576 := hz2.resolve_left hneg
 obtain ⟨r, hr⟩ := wayText_ev x.f0 x.f1 x.f2 l hn hl2
 obtain ⟨k, hk⟩ : ∃ k, k = 3 * x.f2.length + l.length + 20 := ⟨_, rfl⟩
 obtain ⟨h1, h2⟩ := hr k (by omega)
 refine ⟨k, ?_⟩
 unfold laws_FnExactWayText.f laws_szLand.f
 rw [if_neg hbig, hz]; simp only [Option.bind_some]; rw [if_neg hneg]; simp only [Option.bind_some]; rw [if_neg hneg]
 simp only [laws_toLand.f, laws_eqLand.f, toIntS_ev x.f2 hn k (by omega), eqIntS_ev x.f2 hn k (by omega), toIntS_ev l hl2 k (by omega), eqIntS_ev l hl2 k (by omega), h1, h2, Option.bind_some, if_true]

end Go.Proofs.YtnicfhfclnmdaaaDoor.Pure
