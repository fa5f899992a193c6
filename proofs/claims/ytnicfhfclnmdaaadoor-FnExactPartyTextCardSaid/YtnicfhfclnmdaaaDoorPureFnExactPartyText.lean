/- The program's PartyText returns what the reference's PartyText returns, for every land and party whose lists hold no more than 2^20 elements together (bigger ones the statement lets pass), and leaves both as they were. The table of powers of ten that the library's numerals are made by is as the program's text lays it (the card's tie). -/
import Derived.Test.YtnicfhfclnmdaaaDoorSFnExactPartyText
namespace Go.Proofs.YtnicfhfclnmdaaaDoor.Pure
open Go.RowKit Go.Proofs.YtnicfhfclnmdaaaDoor.Q Go.Proofs.YtnicfhfclnmdaaaDoorW.PrintWords Go.Proofs.YtnicfhfclnmdaaaDoorW.PrintLast Go.Proofs.YtnicfhfclnmdaaaDoorW.PrintMore
set_option linter.unusedVariables false
set_option linter.unusedSimpArgs false
theorem ext_getD {α : Type} {d : α} {a b : List α} (h : a.length = b.length) (hj : ∀ j, j < a.length → a.getD j d = b.getD j d) : a = b := by
 apply List.ext_getElem h
 intro j h1 h2
 have := hj j h1
 simpa [List.getD_eq_getElem?_getD, List.getElem?_eq_getElem h1, List.getElem?_eq_getElem h2] using this
theorem getD_set {α : Type} {d : α} (a : List α) (i j : Nat) (v : α) (h : i < a.length) : (a.set i v).getD j d = if i = j then v else a.getD j d := by
 simp only [List.getD_eq_getElem?_getD, List.getElem?_set]
 by_cases e : i = j
 ·subst e; simp [h]
 ·simp [e]
theorem wrap_small {i : Int} {n : Nat} (h0 : 0 ≤ i) (h : i < (n : Int)) (hn : n ≤ 1048576) : wrap64 (i + 1) = i + 1 := by
 unfold wrap64; omega
theorem drop_step {α : Type} (d : α) (l : List α) (i : Int) (h0 : 0 ≤ i) (h : i < (l.length : Int)) : l.drop i.toNat = l.getD i.toNat d :: l.drop (i + 1).toNat := by
 have h1 : i.toNat < l.length := by omega
 rw [List.drop_eq_getElem_cons h1, show (i + 1).toNat = i.toNat + 1 by omega]
 congr 1
 simp [List.getD_eq_getElem?_getD, List.getElem?_eq_getElem h1]
theorem toIntS_loop (xs : List Int) (hn : xs.length ≤ 1048576) : ∀ (d k : Nat) (acc : List Int) (i : Int), acc.length = xs.length → 0 ≤ i → (xs.length : Int) - i = d → d < k →
  (∀ j : Nat, (j : Int) < i → acc.getD j 0 = xs.getD j 0) → laws_toIntS.l0 k xs acc i = some xs := by
 intro d
 induction d with
 | zero =>
  intro k acc i hl h0 hd hk hj
  obtain ⟨k, rfl⟩ : ∃ m, k = m + 1 := ⟨k - 1, by omega⟩
  simp only [laws_toIntS.l0]
  rw [if_neg (by omega)]
  exact congrArg some (ext_getD hl (fun j h => hj j (by omega)))
 | succ d ih =>
  intro k acc i hl h0 hd hk hj
  obtain ⟨k, rfl⟩ : ∃ m, k = m + 1 := ⟨k - 1, by omega⟩
  simp only [laws_toIntS.l0]
  rw [if_pos (by omega), if_pos h0, if_pos (by omega), wrap_small (n := xs.length) h0 (by omega) hn]
  refine ih k _ _ (by simpa using hl) (by omega) (by omega) (by omega) ?_
  intro j hj'
  rw [getD_set _ _ _ _ (by omega)]
  by_cases e : i.toNat = j
  ·rw [if_pos e]; unfold rd; rw [e]
  ·rw [if_neg e]; exact hj j (by omega)
theorem toIntS_ev (xs : List Int) (hn : xs.length ≤ 1048576) (k : Nat) (hk : xs.length < k) : laws_toIntS.f k xs = some xs := by
 unfold laws_toIntS.f
 rw [if_pos (by omega), if_pos (by omega)]
 exact toIntS_loop xs hn xs.length k _ 0 (by simp) (by omega) (by omega) hk (fun j hj => by omega)
theorem eqIntS_loop (xs : List Int) (hn : xs.length ≤ 1048576) : ∀ (d k : Nat) (i : Int), 0 ≤ i → (xs.length : Int) - i = d → d < k → laws_eqIntS.l0 k xs xs i = some true := by
 intro d
 induction d with
 | zero =>
  intro k i h0 hd hk
  obtain ⟨k, rfl⟩ : ∃ m, k = m + 1 := ⟨k - 1, by omega⟩
  simp only [laws_eqIntS.l0]
  rw [if_neg (by omega)]
 | succ d ih =>
  intro k i h0 hd hk
  obtain ⟨k, rfl⟩ : ∃ m, k = m + 1 := ⟨k - 1, by omega⟩
  simp only [laws_eqIntS.l0]
  rw [if_pos (by omega), if_pos h0, if_pos (by omega), if_pos trivial, wrap_small (n := xs.length) h0 (by omega) hn]
  exact ih k _ (by omega) (by omega) (by omega)
theorem eqIntS_ev (xs : List Int) (hn : xs.length ≤ 1048576) (k : Nat) (hk : xs.length < k) : laws_eqIntS.f k xs xs = some true := by
 unfold laws_eqIntS.f
 rw [if_pos rfl]
 exact eqIntS_loop xs hn xs.length k 0 (by omega) (by omega) hk
theorem szIntS_ev (l : List Int) (hm : l.length ≤ maxLen) : ∃ r, laws_szIntS.f l 1048576 = some r ∧ (r < 0 ∨ l.length ≤ 1048576) := by
 unfold maxLen at hm
 have hw : wrap64 (1048576 - (l.length : Int)) = 1048576 - (l.length : Int) := by unfold wrap64; omega
 unfold laws_szIntS.f
 rw [hw]
 by_cases h : (1048576 - (l.length : Int)) < 0
 ·rw [if_pos h]; exact ⟨_, rfl, .inl (by omega)⟩
 ·rw [if_neg h]; exact ⟨_, rfl, .inr (by omega)⟩
theorem l1In_eq (a b c : Int) : spec_l1In.f a b c = some (decide (b ≤ a ∧ a ≤ c)) := by
 unfold spec_l1In.f
 by_cases h : a ≥ b
 ·rw [if_pos h]; congr 1; have : b ≤ a := h; simp [this]
 ·rw [if_neg h]; have : ¬ b ≤ a := h; simp [this]
theorem inRange_eq (a b c : Int) : impl_InRange.f a b c = some (decide (b ≤ a ∧ a ≤ c)) := by
 unfold impl_InRange.f
 by_cases h : b ≤ a
 ·rw [if_pos h]; simp [h]
 ·rw [if_neg h]; simp [h]
theorem landCells_loop (W H : Int) (xs : List Int) (hn : xs.length ≤ 1048576) : ∀ (d : Nat) (i : Int), 0 ≤ i → (xs.length : Int) - i = d →
  ∃ b, (∀ k, d < k → impl_allIn.l0 k 0 2 xs (xs.length : Int) i = some b ∧ spec_IsLand.l0 k i W H xs = some b) ∧ (b = true → ∀ j : Int, i ≤ j → j < (xs.length : Int) → 0 ≤ rd xs j ∧ rd xs j ≤ 2) := by
 intro d
 induction d with
 | zero =>
  intro i h0 hd
  have hlt : ¬ i < (xs.length : Int) := by omega
  refine ⟨true, fun k hk => ?_, fun _ j h1 h2 => by omega⟩
  obtain ⟨k, rfl⟩ : ∃ m, k = m + 1 := ⟨k - 1, by omega⟩
  simp only [impl_allIn.l0, spec_IsLand.l0, if_neg hlt, and_self]
 | succ d ih =>
  intro i h0 hd
  have hlt : i < (xs.length : Int) := by omega
  obtain ⟨b, hb, hp⟩ := ih (i + 1) (by omega) (by omega)
  by_cases e : 0 ≤ rd xs i ∧ rd xs i ≤ 2
  ·refine ⟨b, fun k hk => ?_, fun h j h1 h2 => ?_⟩
   ·obtain ⟨k, rfl⟩ : ∃ m, k = m + 1 := ⟨k - 1, by omega⟩
    simp only [impl_allIn.l0, spec_IsLand.l0, if_pos hlt, if_pos h0, l1In_eq, inRange_eq, e, and_self, decide_true, Option.bind_some, if_true, wrap_small (n := xs.length) h0 hlt hn]
    exact hb k (by omega)
   ·by_cases h3 : j = i
    ·subst h3; exact e
    ·exact hp h j (by omega) h2
  ·refine ⟨false, fun k hk => ?_, fun h => by cases h⟩
   obtain ⟨k, rfl⟩ : ∃ m, k = m + 1 := ⟨k - 1, by omega⟩
   simp only [impl_allIn.l0, spec_IsLand.l0, if_pos hlt, if_pos h0, l1In_eq, inRange_eq, e, decide_false, Option.bind_some, Bool.false_eq_true, if_false, and_self]
theorem isLand_ev (W H : Int) (xs : List Int) (hn : xs.length ≤ 1048576) : ∃ b, (∀ k, xs.length + 1 < k → impl_IsLand.f k W H xs = some b ∧ spec_IsLand.f k W H xs = some b) ∧
  (b = true → (1 ≤ W ∧ W ≤ 8) ∧ (1 ≤ H ∧ H ≤ 8) ∧ (xs.length : Int) = W * H ∧ 1 ≤ xs.length ∧ xs.length ≤ 64 ∧ ∀ j : Int, 0 ≤ j → j < (xs.length : Int) → 0 ≤ rd xs j ∧ rd xs j ≤ 2) := by
 by_cases hW : 1 ≤ W ∧ W ≤ 8
 ·by_cases hH : 1 ≤ H ∧ H ≤ 8
  ·have h1 : W * H ≤ 8 * 8 := Int.mul_le_mul hW.2 hH.2 (by omega) (by omega)
   have h2 : 1 * 1 ≤ W * H := Int.mul_le_mul hW.1 hH.1 (by omega) (by omega)
   have hw : wrap64 (W * H) = W * H := by unfold wrap64; omega
   by_cases hl : (xs.length : Int) = W * H
   ·obtain ⟨b, hb, hp⟩ := landCells_loop W H xs hn xs.length 0 (by omega) (by omega)
    refine ⟨b, fun k hk => ?_, fun e => ⟨hW, hH, hl, by omega, by omega, hp e⟩⟩
    obtain ⟨k, rfl⟩ : ∃ m, k = m + 1 := ⟨k - 1, by omega⟩
    have e : ((xs.length : Int) != W * H) = false := by simp [hl]
    have b1 := (hb (k + 1) (by omega)).1
    have b2 := (hb k (by omega)).2
    unfold impl_IsLand.f spec_IsLand.f
    simp only [l1In_eq, inRange_eq, hW, hH, and_self, decide_true, Option.bind_some, if_true, hw, if_pos hl, e, spec_IsLand.j0, Bool.false_eq_true, if_false, impl_allIn.f, b1, b2]
   ·refine ⟨false, fun k hk => ?_, fun e => by cases e⟩
    obtain ⟨k, rfl⟩ : ∃ m, k = m + 1 := ⟨k - 1, by omega⟩
    have e : ((xs.length : Int) != W * H) = true := by simp [hl]
    unfold impl_IsLand.f spec_IsLand.f
    simp only [l1In_eq, inRange_eq, hW, hH, and_self, decide_true, Option.bind_some, if_true, hw, if_neg hl, e, spec_IsLand.j0]
  ·refine ⟨false, fun k hk => ?_, fun e => by cases e⟩
   obtain ⟨k, rfl⟩ : ∃ m, k = m + 1 := ⟨k - 1, by omega⟩
   unfold impl_IsLand.f spec_IsLand.f
   simp only [l1In_eq, inRange_eq, hW, hH, and_self, decide_true, decide_false, Option.bind_some, if_true, Bool.false_eq_true, if_false, spec_IsLand.j0]
 ·refine ⟨false, fun k hk => ?_, fun e => by cases e⟩
  obtain ⟨k, rfl⟩ : ∃ m, k = m + 1 := ⟨k - 1, by omega⟩
  unfold impl_IsLand.f spec_IsLand.f
  simp only [l1In_eq, inRange_eq, hW, decide_false, Option.bind_some, if_true, Bool.false_eq_true, if_false, spec_IsLand.j0, and_self]
def cMember (x : S80) : S78 := ⟨x.f0, x.f1, x.f2, x.f3⟩
theorem toMember_ev (x : S80) : laws_toMember.f x.f0 x.f1 x.f2 x.f3 = some (x.f0, x.f1, x.f2, x.f3) := rfl
theorem toMemberS_loop (xs : List S80) (hn : xs.length ≤ 1048576) : ∀ (d k : Nat) (acc : List S78) (i : Int), acc.length = xs.length → 0 ≤ i → (xs.length : Int) - i = d → d < k →
  (∀ j : Nat, (j : Int) < i → acc.getD j z78 = (xs.map cMember).getD j z78) → laws_toMemberS.l0 k xs acc i = some (xs.map cMember) := by
 intro d
 induction d with
 | zero =>
  intro k acc i hl h0 hd hk hj
  obtain ⟨k, rfl⟩ : ∃ m, k = m + 1 := ⟨k - 1, by omega⟩
  simp only [laws_toMemberS.l0]
  rw [if_neg (by omega)]
  exact congrArg some (ext_getD (by rw [List.length_map]; exact hl) (fun j h => hj j (by omega)))
 | succ d ih =>
  intro k acc i hl h0 hd hk hj
  obtain ⟨k, rfl⟩ : ∃ m, k = m + 1 := ⟨k - 1, by omega⟩
  simp only [laws_toMemberS.l0, toMember_ev, Option.bind_some]
  rw [if_pos (by omega), if_pos h0, if_pos (by omega), wrap_small (n := xs.length) h0 (by omega) hn]
  refine ih k _ _ (by simpa using hl) (by omega) (by omega) (by omega) ?_
  intro j hj'
  rw [getD_set _ _ _ _ (by omega)]
  by_cases e : i.toNat = j
  ·rw [if_pos e]
   have h1 : j < xs.length := by omega
   unfold rd_T80
   rw [e]
   simp [List.getD_eq_getElem?_getD, List.getElem?_eq_getElem h1, cMember]
  ·rw [if_neg e]; exact hj j (by omega)
theorem toMemberS_ev (xs : List S80) (hn : xs.length ≤ 1048576) (k : Nat) (hk : xs.length < k) : laws_toMemberS.f k xs = some (xs.map cMember) := by
 unfold laws_toMemberS.f
 rw [if_pos (by omega), if_pos (by omega)]
 exact toMemberS_loop xs hn xs.length k _ 0 (by simp) (by omega) (by omega) hk (fun j hj => by omega)
theorem eqMember_ev (x : S78) : laws_eqMember.f x.f0 x.f1 x.f2 x.f3 x.f0 x.f1 x.f2 x.f3 = some true := by simp [laws_eqMember.f]
theorem eqMemberS_loop (xs : List S78) (hn : xs.length ≤ 1048576) : ∀ (d k : Nat) (i : Int), 0 ≤ i → (xs.length : Int) - i = d → d < k → laws_eqMemberS.l0 k xs xs i = some true := by
 intro d
 induction d with
 | zero =>
  intro k i h0 hd hk
  obtain ⟨k, rfl⟩ : ∃ m, k = m + 1 := ⟨k - 1, by omega⟩
  simp only [laws_eqMemberS.l0]
  rw [if_neg (by omega)]
 | succ d ih =>
  intro k i h0 hd hk
  obtain ⟨k, rfl⟩ : ∃ m, k = m + 1 := ⟨k - 1, by omega⟩
  simp only [laws_eqMemberS.l0, eqMember_ev, Option.bind_some, if_true]
  rw [if_pos (by omega), if_pos h0, if_pos (by omega), wrap_small (n := xs.length) h0 (by omega) hn]
  exact ih k _ (by omega) (by omega) (by omega)
theorem eqMemberS_ev (xs : List S78) (hn : xs.length ≤ 1048576) (k : Nat) (hk : xs.length < k) : laws_eqMemberS.f k xs xs = some true := by
 unfold laws_eqMemberS.f
 rw [if_pos rfl]
 exact eqMemberS_loop xs hn xs.length k 0 (by omega) (by omega) hk
theorem toBoolS_loop (xs : List Bool) (hn : xs.length ≤ 1048576) : ∀ (d k : Nat) (acc : List Bool) (i : Int), acc.length = xs.length → 0 ≤ i → (xs.length : Int) - i = d → d < k →
  (∀ j : Nat, (j : Int) < i → acc.getD j false = xs.getD j false) → laws_toBoolS.l0 k xs acc i = some xs := by
 intro d
 induction d with
 | zero =>
  intro k acc i hl h0 hd hk hj
  obtain ⟨k, rfl⟩ : ∃ m, k = m + 1 := ⟨k - 1, by omega⟩
  simp only [laws_toBoolS.l0]
  rw [if_neg (by omega)]
  exact congrArg some (ext_getD hl (fun j h => hj j (by omega)))
 | succ d ih =>
  intro k acc i hl h0 hd hk hj
  obtain ⟨k, rfl⟩ : ∃ m, k = m + 1 := ⟨k - 1, by omega⟩
  simp only [laws_toBoolS.l0]
  rw [if_pos (by omega), if_pos h0, if_pos (by omega), wrap_small (n := xs.length) h0 (by omega) hn]
  refine ih k _ _ (by simpa using hl) (by omega) (by omega) (by omega) ?_
  intro j hj'
  rw [getD_set _ _ _ _ (by omega)]
  by_cases e : i.toNat = j
  ·rw [if_pos e]; unfold rdOf; rw [e]
  ·rw [if_neg e]; exact hj j (by omega)
theorem toBoolS_ev (xs : List Bool) (hn : xs.length ≤ 1048576) (k : Nat) (hk : xs.length < k) : laws_toBoolS.f k xs = some xs := by
 unfold laws_toBoolS.f
 rw [if_pos (by omega), if_pos (by omega)]
 exact toBoolS_loop xs hn xs.length k _ 0 (by simp) (by omega) (by omega) hk (fun j hj => by omega)
theorem eqBoolS_loop (xs : List Bool) (hn : xs.length ≤ 1048576) : ∀ (d k : Nat) (i : Int), 0 ≤ i → (xs.length : Int) - i = d → d < k → laws_eqBoolS.l0 k xs xs i = some true := by
 intro d
 induction d with
 | zero =>
  intro k i h0 hd hk
  obtain ⟨k, rfl⟩ : ∃ m, k = m + 1 := ⟨k - 1, by omega⟩
  simp only [laws_eqBoolS.l0]
  rw [if_neg (by omega)]
 | succ d ih =>
  intro k i h0 hd hk
  obtain ⟨k, rfl⟩ : ∃ m, k = m + 1 := ⟨k - 1, by omega⟩
  simp only [laws_eqBoolS.l0]
  rw [if_pos (by omega), if_pos h0, if_pos (by omega), if_neg (by simp), wrap_small (n := xs.length) h0 (by omega) hn]
  exact ih k _ (by omega) (by omega) (by omega)
theorem eqBoolS_ev (xs : List Bool) (hn : xs.length ≤ 1048576) (k : Nat) (hk : xs.length < k) : laws_eqBoolS.f k xs xs = some true := by
 unfold laws_eqBoolS.f
 rw [if_pos rfl]
 exact eqBoolS_loop xs hn xs.length k 0 (by omega) (by omega) hk
theorem szParty_ev (a b : Int) (l : List S80) (h : List Bool) (hl : l.length ≤ maxLen) (hh : h.length ≤ maxLen) : ∃ r, laws_szParty.f a b l h 1048576 = some r ∧ (r < 0 ∨ (l.length ≤ 1048576 ∧ h.length ≤ 1048576)) := by
 unfold maxLen at hl hh
 unfold laws_szParty.f laws_szMemberS.f laws_szBoolS.f
 rw [show wrap64 (1048576 - (l.length : Int)) = 1048576 - (l.length : Int) by unfold wrap64; omega]
 by_cases h1 : (1048576 - (l.length : Int)) < 0
 ·rw [if_pos h1]; exact ⟨_, rfl, .inl (by omega)⟩
 ·rw [if_neg h1, Option.bind_some, if_neg h1]
  rw [show wrap64 (1048576 - (l.length : Int) - (h.length : Int)) = 1048576 - (l.length : Int) - (h.length : Int) by unfold wrap64; omega]
  by_cases h2 : (1048576 - (l.length : Int) - (h.length : Int)) < 0
  ·rw [if_pos h2]; exact ⟨_, rfl, .inl (by omega)⟩
  ·rw [if_neg h2, Option.bind_some, if_neg h2]; exact ⟨_, rfl, .inr (by omega)⟩
theorem toParty_ev (a b : Int) (l : List S80) (h : List Bool) (hl : l.length ≤ 1048576) (hh : h.length ≤ 1048576) (k : Nat) (hk : l.length + h.length < k) : laws_toParty.f k a b l h = some (a, b, l.map cMember, h) := by
 unfold laws_toParty.f
 rw [toMemberS_ev l hl k (by omega), Option.bind_some, toBoolS_ev h hh k (by omega), Option.bind_some]
theorem eqParty_ev (a b : Int) (l : List S78) (h : List Bool) (hl : l.length ≤ 1048576) (hh : h.length ≤ 1048576) (k : Nat) (hk : l.length + h.length < k) : laws_eqParty.f k a b l h a b l h = some true := by
 unfold laws_eqParty.f
 rw [if_pos rfl, if_pos rfl, eqMemberS_ev l hl k (by omega), Option.bind_some, if_pos rfl, eqBoolS_ev h hh k (by omega), Option.bind_some, if_pos rfl]
def fitM (m : S78) : Prop := 1 ≤ m.f0 ∧ m.f0 ≤ 99 ∧ 0 ≤ m.f1 ∧ m.f1 ≤ 100 ∧ 1 ≤ m.f2 ∧ m.f2 ≤ 10
theorem areCrew_loop (xs : List S78) (hn : xs.length ≤ 1048576) : ∀ (d : Nat) (i : Int), 0 ≤ i → (xs.length : Int) - i = d →
  ∃ b, (∀ k, d < k → impl_AreCrew.l0 k xs xs (xs.length : Int) i = some b ∧ spec_AreCrew.l0 k xs i = some b) ∧ (b = true → (1 ≤ xs.length ∧ xs.length ≤ 8) ∧ ∀ j : Int, i ≤ j → j < (xs.length : Int) → fitM (rd_T78 xs j)) := by
 intro d
 induction d with
 | zero =>
  intro i h0 hd
  have hlt : ¬ i < (xs.length : Int) := by omega
  refine ⟨decide (1 ≤ (xs.length : Int) ∧ (xs.length : Int) ≤ 8), fun k hk => ?_, fun hb => ?_⟩
  ·obtain ⟨k, rfl⟩ : ∃ m, k = m + 1 := ⟨k - 1, by omega⟩
   simp only [impl_AreCrew.l0, spec_AreCrew.l0, if_neg hlt, l1In_eq, inRange_eq, Option.bind_some, and_self]
  ·have := of_decide_eq_true hb
   exact ⟨by omega, fun j h1 h2 => by omega⟩
 | succ d ih =>
  intro i h0 hd
  have hlt : i < (xs.length : Int) := by omega
  obtain ⟨b, hb, hp⟩ := ih (i + 1) (by omega) (by omega)
  have hw : wrap64 (i - 1) = i - 1 := by unfold wrap64; omega
  by_cases ok : (1 ≤ (rd_T78 xs i).f0 ∧ (rd_T78 xs i).f0 ≤ 99 ∧ 0 ≤ (rd_T78 xs i).f1 ∧ (rd_T78 xs i).f1 ≤ 100 ∧ 1 ≤ (rd_T78 xs i).f2 ∧ (rd_T78 xs i).f2 ≤ 10) ∧ (i > 0 → (rd_T78 xs (i - 1)).f0 < (rd_T78 xs i).f0)
  ·refine ⟨b, fun k hk => ?_, fun e => ⟨(hp e).1, fun j h1 h2 => ?_⟩⟩
   ·obtain ⟨k, rfl⟩ : ∃ m, k = m + 1 := ⟨k - 1, by omega⟩
    obtain ⟨b1, b2⟩ := hb k (by omega)
    have e1 : 1 ≤ (rd_T78 xs i).f0 ∧ (rd_T78 xs i).f0 ≤ 99 := ⟨ok.1.1, ok.1.2.1⟩
    have e2 : 0 ≤ (rd_T78 xs i).f1 ∧ (rd_T78 xs i).f1 ≤ 100 := ⟨ok.1.2.2.1, ok.1.2.2.2.1⟩
    have e3 : 1 ≤ (rd_T78 xs i).f2 ∧ (rd_T78 xs i).f2 ≤ 10 := ok.1.2.2.2.2
    simp only [impl_AreCrew.l0, spec_AreCrew.l0, if_pos hlt, if_pos h0, l1In_eq, inRange_eq, Option.bind_some, decide_eq_true_eq, if_pos e1, if_pos e2, if_pos e3, hw, wrap_small (n := xs.length) h0 hlt hn]
    by_cases hi : i > 0
    ·have h1 : 0 ≤ i - 1 := by omega
     have h2 : i - 1 < (xs.length : Int) := by omega
     have h3 := ok.2 hi
     have h4 : ¬ (rd_T78 xs i).f0 ≤ (rd_T78 xs (i - 1)).f0 := by omega
     have h5 : ¬ (rd_T78 xs (i - 1)).f0 ≥ (rd_T78 xs i).f0 := by omega
     simp only [if_pos hi, if_pos h1, if_pos h2, if_neg h4, if_neg h5]
     exact ⟨b1, b2⟩
    ·simp only [if_neg hi]
     exact ⟨b1, b2⟩
   ·by_cases e2 : j = i
    ·subst e2; exact ok.1
    ·exact (hp e).2 j (by omega) h2
  ·refine ⟨false, fun k hk => ?_, fun e => by cases e⟩
   obtain ⟨k, rfl⟩ : ∃ m, k = m + 1 := ⟨k - 1, by omega⟩
   simp only [impl_AreCrew.l0, spec_AreCrew.l0, if_pos hlt, if_pos h0, l1In_eq, inRange_eq, Option.bind_some, decide_eq_true_eq, hw]
   constructor
   ·repeat' split
    all_goals first | rfl | (exfalso; omega)
   ·repeat' split
    all_goals first | rfl | (exfalso; omega)
theorem areCrew_ev (xs : List S78) (hn : xs.length ≤ 1048576) : ∃ b, (∀ k, xs.length < k → impl_AreCrew.f k xs = some b ∧ spec_AreCrew.f k xs = some b) ∧ (b = true → (1 ≤ xs.length ∧ xs.length ≤ 8) ∧ ∀ j : Int, 0 ≤ j → j < (xs.length : Int) → fitM (rd_T78 xs j)) := by
 obtain ⟨b, h, hp⟩ := areCrew_loop xs hn xs.length 0 (by omega) (by omega)
 exact ⟨b, h, hp⟩
def fsM : List S78 → Int
 | [] => 0
 | m :: ms => m.f2 + fsM ms
theorem fsM_bound : ∀ l : List S78, (∀ m ∈ l, fitM m) → (l.length : Int) ≤ fsM l ∧ fsM l ≤ 10 * (l.length : Int)
 | [], _ => by simp [fsM]
 | m :: ms, h => by
  have h1 := fsM_bound ms (fun x hx => h x (List.mem_cons_of_mem _ hx))
  have h2 := h m (List.mem_cons_self)
  unfold fitM at h2
  simp only [fsM, List.length_cons]
  omega
theorem fit_mem {xs : List S78} (h : ∀ j : Int, 0 ≤ j → j < (xs.length : Int) → fitM (rd_T78 xs j)) : ∀ m ∈ xs, fitM m := by
 intro m hm
 obtain ⟨j, hj, rfl⟩ := List.mem_iff_getElem.mp hm
 have := h (j : Int) (by omega) (by omega)
 unfold rd_T78 at this
 simpa [List.getD_eq_getElem?_getD, List.getElem?_eq_getElem hj] using this
theorem needOf_loop (xs : List S78) (hn : xs.length ≤ 8) (hfit : ∀ m ∈ xs, fitM m) (hc : ∀ k, xs.length < k → spec_AreCrew.f k xs = some true) : ∀ (d : Nat) (i a : Int), 0 ≤ i → (xs.length : Int) - i = d → 0 ≤ a → a ≤ 1000 - 10 * d →
  ∀ k, xs.length + d + 2 < k → impl_NeedOf.l0 k a xs (xs.length : Int) i = some (a + fsM (xs.drop i.toNat)) ∧ spec_NeedOf.l0 k xs a i = some (a + fsM (xs.drop i.toNat)) := by
 intro d
 induction d with
 | zero =>
  intro i a h0 hd _ _ k hk
  obtain ⟨k, rfl⟩ : ∃ m, k = m + 1 := ⟨k - 1, by omega⟩
  have hlt : ¬ i < (xs.length : Int) := by omega
  simp only [impl_NeedOf.l0, spec_NeedOf.l0, if_neg hlt, List.drop_eq_nil_of_le (show xs.length ≤ i.toNat by omega), fsM, Int.add_zero, and_self]
 | succ d ih =>
  intro i a h0 hd ha hb k hk
  obtain ⟨k, rfl⟩ : ∃ m, k = m + 1 := ⟨k - 1, by omega⟩
  have hlt : i < (xs.length : Int) := by omega
  have hm : fitM (rd_T78 xs i) := hfit _ (by
   unfold rd_T78
   have h1 : i.toNat < xs.length := by omega
   simp [List.getD_eq_getElem?_getD, List.getElem?_eq_getElem h1])
  unfold fitM at hm
  have hw : wrap64 (a + (rd_T78 xs i).f2) = a + (rd_T78 xs i).f2 := by unfold wrap64; omega
  obtain ⟨h1, h2⟩ := ih (i + 1) (a + (rd_T78 xs i).f2) (by omega) (by omega) (by omega) (by omega) k (by omega)
  rw [drop_step z78 xs i h0 hlt, show xs.getD i.toNat z78 = rd_T78 xs i from rfl]
  simp only [impl_NeedOf.l0, spec_NeedOf.l0, if_pos hlt, if_pos h0, hc k (by omega), Option.bind_some, if_true, hw, wrap_small (n := xs.length) h0 hlt (by omega), fsM, h1, h2, Int.add_assoc, and_self]
theorem needOf_ev (xs : List S78) (hn : xs.length ≤ 1048576) : ∃ b c, (∀ k, xs.length < k → impl_AreCrew.f k xs = some b ∧ spec_AreCrew.f k xs = some b) ∧
  (b = true → c = fsM xs ∧ 1 ≤ xs.length ∧ xs.length ≤ 8 ∧ (∀ m ∈ xs, fitM m) ∧ 1 ≤ c ∧ c ≤ 80) ∧ (b = false → c = 0) ∧
  ∀ k, 2 * xs.length + 3 < k → impl_NeedOf.f k xs = some c ∧ spec_NeedOf.f k xs = some c := by
 obtain ⟨b, hb, hp⟩ := areCrew_ev xs hn
 cases b with
 | true =>
  obtain ⟨⟨h1, h8⟩, hf⟩ := hp rfl
  have hm := fit_mem hf
  have hbd := fsM_bound xs hm
  refine ⟨true, fsM xs, hb, fun _ => ⟨rfl, h1, h8, hm, by omega, by omega⟩, (fun e => by cases e), fun k hk => ?_⟩
  obtain ⟨h3, h4⟩ := needOf_loop xs h8 hm (fun k hk => (hb k hk).2) xs.length 0 0 (by omega) (by omega) (by omega) (by omega) k (by omega)
  rw [Int.toNat_zero, List.drop_zero, Int.zero_add] at h3 h4
  unfold impl_NeedOf.f spec_NeedOf.f
  simp only [(hb k (by omega)).1, Option.bind_some, if_true]
  exact ⟨h3, h4⟩
 | false =>
  refine ⟨false, 0, hb, fun e => (by cases e), fun _ => rfl, fun k hk => ?_⟩
  obtain ⟨k, rfl⟩ : ∃ m, k = m + 1 := ⟨k - 1, by omega⟩
  unfold impl_NeedOf.f spec_NeedOf.f
  simp only [(hb (k + 1) (by omega)).1, Option.bind_some, Bool.false_eq_true, if_false, spec_NeedOf.l0, (hb k (by omega)).2, ite_self, and_self]
theorem capOf2_loop (xs : List S78) (hn : xs.length ≤ 1048576) (h8 : xs.length ≤ 8) (hf : ∀ j : Int, 0 ≤ j → j < (xs.length : Int) → fitM (rd_T78 xs j)) (hc : ∀ k, xs.length < k → spec_AreCrew.f k xs = some true) : ∀ (d : Nat) (i a : Int), 0 ≤ i → (xs.length : Int) - i = d → 0 ≤ a → a ≤ 100 * i →
  ∃ c, (0 ≤ c ∧ c ≤ 800) ∧ ∀ k, xs.length + 2 * d + 2 < k → impl_CapOf.l0 k a xs (xs.length : Int) i = some c ∧ spec_CapOf.l0 k xs a i = some c := by
 intro d
 induction d with
 | zero =>
  intro i a h0 hd ha ha2
  have hlt : ¬ i < (xs.length : Int) := by omega
  refine ⟨a, ⟨ha, by omega⟩, fun k hk => ?_⟩
  obtain ⟨k, rfl⟩ : ∃ m, k = m + 2 := ⟨k - 2, by omega⟩
  simp only [impl_CapOf.l0, spec_CapOf.l0, spec_CapOf.j1, if_neg hlt, Bool.false_eq_true, if_false, and_self]
 | succ d ih =>
  intro i a h0 hd ha ha2
  have hm := hf i h0 (by omega)
  unfold fitM at hm
  have hwa : wrap64 (a + (rd_T78 xs i).f1) = a + (rd_T78 xs i).f1 := by unfold wrap64; omega
  have hlt : i < (xs.length : Int) := by omega
  by_cases hf : (rd_T78 xs i).f3 = true
  ·obtain ⟨c, hcb, hk2⟩ := ih (i + 1) a (by omega) (by omega) ha (by omega)
   refine ⟨c, hcb, fun k hk => ?_⟩
   obtain ⟨k, rfl⟩ : ∃ m, k = m + 2 := ⟨k - 2, by omega⟩
   have h1 := (hk2 (k + 1) (by omega)).1
   have h2 := (hk2 k (by omega)).2
   simp only [impl_CapOf.l0, spec_CapOf.l0, spec_CapOf.j1, if_pos hlt, if_pos h0, if_pos hf, hc (k + 1) (by omega), Option.bind_some, if_true, wrap_small (n := xs.length) h0 hlt hn] at h1 h2 ⊢
   exact ⟨h1, h2⟩
  ·obtain ⟨c, hcb, hk2⟩ := ih (i + 1) (wrap64 (a + (rd_T78 xs i).f1)) (by omega) (by omega) (by omega) (by omega)
   refine ⟨c, hcb, fun k hk => ?_⟩
   obtain ⟨k, rfl⟩ : ∃ m, k = m + 2 := ⟨k - 2, by omega⟩
   have h1 := (hk2 (k + 1) (by omega)).1
   have h2 := (hk2 k (by omega)).2
   constructor
   ·rw [impl_CapOf.l0]
    simp only [if_pos hlt, if_pos h0, if_neg hf, wrap_small (n := xs.length) h0 hlt hn]
    exact h1
   ·rw [spec_CapOf.l0]
    simp only [spec_CapOf.j1, if_pos hlt, if_pos h0, if_neg hf, hc (k + 1) (by omega), Option.bind_some, if_true, wrap_small (n := xs.length) h0 hlt hn]
    exact h2
theorem capOf_ev2 (xs : List S78) (hn : xs.length ≤ 1048576) : ∃ c, (0 ≤ c ∧ c ≤ 800) ∧ ∀ k, 3 * xs.length + 3 < k → impl_CapOf.f k xs = some c ∧ spec_CapOf.f k xs = some c := by
 obtain ⟨b, hb, hp⟩ := areCrew_ev xs hn
 cases b with
 | true =>
  obtain ⟨⟨h1, h8⟩, hf⟩ := hp rfl
  obtain ⟨c, hcb, hc⟩ := capOf2_loop xs hn h8 hf (fun k hk => (hb k hk).2) xs.length 0 0 (by omega) (by omega) (by omega) (by omega)
  refine ⟨c, hcb, fun k hk => ?_⟩
  unfold impl_CapOf.f spec_CapOf.f
  simp only [(hb k (by omega)).1, Option.bind_some, if_true]
  exact hc k (by omega)
 | false =>
  refine ⟨0, by omega, fun k hk => ?_⟩
  obtain ⟨k, rfl⟩ : ∃ m, k = m + 2 := ⟨k - 2, by omega⟩
  unfold impl_CapOf.f spec_CapOf.f
  simp only [(hb (k + 2) (by omega)).1, Option.bind_some, Bool.false_eq_true, if_false, spec_CapOf.l0, (hb (k + 1) (by omega)).2, spec_CapOf.j1, ite_self, and_self]
theorem isCell_ev (W H : Int) (xs : List Int) (hn : xs.length ≤ 1048576) (n : Int) {b : Bool} (hb : ∀ k, xs.length + 1 < k → impl_IsLand.f k W H xs = some b ∧ spec_IsLand.f k W H xs = some b) (k : Nat) (hk : xs.length + 1 < k) :
  impl_IsCell.f k W H xs n = some (b && decide (0 ≤ n ∧ n ≤ (xs.length : Int) - 1)) ∧ spec_IsCell.f k W H xs n = some (b && decide (0 ≤ n ∧ n ≤ (xs.length : Int) - 1)) := by
 have hw : wrap64 ((xs.length : Int) - 1) = (xs.length : Int) - 1 := by unfold wrap64; omega
 obtain ⟨h1, h2⟩ := hb k hk
 unfold impl_IsCell.f spec_IsCell.f
 rw [h1, h2, hw]
 cases b <;> simp [l1In_eq, inRange_eq]
theorem digit_ev (d : Int) (h0 : 0 ≤ d) (h9 : d ≤ 9) : ∃ t : ByteArray, t.size = 1 ∧ ∀ k, 2 < k → impl_FormatInt.f k d = some t ∧ spec_FormatInt.f k d = some t := by
 refine ⟨(⟨#[UInt8.ofNat (48 + d.toNat)]⟩ : ByteArray), rfl, fun k hk => ?_⟩
 obtain ⟨k, rfl⟩ : ∃ m, k = m + 3 := ⟨k - 3, by omega⟩
 have h1 : impl_FormatInt.f (k + 3) d = some (⟨#[UInt8.ofNat (48 + d.toNat)]⟩ : ByteArray) := by
  unfold impl_FormatInt.f
  rw [if_pos (by omega), Go.Lib.decDigits_one (by omega)]
 refine ⟨h1, ?_⟩
 clear h1 hk
 by_cases hz : d = 0
 ·subst hz; rfl
 ·have e1 : Int.tmod d 10 = d := by rw [Int.tmod_eq_emod_of_nonneg h0]; omega
  have e2 : Int.tdiv d 10 = 0 := by rw [Int.tdiv_eq_ediv_of_nonneg h0]; omega
  have w1 : wrap64 (48 + d) % 256 = 48 + d := by unfold wrap64; omega
  have w2 : wrap64 0 = 0 := by unfold wrap64; omega
  have hs : ∀ v : Int, (strOfNums [v]).size = 1 := fun _ => rfl
  have he : (⟨#[]⟩ : ByteArray).size = 0 := rfl
  unfold spec_FormatInt.f
  rw [if_neg hz, spec_FormatInt.l0, if_neg hz, e1, e2, w2, if_neg (by omega)]
  simp only [Option.bind_some, w1]
  rw [if_pos (by rw [hs, he]; omega), spec_FormatInt.l0, if_pos rfl, if_neg (by omega)]
  congr 1
  obtain rfl | rfl | rfl | rfl | rfl | rfl | rfl | rfl | rfl : d = 1 ∨ d = 2 ∨ d = 3 ∨ d = 4 ∨ d = 5 ∨ d = 6 ∨ d = 7 ∨ d = 8 ∨ d = 9 := by omega
  all_goals rfl
theorem letter_ev (m : Int) (h0 : 0 ≤ m) (h7 : m ≤ 7) : ∃ t : ByteArray, t.size = 1 ∧ runeOf (wrap64 (97 + m)) = some t ∧ (⟨#[97, 98, 99, 100, 101, 102, 103, 104]⟩ : ByteArray).extract m.toNat (m + 1).toNat = t := by
 rw [show wrap64 (97 + m) = 97 + m by unfold wrap64; omega]
 obtain rfl | rfl | rfl | rfl | rfl | rfl | rfl | rfl : m = 0 ∨ m = 1 ∨ m = 2 ∨ m = 3 ∨ m = 4 ∨ m = 5 ∨ m = 6 ∨ m = 7 := by omega
 ·exact ⟨(⟨#[97]⟩ : ByteArray), rfl, rfl, rfl⟩
 ·exact ⟨(⟨#[98]⟩ : ByteArray), rfl, rfl, rfl⟩
 ·exact ⟨(⟨#[99]⟩ : ByteArray), rfl, rfl, rfl⟩
 ·exact ⟨(⟨#[100]⟩ : ByteArray), rfl, rfl, rfl⟩
 ·exact ⟨(⟨#[101]⟩ : ByteArray), rfl, rfl, rfl⟩
 ·exact ⟨(⟨#[102]⟩ : ByteArray), rfl, rfl, rfl⟩
 ·exact ⟨(⟨#[103]⟩ : ByteArray), rfl, rfl, rfl⟩
 ·exact ⟨(⟨#[104]⟩ : ByteArray), rfl, rfl, rfl⟩
theorem cell_place {W H n : Int} {len : Nat} (hW : 1 ≤ W ∧ W ≤ 8) (hH : 1 ≤ H ∧ H ≤ 8) (hl : (len : Int) = W * H) (h0 : 0 ≤ n) (h1 : n ≤ (len : Int) - 1) : (0 ≤ Int.tmod n W ∧ Int.tmod n W ≤ 7) ∧ 0 ≤ Int.tdiv n W ∧ Int.tdiv n W ≤ 7 := by
 have e1 : Int.tmod n W = n % W := by rw [Int.tmod_eq_emod_of_nonneg h0]
 have e2 : Int.tdiv n W = n / W := by rw [Int.tdiv_eq_ediv_of_nonneg h0]
 have h2 := Int.emod_nonneg n (show W ≠ 0 by omega)
 have h3 := Int.emod_lt_of_pos n (show 0 < W by omega)
 have h4 : 0 ≤ n / W := Int.ediv_nonneg h0 (by omega)
 have h5 : n / W < H := by
  rw [Int.ediv_lt_iff_lt_mul (by omega), Int.mul_comm]
  omega
 rw [e1, e2]
 omega
theorem cellText_ev (W H : Int) (xs : List Int) (hn : xs.length ≤ 1048576) (n : Int) {b : Bool} (hb : ∀ k, xs.length + 1 < k → impl_IsLand.f k W H xs = some b ∧ spec_IsLand.f k W H xs = some b)
  (hp : b = true → (1 ≤ W ∧ W ≤ 8) ∧ (1 ≤ H ∧ H ≤ 8) ∧ (xs.length : Int) = W * H ∧ 1 ≤ xs.length ∧ xs.length ≤ 64 ∧ ∀ j : Int, 0 ≤ j → j < (xs.length : Int) → 0 ≤ rd xs j ∧ rd xs j ≤ 2) :
  ∃ t : ByteArray, t.size ≤ 2 ∧ ∀ k, xs.length + 3 < k → impl_CellText.f k W H xs n = some t ∧ spec_CellText.f k W H xs n = some t := by
 by_cases c : b = true ∧ (0 ≤ n ∧ n ≤ (xs.length : Int) - 1)
 ·obtain ⟨rfl, c0, c1⟩ := c
  obtain ⟨hW, hH, hl, h1, h64, _⟩ := hp rfl
  obtain ⟨⟨m0, m7⟩, q0, q7⟩ := cell_place hW hH hl c0 c1
  obtain ⟨t1, s1, e1, e2⟩ := letter_ev (Int.tmod n W) m0 m7
  obtain ⟨t2, s2, hd⟩ := digit_ev (Int.tdiv n W) q0 (by omega)
  have hwq : wrap64 (Int.tdiv n W) = Int.tdiv n W := by unfold wrap64; omega
  have hwm : wrap64 (Int.tmod n W + 1) = Int.tmod n W + 1 := by unfold wrap64; omega
  refine ⟨t1 ++ t2, by rw [ByteArray.size_append]; omega, fun k hk => ?_⟩
  obtain ⟨i1, i2⟩ := isCell_ev W H xs hn n hb k (by omega)
  obtain ⟨d1, d2⟩ := hd k (by omega)
  have hc : (true && decide (0 ≤ n ∧ n ≤ (xs.length : Int) - 1)) = true := by simp [c0, c1]
  rw [hc] at i1 i2
  have hz : ¬ W = 0 := by omega
  have hs : t1.size + t2.size ≤ 9223372036854775807 := by omega
  constructor
  ·unfold impl_CellText.f
   simp only [i1, Option.bind_some, if_true, if_neg hz, e1, hwq, d1, if_pos hs]
  ·unfold spec_CellText.f
   simp only [i2, Option.bind_some, if_true, if_neg hz, hwq, hwm, if_pos m0, if_pos (show Int.tmod n W ≤ Int.tmod n W + 1 by omega), if_pos (show Int.tmod n W + 1 ≤ 8 by omega), d2, e2, if_pos hs]
 ·refine ⟨(⟨#[]⟩ : ByteArray), by show 0 ≤ 2; omega, fun k hk => ?_⟩
  obtain ⟨i1, i2⟩ := isCell_ev W H xs hn n hb k (by omega)
  have hc : (b && decide (0 ≤ n ∧ n ≤ (xs.length : Int) - 1)) = false := by
   cases b with
   | false => rfl
   | true => simp only [Bool.true_and, decide_eq_false_iff_not]; exact fun h => c ⟨rfl, h⟩
  rw [hc] at i1 i2
  unfold impl_CellText.f spec_CellText.f
  simp only [i1, i2, Option.bind_some, Bool.false_eq_true, if_false, and_self]
theorem bytes_ext (s : ByteArray) (l : List UInt8) (h : s.data.toList = l) : s = (⟨l.toArray⟩ : ByteArray) := by
 subst h
 cases s with
 | mk d => simp
theorem bytes_append (s t : ByteArray) : (s ++ t).data.toList = s.data.toList ++ t.data.toList := by simp
theorem fmt_loop (a0 : Int) (ha : 0 ≤ a0) : ∀ (n u : Nat) (s : ByteArray), u ≤ n → 1 ≤ u → u ≤ 1000000 → s.size + u ≤ 4000000 →
  ∃ r : ByteArray, r.data.toList = Go.Lib.decDigits u ++ s.data.toList ∧ r.size ≤ s.size + u + 1 ∧ ∀ k, u + 1 < k → spec_FormatInt.l0 k a0 s (u : Int) = some r := by
 intro n
 induction n with
 | zero => intro u s h1 h2; omega
 | succ n ih =>
  intro u s h1 h2 h3 hs
  have hz : ¬ (u : Int) = 0 := by omega
  have e1 : Int.tmod (u : Int) 10 = ((u % 10 : Nat) : Int) := by rw [Int.tmod_eq_emod_of_nonneg (by omega)]; omega
  have e2 : Int.tdiv (u : Int) 10 = ((u / 10 : Nat) : Int) := by rw [Int.tdiv_eq_ediv_of_nonneg (by omega)]; omega
  have w1 : wrap64 (48 + ((u % 10 : Nat) : Int)) % 256 = ((48 + u % 10 : Nat) : Int) := by unfold wrap64; omega
  have w2 : wrap64 ((u / 10 : Nat) : Int) = ((u / 10 : Nat) : Int) := by unfold wrap64; omega
  obtain ⟨t, ht⟩ : ∃ t, t = strOfNums [((48 + u % 10 : Nat) : Int)] := ⟨_, rfl⟩
  have hts : t.size = 1 := by rw [ht]; rfl
  have htd : t.data.toList = [UInt8.ofNat (48 + u % 10)] := by rw [ht]; rfl
  have hstep : ∀ k, spec_FormatInt.l0 (k + 1) a0 s (u : Int) = spec_FormatInt.l0 k a0 (t ++ s) ((u / 10 : Nat) : Int) := by
   intro k
   rw [spec_FormatInt.l0, if_neg hz, e1, e2, w2, if_neg (by omega)]
   simp only [Option.bind_some, w1, ← ht]
   rw [if_pos (by omega)]
  by_cases hd : u / 10 = 0
  ·refine ⟨t ++ s, ?_, by rw [ByteArray.size_append]; omega, fun k hk => ?_⟩
   ·rw [bytes_append, htd, Go.Lib.decDigits_one (by omega), show u % 10 = u by omega]
   ·obtain ⟨k, rfl⟩ : ∃ m, k = m + 2 := ⟨k - 2, by omega⟩
    rw [hstep, hd, spec_FormatInt.l0, if_pos (by rfl), if_neg (by omega)]
  ·obtain ⟨r, r1, r2, r3⟩ := ih (u / 10) (t ++ s) (by omega) (by omega) (by omega) (by rw [ByteArray.size_append]; omega)
   rw [ByteArray.size_append] at r2
   refine ⟨r, ?_, by omega, fun k hk => ?_⟩
   ·rw [r1, bytes_append, htd]
    conv => rhs; rw [Go.Lib.decDigits, dif_neg (by omega)]
    simp
   ·obtain ⟨k, rfl⟩ : ∃ m, k = m + 1 := ⟨k - 1, by omega⟩
    rw [hstep]
    exact r3 k (by omega)
theorem formatInt_ev (n : Int) (h0 : 0 ≤ n) (h1 : n ≤ 1000000) : ∃ t : ByteArray, t.size ≤ 1000002 ∧ ∀ k, 1000002 < k → impl_FormatInt.f k n = some t ∧ spec_FormatInt.f k n = some t := by
 have hi : ∀ k, impl_FormatInt.f k n = some (⟨(Go.Lib.decDigits n.toNat).toArray⟩ : ByteArray) := by
  intro k
  unfold impl_FormatInt.f
  rw [if_pos ⟨h0, h1⟩]
 by_cases hz : n = 0
 ·subst hz
  refine ⟨(⟨#[48]⟩ : ByteArray), by show 1 ≤ _; omega, fun k _ => ⟨?_, ?_⟩⟩
  ·rw [hi, show (0 : Int).toNat = 0 from rfl, Go.Lib.decDigits_one (by omega)]
   rfl
  ·unfold spec_FormatInt.f
   rw [if_pos rfl]
 ·obtain ⟨u, rfl⟩ : ∃ u : Nat, n = (u : Int) := ⟨n.toNat, by omega⟩
  obtain ⟨r, r1, r2, r3⟩ := fmt_loop (u : Int) h0 u u (⟨#[]⟩ : ByteArray) (Nat.le_refl _) (by omega) (by omega) (by show 0 + u ≤ _; omega)
  have hs : (⟨#[]⟩ : ByteArray).size = 0 := rfl
  refine ⟨r, by omega, fun k hk => ⟨?_, ?_⟩⟩
  ·rw [hi, Int.toNat_natCast]
   congr 1
   exact (bytes_ext r _ (by rw [r1]; simp)).symm
  ·unfold spec_FormatInt.f
   rw [if_neg hz]
   exact r3 k (by omega)
theorem bytes_len (a : ByteArray) : a.toList.length = a.size := by rw [ByteArray.toList_eq]; simp
theorem pastT_loop (xs : List Bool) (hn : xs.length ≤ 1048576) : ∀ (d : Nat) (acc : ByteArray) (i : Int), 0 ≤ i → (xs.length : Int) - i = d → acc.size = i.toNat →
  ∃ r, r.size = xs.length ∧ ∀ k, d < k → impl_PastText.l0 k acc xs (xs.length : Int) i = some r ∧ spec_PastText.l0 k xs acc i = (if xs.length = 0 then some (⟨#[45]⟩ : ByteArray) else some r) := by
 intro d
 induction d with
 | zero =>
  intro acc i h0 hd hs
  refine ⟨acc, by omega, fun k hk => ?_⟩
  obtain ⟨k, rfl⟩ : ∃ m, k = m + 1 := ⟨k - 1, by omega⟩
  simp only [spec_PastText.l0, impl_PastText.l0]
  rw [if_neg (by omega), if_neg (by omega)]
  refine ⟨rfl, ?_⟩
  by_cases e : xs.length = 0
  ·have h2 : acc.toList = [] := by
    have h3 : acc.size = 0 := by omega
    exact List.eq_nil_of_length_eq_zero (by rw [bytes_len, h3])
   rw [if_pos h2, if_pos e]
  ·have h2 : ¬ acc.toList = [] := by
    intro h3
    have h4 : acc.size ≠ 0 := by omega
    apply h4
    rw [← bytes_len, h3]; rfl
   rw [if_neg h2, if_neg e]
 | succ d ih =>
  intro acc i h0 hd hs
  have hlt : i < (xs.length : Int) := by omega
  have hsz : acc.size + 1 ≤ 9223372036854775807 := by omega
  obtain ⟨v, hv⟩ : ∃ v : ByteArray, v = if rdOf false xs i = true then (⟨#[115]⟩ : ByteArray) else (⟨#[46]⟩ : ByteArray) := ⟨_, rfl⟩
  have hv1 : v.size = 1 := by rw [hv]; split <;> rfl
  obtain ⟨r, r1, r2⟩ := ih (acc ++ v) (i + 1) (by omega) (by omega) (by rw [ByteArray.size_append]; omega)
  refine ⟨r, r1, fun k hk => ?_⟩
  obtain ⟨k, rfl⟩ : ∃ m, k = m + 1 := ⟨k - 1, by omega⟩
  have r3 := r2 k (by omega)
  rw [hv] at r3
  simp only [spec_PastText.l0, impl_PastText.l0]
  simp only [if_pos hlt, if_pos h0, if_pos hsz, wrap_small (n := xs.length) h0 hlt hn]
  by_cases e : rdOf false xs i = true
  ·simp only [if_pos e] at r3 ⊢
   exact r3
  ·simp only [if_neg e] at r3 ⊢
   exact r3
theorem pastText_ev (xs : List Bool) (hn : xs.length ≤ 1048576) : ∃ q : ByteArray, q.size ≤ xs.length + 1 ∧ ∀ k, xs.length + 1 < k → impl_PastText.f k xs = some q ∧ spec_PastText.f k xs = some q := by
 obtain ⟨r, r1, r2⟩ := pastT_loop xs hn xs.length (⟨#[]⟩ : ByteArray) 0 (by omega) (by omega) rfl
 by_cases e : xs.length = 0
 ·refine ⟨(⟨#[45]⟩ : ByteArray), by show 1 ≤ _; omega, fun k hk => ⟨?_, ?_⟩⟩
  ·unfold impl_PastText.f; rw [if_pos (by omega)]
  ·unfold spec_PastText.f; rw [(r2 k (by omega)).2, if_pos e]
 ·refine ⟨r, by omega, fun k hk => ⟨?_, ?_⟩⟩
  ·unfold impl_PastText.f; rw [if_neg (by omega)]; exact (r2 k (by omega)).1
  ·unfold spec_PastText.f; rw [(r2 k (by omega)).2, if_neg e]
theorem isOpen_ev (W H : Int) (xs : List Int) (hn : xs.length ≤ 1048576) (n : Int) {b : Bool} (hb : ∀ k, xs.length + 1 < k → impl_IsLand.f k W H xs = some b ∧ spec_IsLand.f k W H xs = some b) :
  ∃ c, ∀ k, xs.length + 1 < k → impl_IsOpen.f k W H xs n = some c ∧ spec_IsOpen.f k W H xs n = some c := by
 by_cases h : (b && decide (0 ≤ n ∧ n ≤ (xs.length : Int) - 1)) = true
 ·refine ⟨(rd xs n) != 2, fun k hk => ?_⟩
  obtain ⟨i1, i2⟩ := isCell_ev W H xs hn n hb k hk
  rw [h] at i1 i2
  simp only [Bool.and_eq_true, decide_eq_true_eq] at h
  unfold impl_IsOpen.f spec_IsOpen.f
  simp only [i1, i2, Option.bind_some, if_true, if_pos h.2.1, if_pos (show n < (xs.length : Int) by omega), and_self]
 ·refine ⟨false, fun k hk => ?_⟩
  obtain ⟨i1, i2⟩ := isCell_ev W H xs hn n hb k hk
  rw [Bool.eq_false_iff.mpr h] at i1 i2
  unfold impl_IsOpen.f spec_IsOpen.f
  simp only [i1, i2, Option.bind_some, Bool.false_eq_true, if_false, and_self]
theorem joined_ev (a b c d : Int) (ta tb tc td : ByteArray) (K : Nat) (ha : ∀ k, K < k → impl_FormatInt.f k a = some ta) (hb : ∀ k, K < k → impl_FormatInt.f k b = some tb) (hc : ∀ k, K < k → impl_FormatInt.f k c = some tc) (hd : ∀ k, K < k → impl_FormatInt.f k d = some td)
  (hs : ta.size ≤ 1000002 ∧ tb.size ≤ 1000002 ∧ tc.size ≤ 1000002 ∧ td.size ≤ 1000002) :
  ∀ k, K + 6 < k → impl_joined.f k [a, b, c, d] = some (ta ++ (⟨#[32]⟩ : ByteArray) ++ tb ++ (⟨#[32]⟩ : ByteArray) ++ tc ++ (⟨#[32]⟩ : ByteArray) ++ td) := by
 intro k hk
 obtain ⟨k, rfl⟩ : ∃ m, k = m + 5 := ⟨k - 5, by omega⟩
 have hw0 : wrap64 (0 + 1) = 1 := by unfold wrap64; omega
 have hw1 : wrap64 (1 + 1) = 2 := by unfold wrap64; omega
 have hw2 : wrap64 (2 + 1) = 3 := by unfold wrap64; omega
 have hw3 : wrap64 (3 + 1) = 4 := by unfold wrap64; omega
 have hl : (([a, b, c, d] : List Int).length : Int) = 4 := rfl
 have g0 : rd [a, b, c, d] 0 = a := rfl
 have g1 : rd [a, b, c, d] 1 = b := rfl
 have g2 : rd [a, b, c, d] 2 = c := rfl
 have g3 : rd [a, b, c, d] 3 = d := rfl
 have hz : (⟨#[32]⟩ : ByteArray).size = 1 := rfl
 have hj : strings_Join.f [ta, tb, tc, td] (⟨#[32]⟩ : ByteArray) = some (ta ++ (⟨#[32]⟩ : ByteArray) ++ tb ++ (⟨#[32]⟩ : ByteArray) ++ tc ++ (⟨#[32]⟩ : ByteArray) ++ td) := by
  have he : (ta ++ (⟨#[32]⟩ : ByteArray) ++ tb ++ (⟨#[32]⟩ : ByteArray) ++ tc ++ (⟨#[32]⟩ : ByteArray) ++ td).data.toList = Go.Lib.join ([ta, tb, tc, td].map (·.data.toList)) (⟨#[32]⟩ : ByteArray).data.toList := by
   simp only [bytes_append, List.map_cons, List.map_nil, Go.Lib.join_cons, Go.Lib.joinTail, List.flatten_cons, List.flatten_nil, List.append_nil, List.append_assoc]
  have hlen : (Go.Lib.join ([ta, tb, tc, td].map (·.data.toList)) (⟨#[32]⟩ : ByteArray).data.toList).length ≤ 140737488355328 := by
   rw [← he, Array.length_toList]
   show (ta ++ (⟨#[32]⟩ : ByteArray) ++ tb ++ (⟨#[32]⟩ : ByteArray) ++ tc ++ (⟨#[32]⟩ : ByteArray) ++ td).size ≤ _
   simp only [ByteArray.size_append, hz]
   omega
  unfold strings_Join.f
  rw [if_pos hlen, if_pos (by show 4 ≤ _; omega)]
  congr 1
  exact (bytes_ext _ _ he).symm
 unfold impl_joined.f
 rw [hl]
 rw [impl_joined.l0, if_pos (by omega), if_pos (by omega), if_pos (by rw [hl]; omega), g0, ha _ (by omega), Option.bind_some, if_pos (by show 0 < _; omega), hw0]
 rw [impl_joined.l0, if_pos (by omega), if_pos (by omega), if_pos (by rw [hl]; omega), g1, hb _ (by omega), Option.bind_some, if_pos (by show 1 < _; omega), hw1]
 rw [impl_joined.l0, if_pos (by omega), if_pos (by omega), if_pos (by rw [hl]; omega), g2, hc _ (by omega), Option.bind_some, if_pos (by show 2 < _; omega), hw2]
 rw [impl_joined.l0, if_pos (by omega), if_pos (by omega), if_pos (by rw [hl]; omega), g3, hd _ (by omega), Option.bind_some, if_pos (by show 3 < _; omega), hw3]
 rw [impl_joined.l0, if_neg (by omega)]
 show (strings_Join.f [ta, tb, tc, td] (⟨#[32]⟩ : ByteArray)).bind _ = _
 rw [hj]
 rfl
theorem partyText_ev (W H : Int) (xs : List Int) (hn : xs.length ≤ 1048576) (a f : Int) (l : List S78) (hl : l.length ≤ 1048576) (p : List Bool) (hp : p.length ≤ 1048576) :
  ∃ r, ∀ k, 9000000 < k → impl_PartyText.f k W H xs a f l p = some r ∧ spec_PartyText.f k W H xs a f l p = some r := by
 obtain ⟨b, hb, hbp⟩ := isLand_ev W H xs hn
 obtain ⟨o, ho⟩ := isOpen_ev W H xs hn a hb
 obtain ⟨cb, need, hcb, hn1, hn0, hneed⟩ := needOf_ev l hl
 obtain ⟨cap, hcap, hcapv⟩ := capOf_ev2 l hl
 by_cases hok : (o = true ∧ cb = true) ∧ (0 ≤ f ∧ f ≤ 10000) ∧ (p.length : Int) ≤ 10
 ·obtain ⟨⟨rfl, rfl⟩, ⟨f0, f1⟩, p10⟩ := hok
  obtain ⟨_, l1, l8, _, n1, n80⟩ := hn1 rfl
  obtain ⟨t, ht, htv⟩ := cellText_ev W H xs hn a hb hbp
  obtain ⟨tf, hf, hfv⟩ := formatInt_ev f f0 (by omega)
  obtain ⟨tl, hlz, hlv⟩ := formatInt_ev (l.length : Int) (by omega) (by omega)
  obtain ⟨tn, htn, hnv⟩ := formatInt_ev need (by omega) (by omega)
  obtain ⟨tc, htc, hcv⟩ := formatInt_ev cap (by omega) (by omega)
  obtain ⟨q, hq, hqv⟩ := pastText_ev p hp
  have hz : (⟨#[32]⟩ : ByteArray).size = 1 := rfl
  have hparty : ∀ k, 9000000 < k → impl_IsParty.f k W H xs a f l p = some true ∧ spec_IsParty.f k W H xs a f l p = some true := by
   intro k hk
   obtain ⟨o1, o2⟩ := ho k (by omega)
   obtain ⟨c1, c2⟩ := hcb k (by omega)
   unfold impl_IsParty.f spec_IsParty.f
   simp only [o1, o2, c1, c2, inRange_eq, l1In_eq, f0, f1, p10, and_self, decide_true, Option.bind_some, if_true]
  have e : t ++ (⟨#[32]⟩ : ByteArray) ++ (tf ++ (⟨#[32]⟩ : ByteArray) ++ tl ++ (⟨#[32]⟩ : ByteArray) ++ tn ++ (⟨#[32]⟩ : ByteArray) ++ tc) ++ (⟨#[32]⟩ : ByteArray) ++ q =
    t ++ (⟨#[32]⟩ : ByteArray) ++ tf ++ (⟨#[32]⟩ : ByteArray) ++ tl ++ (⟨#[32]⟩ : ByteArray) ++ tn ++ (⟨#[32]⟩ : ByteArray) ++ tc ++ (⟨#[32]⟩ : ByteArray) ++ q := by
   simp only [ByteArray.append_assoc]
  refine ⟨t ++ (⟨#[32]⟩ : ByteArray) ++ tf ++ (⟨#[32]⟩ : ByteArray) ++ tl ++ (⟨#[32]⟩ : ByteArray) ++ tn ++ (⟨#[32]⟩ : ByteArray) ++ tc ++ (⟨#[32]⟩ : ByteArray) ++ q, fun k hk => ?_⟩
  obtain ⟨p1, p2⟩ := hparty k hk
  obtain ⟨t1, t2⟩ := htv k (by omega)
  obtain ⟨q1, q2⟩ := hqv k (by omega)
  obtain ⟨n1, n2⟩ := hneed k (by omega)
  obtain ⟨v1, v2⟩ := hcapv k (by omega)
  have hj := joined_ev f (l.length : Int) need cap tf tl tn tc 1000002 (fun k hk => (hfv k hk).1) (fun k hk => (hlv k hk).1) (fun k hk => (hnv k hk).1) (fun k hk => (hcv k hk).1) ⟨hf, hlz, htn, htc⟩ k (by omega)
  constructor
  ·unfold impl_PartyText.f
   simp only [p1, t1, n1, v1, hj, q1, Option.bind_some, if_true]
   rw [if_pos (by omega), if_pos (by simp only [ByteArray.size_append, hz]; omega), if_pos (by simp only [ByteArray.size_append, hz]; omega), if_pos (by simp only [ByteArray.size_append, hz]; omega), e]
  ·unfold spec_PartyText.f
   simp only [p2, t2, n2, v2, (hfv k (by omega)).2, (hlv k (by omega)).2, (hnv k (by omega)).2, (hcv k (by omega)).2, q2, Option.bind_some, if_true]
   rw [if_pos (by omega)]
   repeat rw [if_pos (by simp only [ByteArray.size_append, hz]; omega)]
 ·have hparty : ∀ k, 9000000 < k → impl_IsParty.f k W H xs a f l p = some false ∧ spec_IsParty.f k W H xs a f l p = some false := by
   intro k hk
   obtain ⟨o1, o2⟩ := ho k (by omega)
   obtain ⟨c1, c2⟩ := hcb k (by omega)
   unfold impl_IsParty.f spec_IsParty.f
   simp only [o1, o2, c1, c2, inRange_eq, l1In_eq, Option.bind_some]
   cases o with
   | false => simp
   | true =>
    cases cb with
    | false => simp
    | true =>
     by_cases hf : 0 ≤ f ∧ f ≤ 10000
     ·have hp2 : ¬ (p.length : Int) ≤ 10 := fun h => hok ⟨⟨rfl, rfl⟩, hf, h⟩
      simp only [hf, hp2, and_self, decide_true, decide_false, if_true]
     ·simp only [hf, decide_false, if_true, Bool.false_eq_true, if_false, and_self]
  refine ⟨(⟨#[]⟩ : ByteArray), fun k hk => ?_⟩
  obtain ⟨p1, p2⟩ := hparty k hk
  unfold impl_PartyText.f spec_PartyText.f
  simp only [p1, p2, Option.bind_some, Bool.false_eq_true, if_false, and_self]
theorem szLP (W H : Int) (xs : List Int) (a f : Int) (l : List S80) (h : List Bool) (hx : xs.length ≤ maxLen) (hl : l.length ≤ maxLen) (hh : h.length ≤ maxLen) :
  ∃ z1, laws_szLand.f W H xs 1048576 = some z1 ∧ (z1 < 0 ∨ ∃ z2, laws_szParty.f a f l h z1 = some z2 ∧ (z2 < 0 ∨ (xs.length ≤ 1048576 ∧ l.length ≤ 1048576 ∧ h.length ≤ 1048576))) := by
 unfold maxLen at hx hl hh
 have hw : wrap64 (1048576 - (xs.length : Int)) = 1048576 - (xs.length : Int) := by unfold wrap64; omega
 unfold laws_szLand.f laws_szIntS.f
 rw [hw]
 by_cases h1 : (1048576 - (xs.length : Int)) < 0
 ·rw [if_pos h1]; simp only [Option.bind_some]; rw [if_pos (by omega)]; exact ⟨_, rfl, .inl (by omega)⟩
 ·rw [if_neg h1]; simp only [Option.bind_some]; rw [if_neg h1]
  refine ⟨_, rfl, .inr ?_⟩
  have hw2 : wrap64 (1048576 - (xs.length : Int) - (l.length : Int)) = 1048576 - (xs.length : Int) - (l.length : Int) := by clear hw; unfold wrap64; omega
  unfold laws_szParty.f laws_szMemberS.f laws_szBoolS.f
  rw [hw2]
  by_cases h2 : (1048576 - (xs.length : Int) - (l.length : Int)) < 0
  ·rw [if_pos h2]; simp only [Option.bind_some]; rw [if_pos (by omega)]; exact ⟨_, rfl, .inl (by omega)⟩
  ·rw [if_neg h2]; simp only [Option.bind_some]; rw [if_neg h2]
   have hw3 : wrap64 (1048576 - (xs.length : Int) - (l.length : Int) - (h.length : Int)) = 1048576 - (xs.length : Int) - (l.length : Int) - (h.length : Int) := by clear hw hw2; unfold wrap64; omega
   rw [hw3]
   by_cases h3 : (1048576 - (xs.length : Int) - (l.length : Int) - (h.length : Int)) < 0
   ·rw [if_pos h3]; simp only [Option.bind_some]; rw [if_pos (by omega)]; exact ⟨_, rfl, .inl (by omega)⟩
   ·rw [if_neg h3]; simp only [Option.bind_some]; rw [if_neg h3]; exact ⟨_, rfl, .inr (by omega)⟩
theorem FnExactPartyText : laws_FnExactPartyText.Stmt := by
 intro x y hx hy
 obtain ⟨z1, e1, c1⟩ := szLP x.f0 x.f1 x.f2 y.f0 y.f1 y.f2 y.f3 hx.2.2.1 hy.2.2.1.1 hy.2.2.2.1
 by_cases n1 : z1 < 0
 ·exact ⟨0, by unfold laws_FnExactPartyText.f; rw [e1]; simp only [Option.bind_some]; rw [if_pos n1]⟩
 obtain ⟨z2, e2, c2⟩ := c1.resolve_left n1
 by_cases n2 : z2 < 0
 ·exact ⟨0, by unfold laws_FnExactPartyText.f; rw [e1]; simp only [Option.bind_some]; rw [if_neg n1, e2]; simp only [Option.bind_some]; rw [if_pos n2]⟩
 obtain ⟨hn, hl, hh⟩ := c2.resolve_left n2
 have hl2 : (y.f2.map cMember).length = y.f2.length := by simp
 obtain ⟨r, hr⟩ := partyText_ev x.f0 x.f1 x.f2 hn y.f0 y.f1 (y.f2.map cMember) (by omega) y.f3 hh
 obtain ⟨k, hk⟩ : ∃ k, k = 9000001 := ⟨_, rfl⟩
 obtain ⟨h1, h2⟩ := hr k (by omega)
 refine ⟨k, ?_⟩
 unfold laws_FnExactPartyText.f
 rw [e1]; simp only [Option.bind_some]; rw [if_neg n1, e2]; simp only [Option.bind_some]; rw [if_neg n2]
 simp only [laws_toLand.f, laws_eqLand.f, toIntS_ev x.f2 hn k (by omega), eqIntS_ev x.f2 hn k (by omega), toParty_ev y.f0 y.f1 y.f2 y.f3 hl hh k (by omega), eqParty_ev y.f0 y.f1 (y.f2.map cMember) y.f3 (by omega) hh k (by omega), h1, h2, Option.bind_some, if_true]

end Go.Proofs.YtnicfhfclnmdaaaDoor.Pure
