/- The program's LandText returns what the reference's LandText returns, for every land whose list of cells is no longer than 2^20, and leaves it as it was. No further condition. -/
import Derived.Test.YtcokbhkjfdddkaaSFnExactLandText
namespace Go.Proofs.Ytcokbhkjfdddkaa.Pure
open Go.RowKit Go.Proofs.Ytcokbhkjfdddkaa.Q Go.Proofs.YtcokbhkjfdddkaaW.PrintWords Go.Proofs.YtcokbhkjfdddkaaW.PrintLast Go.Proofs.YtcokbhkjfdddkaaW.PrintMore
set_option linter.unusedVariables false
set_option linter.unusedSimpArgs false

theorem ext_getD {α : Type} {d : α} {a b : List α} (h : a.length = b.length) (hj : ∀ j, j < a.length → a.getD j d = b.getD j d) : a = b := by
  apply List.ext_getElem h
  intro j h1 h2
  have := hj j h1
  simpa [List.getD_eq_getElem?_getD, List.getElem?_eq_getElem h1, List.getElem?_eq_getElem h2] using this

theorem getD_set {α : Type} {d : α} (a : List α) (i j : Nat) (v : α) (h : i < a.length) : (a.set i v).getD j d = if i = j then v else a.getD j d := by
  simp only [List.getD_eq_getElem?_getD, List.getElem?_set]
  by_cases e : i = j
  · subst e; simp [h]
  · simp [e]

theorem wrap_small {i : Int} {n : Nat} (h0 : 0 ≤ i) (h : i < (n : Int)) (hn : n ≤ 1048576) : wrap64 (i + 1) = i + 1 := by
  unfold wrap64; omega

theorem toIntS_loop (xs : List Int) (hn : xs.length ≤ 1048576) : ∀ (d k : Nat) (acc : List Int) (i : Int), acc.length = xs.length → 0 ≤ i → (xs.length : Int) - i = d → d < k →
    (∀ j : Nat, (j : Int) < i → acc.getD j 0 = xs.getD j 0) → laws_toIntS.l0 k xs acc i = some xs := by
  intro d
  induction d with
  | zero =>
    intro k acc i hl h0 hd hk hj
    obtain ⟨k, rfl⟩ : ∃ m, k = m + 1 := ⟨k - 1, by omega⟩
    simp only [laws_toIntS.l0]
    rw [if_neg (by omega)]
    exact congrArg some (ext_getD hl (fun j h => hj j (by omega)))
  | succ d ih =>
    intro k acc i hl h0 hd hk hj
    obtain ⟨k, rfl⟩ : ∃ m, k = m + 1 := ⟨k - 1, by omega⟩
    simp only [laws_toIntS.l0]
    rw [if_pos (by omega), if_pos h0, if_pos (by omega), wrap_small (n := xs.length) h0 (by omega) hn]
    refine ih k _ _ (by simpa using hl) (by omega) (by omega) (by omega) ?_
    intro j hj'
    rw [getD_set _ _ _ _ (by omega)]
    by_cases e : i.toNat = j
    · rw [if_pos e]; unfold rd; rw [e]
    · rw [if_neg e]; exact hj j (by omega)

theorem toIntS_ev (xs : List Int) (hn : xs.length ≤ 1048576) (k : Nat) (hk : xs.length < k) : laws_toIntS.f k xs = some xs := by
  unfold laws_toIntS.f
  rw [if_pos (by omega), if_pos (by omega)]
  exact toIntS_loop xs hn xs.length k _ 0 (by simp) (by omega) (by omega) hk (fun j hj => by omega)

theorem eqIntS_loop (xs : List Int) (hn : xs.length ≤ 1048576) : ∀ (d k : Nat) (i : Int), 0 ≤ i → (xs.length : Int) - i = d → d < k → laws_eqIntS.l0 k xs xs i = some true := by
  intro d
  induction d with
  | zero =>
    intro k i h0 hd hk
    obtain ⟨k, rfl⟩ : ∃ m, k = m + 1 := ⟨k - 1, by omega⟩
    simp only [laws_eqIntS.l0]
    rw [if_neg (by omega)]
  | succ d ih =>
    intro k i h0 hd hk
    obtain ⟨k, rfl⟩ : ∃ m, k = m + 1 := ⟨k - 1, by omega⟩
    simp only [laws_eqIntS.l0]
    rw [if_pos (by omega), if_pos h0, if_pos (by omega), if_pos trivial, wrap_small (n := xs.length) h0 (by omega) hn]
    exact ih k _ (by omega) (by omega) (by omega)

theorem eqIntS_ev (xs : List Int) (hn : xs.length ≤ 1048576) (k : Nat) (hk : xs.length < k) : laws_eqIntS.f k xs xs = some true := by
  unfold laws_eqIntS.f
  rw [if_pos rfl]
  exact eqIntS_loop xs hn xs.length k 0 (by omega) (by omega) hk

theorem szIntS_ev (l : List Int) (hm : l.length ≤ maxLen) : ∃ r, laws_szIntS.f l 1048576 = some r ∧ (r < 0 ∨ l.length ≤ 1048576) := by
  unfold maxLen at hm
  have hw : wrap64 (1048576 - (l.length : Int)) = 1048576 - (l.length : Int) := by unfold wrap64; omega
  unfold laws_szIntS.f
  rw [hw]
  by_cases h : (1048576 - (l.length : Int)) < 0
  · rw [if_pos h]; exact ⟨_, rfl, .inl (by omega)⟩
  · rw [if_neg h]; exact ⟨_, rfl, .inr (by omega)⟩

theorem l1In_eq (a b c : Int) : spec_l1In.f a b c = some (decide (b ≤ a ∧ a ≤ c)) := by
  unfold spec_l1In.f
  by_cases h : a ≥ b
  · rw [if_pos h]; congr 1; have : b ≤ a := h; simp [this]
  · rw [if_neg h]; have : ¬ b ≤ a := h; simp [this]
theorem inRange_eq (a b c : Int) : impl_InRange.f a b c = some (decide (b ≤ a ∧ a ≤ c)) := by
  unfold impl_InRange.f
  by_cases h : b ≤ a
  · rw [if_pos h]; simp [h]
  · rw [if_neg h]; simp [h]

theorem landCells_loop (W H : Int) (xs : List Int) (hn : xs.length ≤ 1048576) : ∀ (d : Nat) (i : Int), 0 ≤ i → (xs.length : Int) - i = d →
    ∃ b, (∀ k, d < k → impl_allIn.l0 k 0 2 xs (xs.length : Int) i = some b ∧ spec_IsLand.l0 k i W H xs = some b) ∧ (b = true → ∀ j : Int, i ≤ j → j < (xs.length : Int) → 0 ≤ rd xs j ∧ rd xs j ≤ 2) := by
  intro d
  induction d with
  | zero =>
    intro i h0 hd
    have hlt : ¬ i < (xs.length : Int) := by omega
    refine ⟨true, fun k hk => ?_, fun _ j h1 h2 => by omega⟩
    obtain ⟨k, rfl⟩ : ∃ m, k = m + 1 := ⟨k - 1, by omega⟩
    simp only [impl_allIn.l0, spec_IsLand.l0, if_neg hlt, and_self]
  | succ d ih =>
    intro i h0 hd
    have hlt : i < (xs.length : Int) := by omega
    obtain ⟨b, hb, hp⟩ := ih (i + 1) (by omega) (by omega)
    by_cases e : 0 ≤ rd xs i ∧ rd xs i ≤ 2
    · refine ⟨b, fun k hk => ?_, fun h j h1 h2 => ?_⟩
      · obtain ⟨k, rfl⟩ : ∃ m, k = m + 1 := ⟨k - 1, by omega⟩
        simp only [impl_allIn.l0, spec_IsLand.l0, if_pos hlt, if_pos h0, l1In_eq, inRange_eq, e, and_self, decide_true, Option.bind_some, if_true, wrap_small (n := xs.length) h0 hlt hn]
        exact hb k (by omega)
      · by_cases h3 : j = i
        · subst h3; exact e
        · exact hp h j (by omega) h2
    · refine ⟨false, fun k hk => ?_, fun h => by cases h⟩
      obtain ⟨k, rfl⟩ : ∃ m, k = m + 1 := ⟨k - 1, by omega⟩
      simp only [impl_allIn.l0, spec_IsLand.l0, if_pos hlt, if_pos h0, l1In_eq, inRange_eq, e, decide_false, Option.bind_some, Bool.false_eq_true, if_false, and_self]
theorem isLand_ev (W H : Int) (xs : List Int) (hn : xs.length ≤ 1048576) : ∃ b, (∀ k, xs.length + 1 < k → impl_IsLand.f k W H xs = some b ∧ spec_IsLand.f k W H xs = some b) ∧
    (b = true → (1 ≤ W ∧ W ≤ 8) ∧ (1 ≤ H ∧ H ≤ 8) ∧ (xs.length : Int) = W * H ∧ 1 ≤ xs.length ∧ xs.length ≤ 64 ∧ ∀ j : Int, 0 ≤ j → j < (xs.length : Int) → 0 ≤ rd xs j ∧ rd xs j ≤ 2) := by
  by_cases hW : 1 ≤ W ∧ W ≤ 8
  · by_cases hH : 1 ≤ H ∧ H ≤ 8
    · have h1 : W * H ≤ 8 * 8 := Int.mul_le_mul hW.2 hH.2 (by omega) (by omega)
      have h2 : 1 * 1 ≤ W * H := Int.mul_le_mul hW.1 hH.1 (by omega) (by omega)
      have hw : wrap64 (W * H) = W * H := by unfold wrap64; omega
      by_cases hl : (xs.length : Int) = W * H
      · obtain ⟨b, hb, hp⟩ := landCells_loop W H xs hn xs.length 0 (by omega) (by omega)
        refine ⟨b, fun k hk => ?_, fun e => ⟨hW, hH, hl, by omega, by omega, hp e⟩⟩
        obtain ⟨k, rfl⟩ : ∃ m, k = m + 1 := ⟨k - 1, by omega⟩
        have e : ((xs.length : Int) != W * H) = false := by simp [hl]
        have b1 := (hb (k + 1) (by omega)).1
        have b2 := (hb k (by omega)).2
        unfold impl_IsLand.f spec_IsLand.f
        simp only [l1In_eq, inRange_eq, hW, hH, and_self, decide_true, Option.bind_some, if_true, hw, if_pos hl, e, spec_IsLand.j0, Bool.false_eq_true, if_false, impl_allIn.f, b1, b2]
      · refine ⟨false, fun k hk => ?_, fun e => by cases e⟩
        obtain ⟨k, rfl⟩ : ∃ m, k = m + 1 := ⟨k - 1, by omega⟩
        have e : ((xs.length : Int) != W * H) = true := by simp [hl]
        unfold impl_IsLand.f spec_IsLand.f
        simp only [l1In_eq, inRange_eq, hW, hH, and_self, decide_true, Option.bind_some, if_true, hw, if_neg hl, e, spec_IsLand.j0]
    · refine ⟨false, fun k hk => ?_, fun e => by cases e⟩
      obtain ⟨k, rfl⟩ : ∃ m, k = m + 1 := ⟨k - 1, by omega⟩
      unfold impl_IsLand.f spec_IsLand.f
      simp only [l1In_eq, inRange_eq, hW, hH, and_self, decide_true, decide_false, Option.bind_some, if_true, Bool.false_eq_true, if_false, spec_IsLand.j0]
  · refine ⟨false, fun k hk => ?_, fun e => by cases e⟩
    obtain ⟨k, rfl⟩ : ∃ m, k = m + 1 := ⟨k - 1, by omega⟩
    unfold impl_IsLand.f spec_IsLand.f
    simp only [l1In_eq, inRange_eq, hW, decide_false, Option.bind_some, if_true, Bool.false_eq_true, if_false, spec_IsLand.j0, and_self]

theorem landText_loop (W H : Int) (xs : List Int) (hn : xs.length ≤ 64) (hW : 1 ≤ W ∧ W ≤ 8) (hc : ∀ j : Int, 0 ≤ j → j < (xs.length : Int) → 0 ≤ rd xs j ∧ rd xs j ≤ 2) (hl : ∀ k, xs.length + 1 < k → spec_IsLand.f k W H xs = some true) :
    ∀ (d : Nat) (i : Int) (s : ByteArray), 0 ≤ i → (xs.length : Int) - i = d → (s.size : Int) ≤ 4 * i →
      ∃ r, ∀ k, xs.length + 2 * d + 4 < k → impl_LandText.l0 k s xs (xs.length : Int) i W H xs = some r ∧ spec_LandText.l0 k s i W H xs = some r := by
  intro d
  induction d with
  | zero =>
    intro i s h0 hd _
    have hlt : ¬ i < (xs.length : Int) := by omega
    refine ⟨s, fun k hk => ?_⟩
    obtain ⟨k, rfl⟩ : ∃ m, k = m + 2 := ⟨k - 2, by omega⟩
    simp only [impl_LandText.l0, spec_LandText.l0, spec_LandText.j1, if_neg hlt, Bool.false_eq_true, if_false, and_self]
  | succ d ih =>
    intro i s h0 hd hs
    have hlt : i < (xs.length : Int) := by omega
    obtain ⟨c0, c2⟩ := hc i h0 hlt
    obtain ⟨c, hcc⟩ : ∃ c, c = rd xs i := ⟨_, rfl⟩
    rw [← hcc] at c0 c2
    have hwc : wrap64 (c + 1) = c + 1 := by unfold wrap64; omega
    have g1 : c ≤ c + 1 := by omega
    have g2 : c + 1 ≤ 3 := by omega
    obtain ⟨p, hp⟩ : ∃ p, p = (⟨#[46, 105, 35]⟩ : ByteArray).extract c.toNat (c + 1).toNat := ⟨_, rfl⟩
    have hps : p.size ≤ 3 := by rw [hp, ByteArray.size_extract]; have : (⟨#[46, 105, 35]⟩ : ByteArray).size = 3 := rfl; omega
    have hsl : ((⟨#[47]⟩ : ByteArray)).size = 1 := rfl
    have g3 : s.size + p.size ≤ 9223372036854775807 := by omega
    have g4 : s.size + 1 ≤ 9223372036854775807 := by omega
    have g5 : (s ++ (⟨#[47]⟩ : ByteArray)).size + p.size ≤ 9223372036854775807 := by rw [ByteArray.size_append, hsl]; omega
    have hWz : ¬ W = 0 := by omega
    by_cases hsep : i > 0 ∧ Int.tmod i W = 0
    · obtain ⟨r, hr⟩ := ih (i + 1) ((s ++ (⟨#[47]⟩ : ByteArray)) ++ p) (by omega) (by omega) (by rw [ByteArray.size_append, ByteArray.size_append, hsl]; omega)
      refine ⟨r, fun k hk => ?_⟩
      obtain ⟨k, rfl⟩ : ∃ m, k = m + 2 := ⟨k - 2, by omega⟩
      have r1 := (hr (k + 1) (by omega)).1
      have r2 := (hr k (by omega)).2
      constructor
      · rw [impl_LandText.l0]
        simp only [if_pos hlt, if_pos h0, if_pos hsep.1, if_neg hWz, if_pos hsep.2, if_pos g4, ← hcc, hwc, if_pos c0, if_pos g1, if_pos g2, ← hp, if_pos g5, wrap_small (n := xs.length) h0 hlt (by omega), r1]
      · rw [spec_LandText.l0]
        simp only [spec_LandText.j1, hl (k + 1) (by omega), Option.bind_some, if_true, if_pos hlt, if_pos h0, if_pos hsep.1, if_neg hWz, if_pos hsep.2, if_pos g4, ← hcc, hwc, if_pos c0, if_pos g1, if_pos g2, ← hp, if_pos g5, wrap_small (n := xs.length) h0 hlt (by omega), r2]
    · obtain ⟨r, hr⟩ := ih (i + 1) (s ++ p) (by omega) (by omega) (by rw [ByteArray.size_append]; omega)
      refine ⟨r, fun k hk => ?_⟩
      obtain ⟨k, rfl⟩ : ∃ m, k = m + 2 := ⟨k - 2, by omega⟩
      have r1 := (hr (k + 1) (by omega)).1
      have r2 := (hr k (by omega)).2
      by_cases hi : i > 0
      · have hm : ¬ Int.tmod i W = 0 := fun e => hsep ⟨hi, e⟩
        constructor
        · rw [impl_LandText.l0]
          simp only [if_pos hlt, if_pos h0, if_pos hi, if_neg hWz, if_neg hm, ← hcc, hwc, if_pos c0, if_pos g1, if_pos g2, ← hp, if_pos g3, wrap_small (n := xs.length) h0 hlt (by omega), r1]
        · rw [spec_LandText.l0]
          simp only [spec_LandText.j1, hl (k + 1) (by omega), Option.bind_some, if_true, if_pos hlt, if_pos h0, if_pos hi, if_neg hWz, if_neg hm, ← hcc, hwc, if_pos c0, if_pos g1, if_pos g2, ← hp, if_pos g3, wrap_small (n := xs.length) h0 hlt (by omega), r2]
      · constructor
        · rw [impl_LandText.l0]
          simp only [if_pos hlt, if_pos h0, if_neg hi, ← hcc, hwc, if_pos c0, if_pos g1, if_pos g2, ← hp, if_pos g3, wrap_small (n := xs.length) h0 hlt (by omega), r1]
        · rw [spec_LandText.l0]
          simp only [spec_LandText.j1, hl (k + 1) (by omega), Option.bind_some, if_true, if_pos hlt, if_pos h0, if_neg hi, ← hcc, hwc, if_pos c0, if_pos g1, if_pos g2, ← hp, if_pos g3, wrap_small (n := xs.length) h0 hlt (by omega), r2]
theorem landText_ev (W H : Int) (xs : List Int) (hn : xs.length ≤ 1048576) : ∃ r, ∀ k, 3 * xs.length + 8 < k → impl_LandText.f k W H xs = some r ∧ spec_LandText.f k W H xs = some r := by
  obtain ⟨b, hb, hp⟩ := isLand_ev W H xs hn
  cases b with
  | true =>
    obtain ⟨hW, hH, hlen, h1, h64, hc⟩ := hp rfl
    obtain ⟨r, hr⟩ := landText_loop W H xs h64 hW hc (fun k hk => (hb k hk).2) xs.length 0 (⟨#[]⟩ : ByteArray) (by omega) (by omega) (by show ((0 : Nat) : Int) ≤ 4 * 0; omega)
    refine ⟨r, fun k hk => ?_⟩
    unfold impl_LandText.f spec_LandText.f
    simp only [(hb k (by omega)).1, Option.bind_some, if_true]
    exact hr k (by omega)
  | false =>
    refine ⟨(⟨#[]⟩ : ByteArray), fun k hk => ?_⟩
    obtain ⟨k, rfl⟩ : ∃ m, k = m + 2 := ⟨k - 2, by omega⟩
    unfold impl_LandText.f spec_LandText.f
    simp only [(hb (k + 2) (by omega)).1, Option.bind_some, Bool.false_eq_true, if_false, spec_LandText.l0, (hb (k + 1) (by omega)).2, spec_LandText.j1, ite_self, and_self]

theorem FnExactLandText : laws_FnExactLandText.Stmt := by
  intro x hx
  obtain ⟨z, hz, hz2⟩ := szIntS_ev x.f2 hx.2.2.1
  by_cases hneg : z < 0
  · exact ⟨0, by unfold laws_FnExactLandText.f laws_szLand.f; rw [hz]; simp only [Option.bind_some]; rw [if_pos hneg]; simp only [Option.bind_some]; rw [if_pos (by omega)]⟩
  have hn : x.f2.length ≤ 1048576 := hz2.resolve_left hneg
  obtain ⟨r, hr⟩ := landText_ev x.f0 x.f1 x.f2 hn
  obtain ⟨k, hk⟩ : ∃ k, k = 3 * x.f2.length + 20 := ⟨_, rfl⟩
  obtain ⟨h1, h2⟩ := hr k (by omega)
  refine ⟨k, ?_⟩
  unfold laws_FnExactLandText.f laws_szLand.f
  rw [hz]; simp only [Option.bind_some]; rw [if_neg hneg]; simp only [Option.bind_some]; rw [if_neg hneg]
  simp only [laws_toLand.f, laws_eqLand.f, toIntS_ev x.f2 hn k (by omega), eqIntS_ev x.f2 hn k (by omega), h1, h2, Option.bind_some, if_true]

end Go.Proofs.Ytcokbhkjfdddkaa.Pure
