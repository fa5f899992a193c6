/- The program's BestSplit returns what the reference's BestSplit returns, for every list of numbers no longer than 2^20, leaves it as it was, and hands out a list that shares no memory with it. No further condition. -/
import Derived.Test.YtcokbhkjfdddkaaSFnExactBestSplit
namespace Go.Proofs.Ytcokbhkjfdddkaa.Pure
open Go.RowKit Go.Proofs.Ytcokbhkjfdddkaa.Q Go.Proofs.YtcokbhkjfdddkaaW.PrintWords Go.Proofs.YtcokbhkjfdddkaaW.PrintLast Go.Proofs.YtcokbhkjfdddkaaW.PrintMore
set_option linter.unusedVariables false
set_option linter.unusedSimpArgs false

theorem ext_getD {α : Type} {d : α} {a b : List α} (h : a.length = b.length) (hj : ∀ j, j < a.length → a.getD j d = b.getD j d) : a = b := by
  apply List.ext_getElem h
  intro j h1 h2
  have := hj j h1
  simpa [List.getD_eq_getElem?_getD, List.getElem?_eq_getElem h1, List.getElem?_eq_getElem h2] using this

theorem getD_set {α : Type} {d : α} (a : List α) (i j : Nat) (v : α) (h : i < a.length) : (a.set i v).getD j d = if i = j then v else a.getD j d := by
  simp only [List.getD_eq_getElem?_getD, List.getElem?_set]
  by_cases e : i = j
  · subst e; simp [h]
  · simp [e]

theorem wrap_small {i : Int} {n : Nat} (h0 : 0 ≤ i) (h : i < (n : Int)) (hn : n ≤ 1048576) : wrap64 (i + 1) = i + 1 := by
  unfold wrap64; omega

theorem toIntS_loop (xs : List Int) (hn : xs.length ≤ 1048576) : ∀ (d k : Nat) (acc : List Int) (i : Int), acc.length = xs.length → 0 ≤ i → (xs.length : Int) - i = d → d < k →
    (∀ j : Nat, (j : Int) < i → acc.getD j 0 = xs.getD j 0) → laws_toIntS.l0 k xs acc i = some xs := by
  intro d
  induction d with
  | zero =>
    intro k acc i hl h0 hd hk hj
    obtain ⟨k, rfl⟩ : ∃ m, k = m + 1 := ⟨k - 1, by omega⟩
    simp only [laws_toIntS.l0]
    rw [if_neg (by omega)]
    exact congrArg some (ext_getD hl (fun j h => hj j (by omega)))
  | succ d ih =>
    intro k acc i hl h0 hd hk hj
    obtain ⟨k, rfl⟩ : ∃ m, k = m + 1 := ⟨k - 1, by omega⟩
    simp only [laws_toIntS.l0]
    rw [if_pos (by omega), if_pos h0, if_pos (by omega), wrap_small (n := xs.length) h0 (by omega) hn]
    refine ih k _ _ (by simpa using hl) (by omega) (by omega) (by omega) ?_
    intro j hj'
    rw [getD_set _ _ _ _ (by omega)]
    by_cases e : i.toNat = j
    · rw [if_pos e]; unfold rd; rw [e]
    · rw [if_neg e]; exact hj j (by omega)

theorem toIntS_ev (xs : List Int) (hn : xs.length ≤ 1048576) (k : Nat) (hk : xs.length < k) : laws_toIntS.f k xs = some xs := by
  unfold laws_toIntS.f
  rw [if_pos (by omega), if_pos (by omega)]
  exact toIntS_loop xs hn xs.length k _ 0 (by simp) (by omega) (by omega) hk (fun j hj => by omega)

theorem eqIntS_loop (xs : List Int) (hn : xs.length ≤ 1048576) : ∀ (d k : Nat) (i : Int), 0 ≤ i → (xs.length : Int) - i = d → d < k → laws_eqIntS.l0 k xs xs i = some true := by
  intro d
  induction d with
  | zero =>
    intro k i h0 hd hk
    obtain ⟨k, rfl⟩ : ∃ m, k = m + 1 := ⟨k - 1, by omega⟩
    simp only [laws_eqIntS.l0]
    rw [if_neg (by omega)]
  | succ d ih =>
    intro k i h0 hd hk
    obtain ⟨k, rfl⟩ : ∃ m, k = m + 1 := ⟨k - 1, by omega⟩
    simp only [laws_eqIntS.l0]
    rw [if_pos (by omega), if_pos h0, if_pos (by omega), if_pos trivial, wrap_small (n := xs.length) h0 (by omega) hn]
    exact ih k _ (by omega) (by omega) (by omega)

theorem eqIntS_ev (xs : List Int) (hn : xs.length ≤ 1048576) (k : Nat) (hk : xs.length < k) : laws_eqIntS.f k xs xs = some true := by
  unfold laws_eqIntS.f
  rw [if_pos rfl]
  exact eqIntS_loop xs hn xs.length k 0 (by omega) (by omega) hk

theorem markIntS_loop (n : Nat) (hn : n ≤ 1048576) : ∀ (d k : Nat) (acc : List Int) (c i : Int), acc.length = n → 0 ≤ i → (n : Int) - i = d → 0 ≤ c → c + d ≤ 4611686018427387904 → d < k →
    ∃ r, laws_markIntS.l0 k acc c i = some (c + d, r) ∧ r.length = n ∧ ∀ j : Nat, j < n → r.getD j 0 = if (j : Int) < i then acc.getD j 0 else c + (j - i) := by
  intro d
  induction d with
  | zero =>
    intro k acc c i hl h0 hd hc hb hk
    obtain ⟨k, rfl⟩ : ∃ m, k = m + 1 := ⟨k - 1, by omega⟩
    simp only [laws_markIntS.l0]
    rw [if_neg (by omega)]
    exact ⟨acc, by simp, hl, fun j hj => by rw [if_pos (by omega)]⟩
  | succ d ih =>
    intro k acc c i hl h0 hd hc hb hk
    obtain ⟨k, rfl⟩ : ∃ m, k = m + 1 := ⟨k - 1, by omega⟩
    simp only [laws_markIntS.l0]
    rw [if_pos (by omega), if_pos h0, wrap_small (n := n) h0 (by omega) hn, show wrap64 (c + 1) = c + 1 by unfold wrap64; omega]
    obtain ⟨r, hr, hrl, hrj⟩ := ih k (acc.set i.toNat c) (c + 1) (i + 1) (by simpa using hl) (by omega) (by omega) (by omega) (by omega) (by omega)
    refine ⟨r, by rw [hr]; congr 2; omega, hrl, fun j hj => ?_⟩
    rw [hrj j hj, getD_set _ _ _ _ (by omega)]
    by_cases h1 : (j : Int) < i
    · rw [if_pos (by omega), if_neg (by omega), if_pos h1]
    · rw [if_neg h1]
      by_cases h2 : (j : Int) = i
      · rw [if_pos (by omega), if_pos (by omega)]; omega
      · rw [if_neg (by omega)]; omega

theorem markIntS_ev (l : List Int) (hn : l.length ≤ 1048576) (c : Int) (hc : 0 ≤ c) (hb : c + l.length ≤ 4611686018427387904) (k : Nat) (hk : l.length < k) :
    ∃ r, laws_markIntS.f k l c = some (c + l.length, r) ∧ r.length = l.length ∧ ∀ j : Nat, j < l.length → r.getD j 0 = c + j := by
  obtain ⟨r, h1, h2, h3⟩ := markIntS_loop l.length hn l.length k l c 0 rfl (by omega) (by omega) hc hb hk
  refine ⟨r, h1, h2, fun j hj => ?_⟩
  rw [h3 j hj, if_neg (by omega)]; omega

theorem heldIntS_loop (l : List Int) (hn : l.length ≤ 1048576) : ∀ (d k : Nat) (c i : Int), 0 ≤ i → (l.length : Int) - i = d → 0 ≤ c → c + d ≤ 4611686018427387904 → d < k →
    (∀ j : Nat, i ≤ j → j < l.length → l.getD j 0 = c + (j - i)) → laws_heldIntS.l0 k l c i = some (c + d) := by
  intro d
  induction d with
  | zero =>
    intro k c i h0 hd hc hb hk hj
    obtain ⟨k, rfl⟩ : ∃ m, k = m + 1 := ⟨k - 1, by omega⟩
    simp only [laws_heldIntS.l0]
    rw [if_neg (by omega)]; simp
  | succ d ih =>
    intro k c i h0 hd hc hb hk hj
    obtain ⟨k, rfl⟩ : ∃ m, k = m + 1 := ⟨k - 1, by omega⟩
    have h1 : rd l i = c := by
      have := hj i.toNat (by omega) (by omega)
      unfold rd; rw [this]; omega
    simp only [laws_heldIntS.l0]
    rw [if_pos (by omega), if_pos h0, if_pos h1, wrap_small (n := l.length) h0 (by omega) hn, show wrap64 (c + 1) = c + 1 by unfold wrap64; omega]
    rw [ih k (c + 1) (i + 1) (by omega) (by omega) (by omega) (by omega) (by omega) (fun j h2 h3 => by rw [hj j (by omega) h3]; omega)]
    congr 1; omega

theorem heldIntS_ev (l : List Int) (hn : l.length ≤ 1048576) (c : Int) (hc : 0 ≤ c) (hb : c + l.length ≤ 4611686018427387904) (k : Nat) (hk : l.length < k) (hj : ∀ j : Nat, j < l.length → l.getD j 0 = c + j) :
    laws_heldIntS.f k l c = some (c + l.length) :=
  heldIntS_loop l hn l.length k c 0 (by omega) (by omega) hc hb hk (fun j _ h => by rw [hj j h]; omega)

theorem l1In_eq (a b c : Int) : spec_l1In.f a b c = some (decide (b ≤ a ∧ a ≤ c)) := by
  unfold spec_l1In.f
  by_cases h : a ≥ b
  · rw [if_pos h]; congr 1; have : b ≤ a := h; simp [this]
  · rw [if_neg h]; have : ¬ b ≤ a := h; simp [this]
theorem inRange_eq (a b c : Int) : impl_InRange.f a b c = some (decide (b ≤ a ∧ a ≤ c)) := by
  unfold impl_InRange.f
  by_cases h : b ≤ a
  · rw [if_pos h]; simp [h]
  · rw [if_neg h]; simp [h]

theorem drop_step {α : Type} (d : α) (l : List α) (i : Int) (h0 : 0 ≤ i) (h : i < (l.length : Int)) : l.drop i.toNat = l.getD i.toNat d :: l.drop (i + 1).toNat := by
  have h1 : i.toNat < l.length := by omega
  rw [List.drop_eq_getElem_cons h1, show (i + 1).toNat = i.toNat + 1 by omega]
  congr 1
  simp [List.getD_eq_getElem?_getD, List.getElem?_eq_getElem h1]

theorem l14Has_loop (l : List Int) (a : Int) (hn : l.length ≤ 1048576) : ∀ (d k : Nat) (i : Int), 0 ≤ i → (l.length : Int) - i = d → d < k → spec_l14Has.l0 k l a i = some (decide (a ∈ l.drop i.toNat)) := by
  intro d
  induction d with
  | zero =>
    intro k i h0 hd hk
    obtain ⟨k, rfl⟩ : ∃ m, k = m + 1 := ⟨k - 1, by omega⟩
    simp only [spec_l14Has.l0]
    rw [if_neg (by omega), List.drop_eq_nil_of_le (by omega)]; simp
  | succ d ih =>
    intro k i h0 hd hk
    obtain ⟨k, rfl⟩ : ∃ m, k = m + 1 := ⟨k - 1, by omega⟩
    have hlt : i < (l.length : Int) := by omega
    simp only [spec_l14Has.l0]
    rw [if_pos hlt, if_pos h0, wrap_small (n := l.length) h0 hlt hn, drop_step 0 l i h0 hlt, show l.getD i.toNat 0 = rd l i from rfl]
    by_cases e : rd l i = a
    · rw [if_pos e]; simp [e]
    · rw [if_neg e, ih k (i + 1) (by omega) (by omega) (by omega)]
      have e2 : ¬ a = rd l i := fun h => e h.symm
      simp [e2]

theorem placeOf_loop (l : List Int) (a : Int) (hn : l.length ≤ 1048576) : ∀ (d k : Nat) (i : Int), 0 ≤ i → (l.length : Int) - i = d → d < k → ∃ r, impl_placeOf.l0 k a l (l.length : Int) i = some r ∧ (decide (r ≥ 0) = decide (a ∈ l.drop i.toNat)) := by
  intro d
  induction d with
  | zero =>
    intro k i h0 hd hk
    obtain ⟨k, rfl⟩ : ∃ m, k = m + 1 := ⟨k - 1, by omega⟩
    simp only [impl_placeOf.l0]
    rw [if_neg (by omega), List.drop_eq_nil_of_le (by omega)]
    exact ⟨_, rfl, by simp⟩
  | succ d ih =>
    intro k i h0 hd hk
    obtain ⟨k, rfl⟩ : ∃ m, k = m + 1 := ⟨k - 1, by omega⟩
    have hlt : i < (l.length : Int) := by omega
    simp only [impl_placeOf.l0]
    rw [if_pos hlt, if_pos h0, if_pos hlt, wrap_small (n := l.length) h0 hlt hn, drop_step 0 l i h0 hlt, show l.getD i.toNat 0 = rd l i from rfl]
    by_cases e : rd l i = a
    · rw [if_pos e]; exact ⟨_, rfl, by simp [e, h0]⟩
    · rw [if_neg e]
      obtain ⟨r, hr, hd'⟩ := ih k (i + 1) (by omega) (by omega) (by omega)
      refine ⟨r, hr, ?_⟩
      have e2 : ¬ a = rd l i := fun h => e h.symm
      rw [hd']; simp [e2]

theorem l14Has_ev (l : List Int) (a : Int) (hn : l.length ≤ 1048576) (k : Nat) (hk : l.length < k) : spec_l14Has.f k l a = some (decide (a ∈ l)) := by
  have := l14Has_loop l a hn l.length k 0 (by omega) (by omega) hk
  show spec_l14Has.l0 k l a 0 = _
  simpa using this
theorem has_ev (l : List Int) (a : Int) (hn : l.length ≤ 1048576) (k : Nat) (hk : l.length < k) : impl_has.f k l a = some (decide (a ∈ l)) := by
  obtain ⟨r, hr, hd⟩ := placeOf_loop l a hn l.length k 0 (by omega) (by omega) hk
  unfold impl_has.f
  have h2 : impl_placeOf.f k l a = some r := hr
  rw [h2]; simp only [Option.bind_some]
  rw [hd]; simp

def hSum (at_ : List Int) : Int → Int → List Int → Int
  | s, _, [] => s
  | s, i, v :: vs => if i ∈ at_ then hSum at_ (wrap64 (s + v)) (i + 1) vs else hSum at_ s (i + 1) vs
def aSum : Int → List Int → Int
  | a, [] => a
  | a, v :: vs => aSum (wrap64 (a + v)) vs

theorem implSumAt_loop (xs at_ : List Int) (hn : xs.length ≤ 1048576) (hm : at_.length ≤ 1048576) : ∀ (d k : Nat) (s i : Int), 0 ≤ i → (xs.length : Int) - i = d → at_.length + d < k →
    impl_SumAt.l0 k at_ s xs (xs.length : Int) i = some (hSum at_ s i (xs.drop i.toNat)) := by
  intro d
  induction d with
  | zero =>
    intro k s i h0 hd hk
    obtain ⟨k, rfl⟩ : ∃ m, k = m + 1 := ⟨k - 1, by omega⟩
    simp only [impl_SumAt.l0]
    rw [if_neg (by omega), List.drop_eq_nil_of_le (by omega)]; rfl
  | succ d ih =>
    intro k s i h0 hd hk
    obtain ⟨k, rfl⟩ : ∃ m, k = m + 1 := ⟨k - 1, by omega⟩
    have hlt : i < (xs.length : Int) := by omega
    simp only [impl_SumAt.l0, if_pos hlt, if_pos h0, has_ev at_ i hm k (by omega), Option.bind_some, wrap_small (n := xs.length) h0 hlt hn, decide_eq_true_eq]
    rw [drop_step 0 xs i h0 hlt, show xs.getD i.toNat 0 = rd xs i from rfl]
    unfold hSum
    by_cases e : i ∈ at_
    · simp only [if_pos e]; exact ih k _ _ (by omega) (by omega) (by omega)
    · simp only [if_neg e]; exact ih k _ _ (by omega) (by omega) (by omega)

theorem implAll_loop (xs at_ : List Int) (hn : xs.length ≤ 1048576) (hm : at_.length ≤ 1048576) (T : Int) (hT : ∀ k, at_.length + xs.length < k → impl_SumAt.f k xs at_ = some T) : ∀ (d k : Nat) (a i : Int), 0 ≤ i → (xs.length : Int) - i = d → at_.length + xs.length + d + 1 < k →
    impl_SplitGap.l0 k xs at_ a xs (xs.length : Int) i = some (mx (wrap64 (wrap64 (2 * T) - aSum a (xs.drop i.toNat))) (wrap64 (-(wrap64 (wrap64 (2 * T) - aSum a (xs.drop i.toNat)))))) := by
  intro d
  induction d with
  | zero =>
    intro k a i h0 hd hk
    obtain ⟨k, rfl⟩ : ∃ m, k = m + 1 := ⟨k - 1, by omega⟩
    simp only [impl_SplitGap.l0]
    rw [if_neg (by omega), List.drop_eq_nil_of_le (by omega), hT k (by omega)]; rfl
  | succ d ih =>
    intro k a i h0 hd hk
    obtain ⟨k, rfl⟩ : ∃ m, k = m + 1 := ⟨k - 1, by omega⟩
    have hlt : i < (xs.length : Int) := by omega
    simp only [impl_SplitGap.l0, if_pos hlt, if_pos h0, wrap_small (n := xs.length) h0 hlt hn]
    rw [drop_step 0 xs i h0 hlt, show xs.getD i.toNat 0 = rd xs i from rfl]
    unfold aSum
    exact ih k _ _ (by omega) (by omega) (by omega)

theorem specGap_loop (xs at_ : List Int) (hn : xs.length ≤ 1048576) (hm : at_.length ≤ 1048576) : ∀ (d k : Nat) (s a i : Int), 0 ≤ i → (xs.length : Int) - i = d → at_.length + d < k →
    spec_SplitGap.l0 k xs at_ (wrap64 (wrap64 (2 * s) - a)) i = some (mx (wrap64 (wrap64 (2 * hSum at_ s i (xs.drop i.toNat)) - aSum a (xs.drop i.toNat))) (wrap64 (-(wrap64 (wrap64 (2 * hSum at_ s i (xs.drop i.toNat)) - aSum a (xs.drop i.toNat)))))) := by
  intro d
  induction d with
  | zero =>
    intro k s a i h0 hd hk
    obtain ⟨k, rfl⟩ : ∃ m, k = m + 1 := ⟨k - 1, by omega⟩
    simp only [spec_SplitGap.l0]
    rw [if_neg (by omega), List.drop_eq_nil_of_le (by omega)]
    unfold hSum aSum spec_Max.f mx
    generalize wrap64 (wrap64 (2 * s) - a) = n
    by_cases h : wrap64 (-n) > n
    · rw [if_pos h, if_pos (by omega)]; rfl
    · rw [if_neg h, if_neg (by omega)]; rfl
  | succ d ih =>
    intro k s a i h0 hd hk
    obtain ⟨k, rfl⟩ : ∃ m, k = m + 1 := ⟨k - 1, by omega⟩
    have hlt : i < (xs.length : Int) := by omega
    simp only [spec_SplitGap.l0, if_pos hlt, if_pos h0, l14Has_ev at_ i hm k (by omega), Option.bind_some, wrap_small (n := xs.length) h0 hlt hn, decide_eq_true_eq]
    rw [drop_step 0 xs i h0 hlt, show xs.getD i.toNat 0 = rd xs i from rfl]
    unfold hSum aSum
    generalize rd xs i = v
    by_cases e : i ∈ at_
    · simp only [if_pos e]
      rw [show wrap64 (wrap64 (wrap64 (2 * s) - a) + v) = wrap64 (wrap64 (2 * wrap64 (s + v)) - wrap64 (a + v)) by unfold wrap64; omega]
      exact ih k _ _ _ (by omega) (by omega) (by omega)
    · simp only [if_neg e]
      rw [show wrap64 (wrap64 (wrap64 (2 * s) - a) - v) = wrap64 (wrap64 (2 * s) - wrap64 (a + v)) by unfold wrap64; omega]
      exact ih k _ _ _ (by omega) (by omega) (by omega)

theorem splitGap_ev (xs ys : List Int) (hn : xs.length ≤ 1048576) (hm : ys.length ≤ 1048576) : ∃ v, ∀ k, 2 * xs.length + ys.length + 1 < k → impl_SplitGap.f k xs ys = some v ∧ spec_SplitGap.f k xs ys = some v := by
  have hT : ∀ k, ys.length + xs.length < k → impl_SumAt.f k xs ys = some (hSum ys 0 0 xs) := by
    intro k hk
    have := implSumAt_loop xs ys hn hm xs.length k 0 0 (by omega) (by omega) (by omega)
    rw [Int.toNat_zero, List.drop_zero] at this
    exact this
  refine ⟨mx (wrap64 (wrap64 (2 * hSum ys 0 0 xs) - aSum 0 xs)) (wrap64 (-(wrap64 (wrap64 (2 * hSum ys 0 0 xs) - aSum 0 xs)))), fun k hk => ?_⟩
  have h4 := implAll_loop xs ys hn hm _ hT xs.length k 0 0 (by omega) (by omega) (by omega)
  have h3 := specGap_loop xs ys hn hm xs.length k 0 0 0 (by omega) (by omega) (by omega)
  rw [show wrap64 (wrap64 (2 * 0) - 0) = 0 by unfold wrap64; omega] at h3
  simp only [Int.toNat_zero, List.drop_zero] at h3 h4
  exact ⟨h4, h3⟩

theorem weights_loop (xs : List Int) (hn : xs.length ≤ 12) : ∀ (d : Nat) (i : Int), 0 ≤ i → (xs.length : Int) - i = d →
    ∃ b, (∀ k, d < k → impl_allIn.l0 k 1 100 xs (xs.length : Int) i = some b ∧ spec_l29Ok.l0 k xs i = some b) ∧ (b = true → ∀ j : Int, i ≤ j → j < (xs.length : Int) → 1 ≤ rd xs j ∧ rd xs j ≤ 100) := by
  intro d
  induction d with
  | zero =>
    intro i h0 hd
    have hlt : ¬ i < (xs.length : Int) := by omega
    refine ⟨true, fun k hk => ?_, fun _ j h1 h2 => by omega⟩
    obtain ⟨k, rfl⟩ : ∃ m, k = m + 1 := ⟨k - 1, by omega⟩
    have e : (xs.length : Int) ≤ 12 := by omega
    simp only [impl_allIn.l0, spec_l29Ok.l0, if_neg hlt, e, decide_true, and_self]
  | succ d ih =>
    intro i h0 hd
    have hlt : i < (xs.length : Int) := by omega
    obtain ⟨b, hb, hp⟩ := ih (i + 1) (by omega) (by omega)
    have hn' : xs.length ≤ 1048576 := by omega
    by_cases e : 1 ≤ rd xs i ∧ rd xs i ≤ 100
    · refine ⟨b, fun k hk => ?_, fun h j h1 h2 => ?_⟩
      · obtain ⟨k, rfl⟩ : ∃ m, k = m + 1 := ⟨k - 1, by omega⟩
        simp only [impl_allIn.l0, spec_l29Ok.l0, if_pos hlt, if_pos h0, l1In_eq, inRange_eq, e, and_self, decide_true, Option.bind_some, if_true, wrap_small (n := xs.length) h0 hlt hn']
        exact hb k (by omega)
      · by_cases h3 : j = i
        · subst h3; exact e
        · exact hp h j (by omega) h2
    · refine ⟨false, fun k hk => ?_, fun h => by cases h⟩
      obtain ⟨k, rfl⟩ : ∃ m, k = m + 1 := ⟨k - 1, by omega⟩
      simp only [impl_allIn.l0, spec_l29Ok.l0, if_pos hlt, if_pos h0, l1In_eq, inRange_eq, e, decide_false, Option.bind_some, Bool.false_eq_true, if_false, and_self]
theorem l29Ok_big (xs : List Int) (hn : xs.length ≤ 1048576) (hb : 12 < xs.length) : ∀ (d : Nat) (i : Int), 0 ≤ i → (xs.length : Int) - i = d → ∀ k, d < k → spec_l29Ok.l0 k xs i = some false := by
  intro d
  induction d with
  | zero =>
    intro i h0 hd k hk
    obtain ⟨k, rfl⟩ : ∃ m, k = m + 1 := ⟨k - 1, by omega⟩
    have hlt : ¬ i < (xs.length : Int) := by omega
    have e : ¬ (xs.length : Int) ≤ 12 := by omega
    simp only [spec_l29Ok.l0, if_neg hlt, e, decide_false]
  | succ d ih =>
    intro i h0 hd k hk
    obtain ⟨k, rfl⟩ : ∃ m, k = m + 1 := ⟨k - 1, by omega⟩
    have hlt : i < (xs.length : Int) := by omega
    simp only [spec_l29Ok.l0, if_pos hlt, if_pos h0, l1In_eq, Option.bind_some, wrap_small (n := xs.length) h0 hlt hn, ih (i + 1) (by omega) (by omega) k (by omega), ite_self]
theorem weights_ev (xs : List Int) (hn : xs.length ≤ 1048576) : ∃ b, (∀ k, xs.length < k → impl_areWeights.f k xs = some b ∧ spec_l29Ok.f k xs = some b) ∧ (b = true → xs.length ≤ 12 ∧ ∀ j : Int, 0 ≤ j → j < (xs.length : Int) → 1 ≤ rd xs j ∧ rd xs j ≤ 100) := by
  by_cases h : xs.length ≤ 12
  · obtain ⟨b, hb, hp⟩ := weights_loop xs h xs.length 0 (by omega) (by omega)
    refine ⟨b, fun k hk => ?_, fun e => ⟨h, hp e⟩⟩
    obtain ⟨h1, h2⟩ := hb k hk
    unfold impl_areWeights.f
    rw [if_pos (by omega)]
    refine ⟨?_, h2⟩
    unfold impl_allIn.f
    rw [h1]; rfl
  · refine ⟨false, fun k hk => ⟨?_, l29Ok_big xs hn (by omega) xs.length 0 (by omega) (by omega) k hk⟩, fun e => by cases e⟩
    unfold impl_areWeights.f
    rw [if_neg (by omega)]

theorem best_inner (xs : List Int) (hn : xs.length ≤ 1048576) (m gap : Int) (best : List Int) (hb : best.length ≤ xs.length)
    (hout : ∀ (best : List Int) (gap : Int), best.length ≤ xs.length → ∃ K r, r.length ≤ xs.length ∧ ∀ k, K < k → impl_BestSplit.l0 k xs best gap (xs.length : Int) (wrap64 (m - 1)) = some r ∧ spec_BestSplit.l0 k xs best gap (wrap64 (m - 1)) = some r) :
    ∀ (d : Nat) (i : Int) (acc : List Int), 0 ≤ i → (xs.length : Int) - i = d → acc.length + d ≤ xs.length →
      ∃ K r, r.length ≤ xs.length ∧ ∀ k, K < k → impl_BestSplit.l1 k xs best gap (xs.length : Int) m acc (xs.length : Int) i = some r ∧ spec_BestSplit.l1 k xs best gap m acc i = some r := by
  intro d
  induction d with
  | zero =>
    intro i acc h0 hd hl
    have hlt : ¬ i < (xs.length : Int) := by omega
    obtain ⟨v, hv⟩ := splitGap_ev xs acc hn (by omega)
    by_cases hs : gap < 0
    · obtain ⟨K, r, hr, hk⟩ := hout acc v (by omega)
      refine ⟨K + 2 * xs.length + acc.length + 3, r, hr, fun k hk2 => ?_⟩
      obtain ⟨k, rfl⟩ : ∃ m, k = m + 1 := ⟨k - 1, by omega⟩
      obtain ⟨v1, v2⟩ := hv k (by omega)
      simp only [impl_BestSplit.l1, spec_BestSplit.l1, if_neg hlt, v1, v2, Option.bind_some, if_pos hs]
      exact hk k (by omega)
    · by_cases hs2 : v < gap
      · obtain ⟨K, r, hr, hk⟩ := hout acc v (by omega)
        refine ⟨K + 2 * xs.length + acc.length + 3, r, hr, fun k hk2 => ?_⟩
        obtain ⟨k, rfl⟩ : ∃ m, k = m + 1 := ⟨k - 1, by omega⟩
        obtain ⟨v1, v2⟩ := hv k (by omega)
        simp only [impl_BestSplit.l1, spec_BestSplit.l1, if_neg hlt, v1, v2, Option.bind_some, if_neg hs, if_pos hs2]
        exact hk k (by omega)
      · obtain ⟨K, r, hr, hk⟩ := hout best gap hb
        refine ⟨K + 2 * xs.length + acc.length + 3, r, hr, fun k hk2 => ?_⟩
        obtain ⟨k, rfl⟩ : ∃ m, k = m + 1 := ⟨k - 1, by omega⟩
        obtain ⟨v1, v2⟩ := hv k (by omega)
        simp only [impl_BestSplit.l1, spec_BestSplit.l1, if_neg hlt, v1, v2, Option.bind_some, if_neg hs, if_neg hs2]
        exact hk k (by omega)
  | succ d ih =>
    intro i acc h0 hd hl
    have hlt : i < (xs.length : Int) := by omega
    have hx : acc.length < 17592186044416 := by omega
    have hw : 0 ≤ wrap64 (wrap64 ((xs.length : Int) - 1) - i) := by unfold wrap64; omega
    by_cases hbit : (Go.bits .and .i64 (shr .i64 m (wrap64 (wrap64 ((xs.length : Int) - 1) - i))) 1) = 1
    · obtain ⟨K, r, hr, hk⟩ := ih (i + 1) (acc ++ [i]) (by omega) (by omega) (by simp; omega)
      refine ⟨K + 1, r, hr, fun k hk2 => ?_⟩
      obtain ⟨k, rfl⟩ : ∃ m, k = m + 1 := ⟨k - 1, by omega⟩
      simp only [impl_BestSplit.l1, spec_BestSplit.l1, if_pos hlt, if_pos hw, if_pos hbit, if_pos hx, wrap_small (n := xs.length) h0 hlt hn]
      exact hk k (by omega)
    · obtain ⟨K, r, hr, hk⟩ := ih (i + 1) acc (by omega) (by omega) (by omega)
      refine ⟨K + 1, r, hr, fun k hk2 => ?_⟩
      obtain ⟨k, rfl⟩ : ∃ m, k = m + 1 := ⟨k - 1, by omega⟩
      simp only [impl_BestSplit.l1, spec_BestSplit.l1, if_pos hlt, if_pos hw, if_neg hbit, wrap_small (n := xs.length) h0 hlt hn]
      exact hk k (by omega)
theorem best_outer (xs : List Int) (hn : xs.length ≤ 1048576) : ∀ (d : Nat) (m : Int), m < d → m < 9223372036854775808 → ∀ (best : List Int) (gap : Int), best.length ≤ xs.length →
    ∃ K r, r.length ≤ xs.length ∧ ∀ k, K < k → impl_BestSplit.l0 k xs best gap (xs.length : Int) m = some r ∧ spec_BestSplit.l0 k xs best gap m = some r := by
  intro d
  induction d with
  | zero =>
    intro m hm _ best gap hb
    have hg : ¬ m ≥ 0 := by omega
    refine ⟨1, best, hb, fun k hk => ?_⟩
    obtain ⟨k, rfl⟩ : ∃ m, k = m + 1 := ⟨k - 1, by omega⟩
    simp only [impl_BestSplit.l0, spec_BestSplit.l0, if_neg hg, and_self]
  | succ d ih =>
    intro m hm hm2 best gap hb
    by_cases hg : m ≥ 0
    · have hw : wrap64 (m - 1) = m - 1 := by unfold wrap64; omega
      obtain ⟨K, r, hr, hk⟩ := best_inner xs hn m gap best hb (fun best gap hb => by rw [hw]; exact ih (m - 1) (by omega) (by omega) best gap hb) xs.length 0 [] (by omega) (by omega) (by simp)
      refine ⟨K + 1, r, hr, fun k hk2 => ?_⟩
      obtain ⟨k, rfl⟩ : ∃ m, k = m + 1 := ⟨k - 1, by omega⟩
      simp only [impl_BestSplit.l0, spec_BestSplit.l0, if_pos hg]
      exact hk k (by omega)
    · refine ⟨1, best, hb, fun k hk => ?_⟩
      obtain ⟨k, rfl⟩ : ∃ m, k = m + 1 := ⟨k - 1, by omega⟩
      simp only [impl_BestSplit.l0, spec_BestSplit.l0, if_neg hg, and_self]
theorem bestSplit_ev (xs : List Int) (hn : xs.length ≤ 1048576) : ∃ K r, r.length ≤ xs.length ∧ ∀ k, K < k → impl_BestSplit.f k xs = some r ∧ spec_BestSplit.f k xs = some r := by
  obtain ⟨b, hb, _⟩ := weights_ev xs hn
  cases b with
  | false =>
    refine ⟨xs.length + 2, [], by simp, fun k hk => ?_⟩
    obtain ⟨k, rfl⟩ : ∃ m, k = m + 1 := ⟨k - 1, by omega⟩
    obtain ⟨h1, h2⟩ := hb (k + 1) (by omega)
    unfold impl_BestSplit.f spec_BestSplit.f
    simp only [h1, h2, Option.bind_some, Bool.false_eq_true, if_false, spec_BestSplit.j0, if_true, and_self]
  | true =>
    generalize hM : wrap64 ((shl .i64 1 (xs.length : Int)) - 1) = M
    have hM2 : M < 9223372036854775808 := by rw [← hM]; unfold wrap64; omega
    obtain ⟨K, r, hr, hk⟩ := best_outer xs hn (M + 1).toNat M (by omega) hM2 [] (-1) (by simp)
    by_cases hz : xs.length = 0
    · have hr0 : r = [] := List.length_eq_zero_iff.mp (by omega)
      subst hr0
      refine ⟨K + xs.length + 2, [], by simp, fun k hk2 => ?_⟩
      obtain ⟨k, rfl⟩ : ∃ m, k = m + 1 := ⟨k - 1, by omega⟩
      obtain ⟨h1, h2⟩ := hb (k + 1) (by omega)
      have e : ((xs.length : Int) == 0) = true := by simp [hz]
      unfold impl_BestSplit.f spec_BestSplit.f
      simp only [h1, h2, Option.bind_some, if_true, spec_BestSplit.j0, e, hM, and_true]
      exact (hk (k + 1) (by omega)).1
    · refine ⟨K + xs.length + 2, r, hr, fun k hk2 => ?_⟩
      obtain ⟨k, rfl⟩ : ∃ m, k = m + 1 := ⟨k - 1, by omega⟩
      obtain ⟨h1, h2⟩ := hb (k + 1) (by omega)
      have e : ((xs.length : Int) == 0) = false := by rw [beq_eq_false_iff_ne]; omega
      unfold impl_BestSplit.f spec_BestSplit.f
      simp only [h1, h2, Option.bind_some, if_true, spec_BestSplit.j0, e, hM, Bool.false_eq_true, if_false]
      exact ⟨(hk (k + 1) (by omega)).1, (hk k (by omega)).2⟩

theorem FnExactBestSplit : laws_FnExactBestSplit.Stmt := by
  intro xs _
  by_cases hbig : (xs.length : Int) > 1048576
  · exact ⟨0, by unfold laws_FnExactBestSplit.f; rw [if_pos hbig]⟩
  have hn : xs.length ≤ 1048576 := by omega
  obtain ⟨K, r, hrl, hr⟩ := bestSplit_ev xs hn
  obtain ⟨k, hk⟩ : ∃ k, k = K + xs.length + 20 := ⟨_, rfl⟩
  obtain ⟨h1, h2⟩ := hr (k + 1) (by omega)
  obtain ⟨h1', _⟩ := hr k (by omega)
  have q := eqIntS_ev r (by omega) (k + 1) (by omega)
  have q' := eqIntS_ev r (by omega) k (by omega)
  obtain ⟨m0, hm0, _, _⟩ := markIntS_ev xs hn 1 (by omega) (by omega) (k + 1) (by omega)
  obtain ⟨m, hm, hml, hmj⟩ := markIntS_ev r (by omega) 1 (by omega) (by omega) k (by omega)
  have hh := heldIntS_ev m (by omega) 1 (by omega) (by omega) k (by omega) (fun j hj => hmj j (by omega))
  rw [hml] at hh
  have e1 : ¬ (1 + (xs.length : Int) < 0) := by omega
  have e2 : ¬ (1 + (r.length : Int) < 0) := by omega
  refine ⟨k + 1, ?_⟩
  unfold laws_FnExactBestSplit.f
  rw [if_neg hbig]
  simp only [toIntS_ev xs hn (k + 1) (by omega), toIntS_ev xs hn k (by omega), eqIntS_ev xs hn (k + 1) (by omega), h1, h2, h1', q, q', hm0, hm, hh, Option.bind_some, if_true, if_neg e1, if_neg e2, laws_FnExactBestSplit.j0, Bool.not_true, Bool.false_eq_true, if_false]

end Go.Proofs.Ytcokbhkjfdddkaa.Pure
