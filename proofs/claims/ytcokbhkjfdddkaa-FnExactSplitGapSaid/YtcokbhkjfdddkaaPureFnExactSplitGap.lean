/- The program's SplitGap returns what the reference's SplitGap returns, for every two lists of integers no longer than 2^20, and leaves both as they were. No further condition. -/
import Derived.Test.YtcokbhkjfdddkaaSFnExactSplitGap
namespace Go.Proofs.Ytcokbhkjfdddkaa.Pure
open Go.RowKit Go.Proofs.Ytcokbhkjfdddkaa.Q Go.Proofs.YtcokbhkjfdddkaaW.PrintWords Go.Proofs.YtcokbhkjfdddkaaW.PrintLast Go.Proofs.YtcokbhkjfdddkaaW.PrintMore
set_option linter.unusedVariables false
set_option linter.unusedSimpArgs false

theorem ext_getD {α : Type} {d : α} {a b : List α} (h : a.length = b.length) (hj : ∀ j, j < a.length → a.getD j d = b.getD j d) : a = b := by
  apply List.ext_getElem h
  intro j h1 h2
  have := hj j h1
  simpa [List.getD_eq_getElem?_getD, List.getElem?_eq_getElem h1, List.getElem?_eq_getElem h2] using this

theorem getD_set {α : Type} {d : α} (a : List α) (i j : Nat) (v : α) (h : i < a.length) : (a.set i v).getD j d = if i = j then v else a.getD j d := by
  simp only [List.getD_eq_getElem?_getD, List.getElem?_set]
  by_cases e : i = j
  · subst e; simp [h]
  · simp [e]

theorem wrap_small {i : Int} {n : Nat} (h0 : 0 ≤ i) (h : i < (n : Int)) (hn : n ≤ 1048576) : wrap64 (i + 1) = i + 1 := by
  unfold wrap64; omega

theorem toIntS_loop (xs : List Int) (hn : xs.length ≤ 1048576) : ∀ (d k : Nat) (acc : List Int) (i : Int), acc.length = xs.length → 0 ≤ i → (xs.length : Int) - i = d → d < k →
    (∀ j : Nat, (j : Int) < i → acc.getD j 0 = xs.getD j 0) → laws_toIntS.l0 k xs acc i = some xs := by
  intro d
  induction d with
  | zero =>
    intro k acc i hl h0 hd hk hj
    obtain ⟨k, rfl⟩ : ∃ m, k = m + 1 := ⟨k - 1, by omega⟩
    simp only [laws_toIntS.l0]
    rw [if_neg (by omega)]
    exact congrArg some (ext_getD hl (fun j h => hj j (by omega)))
  | succ d ih =>
    intro k acc i hl h0 hd hk hj
    obtain ⟨k, rfl⟩ : ∃ m, k = m + 1 := ⟨k - 1, by omega⟩
    simp only [laws_toIntS.l0]
    rw [if_pos (by omega), if_pos h0, if_pos (by omega), wrap_small (n := xs.length) h0 (by omega) hn]
    refine ih k _ _ (by simpa using hl) (by omega) (by omega) (by omega) ?_
    intro j hj'
    rw [getD_set _ _ _ _ (by omega)]
    by_cases e : i.toNat = j
    · rw [if_pos e]; unfold rd; rw [e]
    · rw [if_neg e]; exact hj j (by omega)

theorem toIntS_ev (xs : List Int) (hn : xs.length ≤ 1048576) (k : Nat) (hk : xs.length < k) : laws_toIntS.f k xs = some xs := by
  unfold laws_toIntS.f
  rw [if_pos (by omega), if_pos (by omega)]
  exact toIntS_loop xs hn xs.length k _ 0 (by simp) (by omega) (by omega) hk (fun j hj => by omega)

theorem eqIntS_loop (xs : List Int) (hn : xs.length ≤ 1048576) : ∀ (d k : Nat) (i : Int), 0 ≤ i → (xs.length : Int) - i = d → d < k → laws_eqIntS.l0 k xs xs i = some true := by
  intro d
  induction d with
  | zero =>
    intro k i h0 hd hk
    obtain ⟨k, rfl⟩ : ∃ m, k = m + 1 := ⟨k - 1, by omega⟩
    simp only [laws_eqIntS.l0]
    rw [if_neg (by omega)]
  | succ d ih =>
    intro k i h0 hd hk
    obtain ⟨k, rfl⟩ : ∃ m, k = m + 1 := ⟨k - 1, by omega⟩
    simp only [laws_eqIntS.l0]
    rw [if_pos (by omega), if_pos h0, if_pos (by omega), if_pos trivial, wrap_small (n := xs.length) h0 (by omega) hn]
    exact ih k _ (by omega) (by omega) (by omega)

theorem eqIntS_ev (xs : List Int) (hn : xs.length ≤ 1048576) (k : Nat) (hk : xs.length < k) : laws_eqIntS.f k xs xs = some true := by
  unfold laws_eqIntS.f
  rw [if_pos rfl]
  exact eqIntS_loop xs hn xs.length k 0 (by omega) (by omega) hk

theorem drop_step {α : Type} (d : α) (l : List α) (i : Int) (h0 : 0 ≤ i) (h : i < (l.length : Int)) : l.drop i.toNat = l.getD i.toNat d :: l.drop (i + 1).toNat := by
  have h1 : i.toNat < l.length := by omega
  rw [List.drop_eq_getElem_cons h1, show (i + 1).toNat = i.toNat + 1 by omega]
  congr 1
  simp [List.getD_eq_getElem?_getD, List.getElem?_eq_getElem h1]

theorem l14Has_loop (l : List Int) (a : Int) (hn : l.length ≤ 1048576) : ∀ (d k : Nat) (i : Int), 0 ≤ i → (l.length : Int) - i = d → d < k → spec_l14Has.l0 k l a i = some (decide (a ∈ l.drop i.toNat)) := by
  intro d
  induction d with
  | zero =>
    intro k i h0 hd hk
    obtain ⟨k, rfl⟩ : ∃ m, k = m + 1 := ⟨k - 1, by omega⟩
    simp only [spec_l14Has.l0]
    rw [if_neg (by omega), List.drop_eq_nil_of_le (by omega)]; simp
  | succ d ih =>
    intro k i h0 hd hk
    obtain ⟨k, rfl⟩ : ∃ m, k = m + 1 := ⟨k - 1, by omega⟩
    have hlt : i < (l.length : Int) := by omega
    simp only [spec_l14Has.l0]
    rw [if_pos hlt, if_pos h0, wrap_small (n := l.length) h0 hlt hn, drop_step 0 l i h0 hlt, show l.getD i.toNat 0 = rd l i from rfl]
    by_cases e : rd l i = a
    · rw [if_pos e]; simp [e]
    · rw [if_neg e, ih k (i + 1) (by omega) (by omega) (by omega)]
      have e2 : ¬ a = rd l i := fun h => e h.symm
      simp [e2]

theorem placeOf_loop (l : List Int) (a : Int) (hn : l.length ≤ 1048576) : ∀ (d k : Nat) (i : Int), 0 ≤ i → (l.length : Int) - i = d → d < k → ∃ r, impl_placeOf.l0 k a l (l.length : Int) i = some r ∧ (decide (r ≥ 0) = decide (a ∈ l.drop i.toNat)) := by
  intro d
  induction d with
  | zero =>
    intro k i h0 hd hk
    obtain ⟨k, rfl⟩ : ∃ m, k = m + 1 := ⟨k - 1, by omega⟩
    simp only [impl_placeOf.l0]
    rw [if_neg (by omega), List.drop_eq_nil_of_le (by omega)]
    exact ⟨_, rfl, by simp⟩
  | succ d ih =>
    intro k i h0 hd hk
    obtain ⟨k, rfl⟩ : ∃ m, k = m + 1 := ⟨k - 1, by omega⟩
    have hlt : i < (l.length : Int) := by omega
    simp only [impl_placeOf.l0]
    rw [if_pos hlt, if_pos h0, if_pos hlt, wrap_small (n := l.length) h0 hlt hn, drop_step 0 l i h0 hlt, show l.getD i.toNat 0 = rd l i from rfl]
    by_cases e : rd l i = a
    · rw [if_pos e]; exact ⟨_, rfl, by simp [e, h0]⟩
    · rw [if_neg e]
      obtain ⟨r, hr, hd'⟩ := ih k (i + 1) (by omega) (by omega) (by omega)
      refine ⟨r, hr, ?_⟩
      have e2 : ¬ a = rd l i := fun h => e h.symm
      rw [hd']; simp [e2]

theorem l14Has_ev (l : List Int) (a : Int) (hn : l.length ≤ 1048576) (k : Nat) (hk : l.length < k) : spec_l14Has.f k l a = some (decide (a ∈ l)) := by
  have := l14Has_loop l a hn l.length k 0 (by omega) (by omega) hk
  show spec_l14Has.l0 k l a 0 = _
  simpa using this
theorem has_ev (l : List Int) (a : Int) (hn : l.length ≤ 1048576) (k : Nat) (hk : l.length < k) : impl_has.f k l a = some (decide (a ∈ l)) := by
  obtain ⟨r, hr, hd⟩ := placeOf_loop l a hn l.length k 0 (by omega) (by omega) hk
  unfold impl_has.f
  have h2 : impl_placeOf.f k l a = some r := hr
  rw [h2]; simp only [Option.bind_some]
  rw [hd]; simp

def hSum (at_ : List Int) : Int → Int → List Int → Int
  | s, _, [] => s
  | s, i, v :: vs => if i ∈ at_ then hSum at_ (wrap64 (s + v)) (i + 1) vs else hSum at_ s (i + 1) vs
def aSum : Int → List Int → Int
  | a, [] => a
  | a, v :: vs => aSum (wrap64 (a + v)) vs

theorem implSumAt_loop (xs at_ : List Int) (hn : xs.length ≤ 1048576) (hm : at_.length ≤ 1048576) : ∀ (d k : Nat) (s i : Int), 0 ≤ i → (xs.length : Int) - i = d → at_.length + d < k →
    impl_SumAt.l0 k at_ s xs (xs.length : Int) i = some (hSum at_ s i (xs.drop i.toNat)) := by
  intro d
  induction d with
  | zero =>
    intro k s i h0 hd hk
    obtain ⟨k, rfl⟩ : ∃ m, k = m + 1 := ⟨k - 1, by omega⟩
    simp only [impl_SumAt.l0]
    rw [if_neg (by omega), List.drop_eq_nil_of_le (by omega)]; rfl
  | succ d ih =>
    intro k s i h0 hd hk
    obtain ⟨k, rfl⟩ : ∃ m, k = m + 1 := ⟨k - 1, by omega⟩
    have hlt : i < (xs.length : Int) := by omega
    simp only [impl_SumAt.l0, if_pos hlt, if_pos h0, has_ev at_ i hm k (by omega), Option.bind_some, wrap_small (n := xs.length) h0 hlt hn, decide_eq_true_eq]
    rw [drop_step 0 xs i h0 hlt, show xs.getD i.toNat 0 = rd xs i from rfl]
    unfold hSum
    by_cases e : i ∈ at_
    · simp only [if_pos e]; exact ih k _ _ (by omega) (by omega) (by omega)
    · simp only [if_neg e]; exact ih k _ _ (by omega) (by omega) (by omega)

theorem implAll_loop (xs at_ : List Int) (hn : xs.length ≤ 1048576) (hm : at_.length ≤ 1048576) (T : Int) (hT : ∀ k, at_.length + xs.length < k → impl_SumAt.f k xs at_ = some T) : ∀ (d k : Nat) (a i : Int), 0 ≤ i → (xs.length : Int) - i = d → at_.length + xs.length + d + 1 < k →
    impl_SplitGap.l0 k xs at_ a xs (xs.length : Int) i = some (mx (wrap64 (wrap64 (2 * T) - aSum a (xs.drop i.toNat))) (wrap64 (-(wrap64 (wrap64 (2 * T) - aSum a (xs.drop i.toNat)))))) := by
  intro d
  induction d with
  | zero =>
    intro k a i h0 hd hk
    obtain ⟨k, rfl⟩ : ∃ m, k = m + 1 := ⟨k - 1, by omega⟩
    simp only [impl_SplitGap.l0]
    rw [if_neg (by omega), List.drop_eq_nil_of_le (by omega), hT k (by omega)]; rfl
  | succ d ih =>
    intro k a i h0 hd hk
    obtain ⟨k, rfl⟩ : ∃ m, k = m + 1 := ⟨k - 1, by omega⟩
    have hlt : i < (xs.length : Int) := by omega
    simp only [impl_SplitGap.l0, if_pos hlt, if_pos h0, wrap_small (n := xs.length) h0 hlt hn]
    rw [drop_step 0 xs i h0 hlt, show xs.getD i.toNat 0 = rd xs i from rfl]
    unfold aSum
    exact ih k _ _ (by omega) (by omega) (by omega)

theorem specGap_loop (xs at_ : List Int) (hn : xs.length ≤ 1048576) (hm : at_.length ≤ 1048576) : ∀ (d k : Nat) (s a i : Int), 0 ≤ i → (xs.length : Int) - i = d → at_.length + d < k →
    spec_SplitGap.l0 k xs at_ (wrap64 (wrap64 (2 * s) - a)) i = some (mx (wrap64 (wrap64 (2 * hSum at_ s i (xs.drop i.toNat)) - aSum a (xs.drop i.toNat))) (wrap64 (-(wrap64 (wrap64 (2 * hSum at_ s i (xs.drop i.toNat)) - aSum a (xs.drop i.toNat)))))) := by
  intro d
  induction d with
  | zero =>
    intro k s a i h0 hd hk
    obtain ⟨k, rfl⟩ : ∃ m, k = m + 1 := ⟨k - 1, by omega⟩
    simp only [spec_SplitGap.l0]
    rw [if_neg (by omega), List.drop_eq_nil_of_le (by omega)]
    unfold hSum aSum spec_Max.f mx
    generalize wrap64 (wrap64 (2 * s) - a) = n
    by_cases h : wrap64 (-n) > n
    · rw [if_pos h, if_pos (by omega)]; rfl
    · rw [if_neg h, if_neg (by omega)]; rfl
  | succ d ih =>
    intro k s a i h0 hd hk
    obtain ⟨k, rfl⟩ : ∃ m, k = m + 1 := ⟨k - 1, by omega⟩
    have hlt : i < (xs.length : Int) := by omega
    simp only [spec_SplitGap.l0, if_pos hlt, if_pos h0, l14Has_ev at_ i hm k (by omega), Option.bind_some, wrap_small (n := xs.length) h0 hlt hn, decide_eq_true_eq]
    rw [drop_step 0 xs i h0 hlt, show xs.getD i.toNat 0 = rd xs i from rfl]
    unfold hSum aSum
    generalize rd xs i = v
    by_cases e : i ∈ at_
    · simp only [if_pos e]
      rw [show wrap64 (wrap64 (wrap64 (2 * s) - a) + v) = wrap64 (wrap64 (2 * wrap64 (s + v)) - wrap64 (a + v)) by unfold wrap64; omega]
      exact ih k _ _ _ (by omega) (by omega) (by omega)
    · simp only [if_neg e]
      rw [show wrap64 (wrap64 (wrap64 (2 * s) - a) - v) = wrap64 (wrap64 (2 * s) - wrap64 (a + v)) by unfold wrap64; omega]
      exact ih k _ _ _ (by omega) (by omega) (by omega)

theorem FnExactSplitGap : laws_FnExactSplitGap.Stmt := by
  intro xs ys _ _
  by_cases hbig : (xs.length : Int) > 1048576
  · exact ⟨0, by unfold laws_FnExactSplitGap.f; rw [if_pos hbig]⟩
  by_cases hbig2 : (ys.length : Int) > 1048576
  · exact ⟨0, by unfold laws_FnExactSplitGap.f; rw [if_neg hbig, if_pos hbig2]⟩
  have hn : xs.length ≤ 1048576 := by omega
  have hm : ys.length ≤ 1048576 := by omega
  obtain ⟨k, hk⟩ : ∃ k, k = 2 * xs.length + ys.length + 2 := ⟨_, rfl⟩
  refine ⟨k, ?_⟩
  have hT : ∀ k, ys.length + xs.length < k → impl_SumAt.f k xs ys = some (hSum ys 0 0 xs) := by
    intro k hk
    have := implSumAt_loop xs ys hn hm xs.length k 0 0 (by omega) (by omega) (by omega)
    rw [Int.toNat_zero, List.drop_zero] at this
    exact this
  have h4 := implAll_loop xs ys hn hm _ hT xs.length k 0 0 (by omega) (by omega) (by omega)
  have h3 := specGap_loop xs ys hn hm xs.length k 0 0 0 (by omega) (by omega) (by omega)
  rw [show wrap64 (wrap64 (2 * 0) - 0) = 0 by unfold wrap64; omega] at h3
  simp only [Int.toNat_zero, List.drop_zero] at h3 h4
  have h3' : spec_SplitGap.f k xs ys = _ := h3
  have h4' : impl_SplitGap.f k xs ys = _ := h4
  unfold laws_FnExactSplitGap.f
  rw [if_neg hbig, if_neg hbig2]
  simp only [toIntS_ev xs hn k (by omega), toIntS_ev ys hm k (by omega), eqIntS_ev xs hn k (by omega), eqIntS_ev ys hm k (by omega), h3', h4', Option.bind_some, if_true]

end Go.Proofs.Ytcokbhkjfdddkaa.Pure
