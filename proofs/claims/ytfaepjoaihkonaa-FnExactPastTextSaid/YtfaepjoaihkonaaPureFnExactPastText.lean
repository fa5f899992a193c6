/- The program's PastText returns what the reference's PastText returns, for every list of bools no longer than 2^20, and leaves it as it was. No further condition. -/
import Derived.Test.YtfaepjoaihkonaaSFnExactPastText
namespace Go.Proofs.Ytfaepjoaihkonaa.Pure
open Go.RowKit Go.Proofs.Ytfaepjoaihkonaa.PFnExactPastText Go.Proofs.YtfaepjoaihkonaaW.PrintWords Go.Proofs.YtfaepjoaihkonaaW.PrintLast Go.Proofs.YtfaepjoaihkonaaW.PrintMore

theorem ext_getD {α : Type} {d : α} {a b : List α} (h : a.length = b.length) (hj : ∀ j, j < a.length → a.getD j d = b.getD j d) : a = b := by
  apply List.ext_getElem h
  intro j h1 h2
  have := hj j h1
  simpa [List.getD_eq_getElem?_getD, List.getElem?_eq_getElem h1, List.getElem?_eq_getElem h2] using this

theorem getD_set {α : Type} {d : α} (a : List α) (i j : Nat) (v : α) (h : i < a.length) : (a.set i v).getD j d = if i = j then v else a.getD j d := by
  simp only [List.getD_eq_getElem?_getD, List.getElem?_set]
  by_cases e : i = j
  · subst e; simp [h]
  · simp [e]

theorem wrap_small {i : Int} {n : Nat} (h0 : 0 ≤ i) (h : i < (n : Int)) (hn : n ≤ 1048576) : wrap64 (i + 1) = i + 1 := by
  unfold wrap64; omega

theorem toBoolS_loop (xs : List Bool) (hn : xs.length ≤ 1048576) : ∀ (d k : Nat) (acc : List Bool) (i : Int), acc.length = xs.length → 0 ≤ i → (xs.length : Int) - i = d → d < k →
    (∀ j : Nat, (j : Int) < i → acc.getD j false = xs.getD j false) → laws_toBoolS.l0 k xs acc i = some xs := by
  intro d
  induction d with
  | zero =>
    intro k acc i hl h0 hd hk hj
    obtain ⟨k, rfl⟩ : ∃ m, k = m + 1 := ⟨k - 1, by omega⟩
    simp only [laws_toBoolS.l0]
    rw [if_neg (by omega)]
    exact congrArg some (ext_getD hl (fun j h => hj j (by omega)))
  | succ d ih =>
    intro k acc i hl h0 hd hk hj
    obtain ⟨k, rfl⟩ : ∃ m, k = m + 1 := ⟨k - 1, by omega⟩
    simp only [laws_toBoolS.l0]
    rw [if_pos (by omega), if_pos h0, if_pos (by omega), wrap_small (n := xs.length) h0 (by omega) hn]
    refine ih k _ _ (by simpa using hl) (by omega) (by omega) (by omega) ?_
    intro j hj'
    rw [getD_set _ _ _ _ (by omega)]
    by_cases e : i.toNat = j
    · rw [if_pos e]; unfold rdOf; rw [e]
    · rw [if_neg e]; exact hj j (by omega)

theorem toBoolS_ev (xs : List Bool) (hn : xs.length ≤ 1048576) (k : Nat) (hk : xs.length < k) : laws_toBoolS.f k xs = some xs := by
  unfold laws_toBoolS.f
  rw [if_pos (by omega), if_pos (by omega)]
  exact toBoolS_loop xs hn xs.length k _ 0 (by simp) (by omega) (by omega) hk (fun j hj => by omega)

theorem eqBoolS_loop (xs : List Bool) (hn : xs.length ≤ 1048576) : ∀ (d k : Nat) (i : Int), 0 ≤ i → (xs.length : Int) - i = d → d < k → laws_eqBoolS.l0 k xs xs i = some true := by
  intro d
  induction d with
  | zero =>
    intro k i h0 hd hk
    obtain ⟨k, rfl⟩ : ∃ m, k = m + 1 := ⟨k - 1, by omega⟩
    simp only [laws_eqBoolS.l0]
    rw [if_neg (by omega)]
  | succ d ih =>
    intro k i h0 hd hk
    obtain ⟨k, rfl⟩ : ∃ m, k = m + 1 := ⟨k - 1, by omega⟩
    simp only [laws_eqBoolS.l0]
    rw [if_pos (by omega), if_pos h0, if_pos (by omega), if_neg (by simp), wrap_small (n := xs.length) h0 (by omega) hn]
    exact ih k _ (by omega) (by omega) (by omega)

theorem eqBoolS_ev (xs : List Bool) (hn : xs.length ≤ 1048576) (k : Nat) (hk : xs.length < k) : laws_eqBoolS.f k xs xs = some true := by
  unfold laws_eqBoolS.f
  rw [if_pos rfl]
  exact eqBoolS_loop xs hn xs.length k 0 (by omega) (by omega) hk

theorem size_app (a b : ByteArray) : (a ++ b).size = a.size + b.size := ByteArray.size_append

theorem toList_len (a : ByteArray) : a.toList.length = a.size := by rw [ByteArray.toList_eq]; simp

theorem pastText_loop (xs : List Bool) (hn : xs.length ≤ 1048576) : ∀ (d k : Nat) (acc : ByteArray) (i : Int), 0 ≤ i → (xs.length : Int) - i = d → acc.size = i.toNat → d < k →
    ∃ r, impl_PastText.l0 k acc xs (xs.length : Int) i = some r ∧ r.size = xs.length ∧ spec_PastText.l0 k xs acc i = (if xs.length = 0 then some (⟨#[45]⟩ : ByteArray) else some r) := by
  intro d
  induction d with
  | zero =>
    intro k acc i h0 hd hs hk
    obtain ⟨k, rfl⟩ : ∃ m, k = m + 1 := ⟨k - 1, by omega⟩
    simp only [spec_PastText.l0, impl_PastText.l0]
    rw [if_neg (by omega), if_neg (by omega)]
    refine ⟨acc, rfl, by omega, ?_⟩
    by_cases e : xs.length = 0
    · have h2 : acc.toList = [] := by
        have h3 : acc.size = 0 := by omega
        exact List.eq_nil_of_length_eq_zero (by rw [toList_len, h3])
      rw [if_pos h2, if_pos e]
    · have h2 : ¬ acc.toList = [] := by
        intro h3
        have h4 : acc.size ≠ 0 := by omega
        apply h4
        rw [← toList_len, h3]; rfl
      rw [if_neg h2, if_neg e]
  | succ d ih =>
    intro k acc i h0 hd hs hk
    obtain ⟨k, rfl⟩ : ∃ m, k = m + 1 := ⟨k - 1, by omega⟩
    have hlt : i < (xs.length : Int) := by omega
    have hsz : acc.size + 1 ≤ 9223372036854775807 := by omega
    simp only [spec_PastText.l0, impl_PastText.l0]
    simp only [if_pos hlt, if_pos h0, if_pos hsz, wrap_small (n := xs.length) h0 hlt hn]
    by_cases e : rdOf false xs i = true
    · simp only [if_pos e]
      exact ih k _ _ (by omega) (by omega) (by rw [size_app, hs]; show _ + 1 = _; omega) (by omega)
    · simp only [if_neg e]
      exact ih k _ _ (by omega) (by omega) (by rw [size_app, hs]; show _ + 1 = _; omega) (by omega)

theorem FnExactPastText : laws_FnExactPastText.Stmt := by
  intro xs _
  by_cases hbig : (xs.length : Int) > 1048576
  · exact ⟨0, by unfold laws_FnExactPastText.f; rw [if_pos hbig]⟩
  have hn : xs.length ≤ 1048576 := by omega
  refine ⟨xs.length + 1, ?_⟩
  obtain ⟨r, h1, h2, h3⟩ := pastText_loop xs hn xs.length (xs.length + 1) ⟨#[]⟩ 0 (by omega) (by omega) rfl (by omega)
  have hs : spec_PastText.f (xs.length + 1) xs = (if xs.length = 0 then some (⟨#[45]⟩ : ByteArray) else some r) := h3
  have hi : impl_PastText.f (xs.length + 1) xs = (if xs.length = 0 then some (⟨#[45]⟩ : ByteArray) else some r) := by
    unfold impl_PastText.f
    by_cases e : xs.length = 0
    · rw [if_pos e, if_pos (by omega)]
    · rw [if_neg e, if_neg (by omega)]; exact h1
  obtain ⟨q, hq⟩ : ∃ q, (if xs.length = 0 then some (⟨#[45]⟩ : ByteArray) else some r) = some q := by split <;> exact ⟨_, rfl⟩
  rw [hq] at hs hi
  unfold laws_FnExactPastText.f
  rw [if_neg hbig]
  simp only [toBoolS_ev xs hn _ (show xs.length < xs.length + 1 by omega), eqBoolS_ev xs hn _ (show xs.length < xs.length + 1 by omega), hs, hi, Option.bind_some, if_true]

end Go.Proofs.Ytfaepjoaihkonaa.Pure
