/- The program's SumOf returns what the reference's SumOf returns, for every list of integers that is no longer than 2^20 (longer ones the statement lets pass), and leaves its argument as it was. No further condition. -/
import Derived.Test.YtfaepjoaihkonaaSFnExactSumOf
namespace Go.Proofs.Ytfaepjoaihkonaa.Pure
open Go.RowKit Go.Proofs.Ytfaepjoaihkonaa.PFnExactSumOf Go.Proofs.YtfaepjoaihkonaaW.PrintWords Go.Proofs.YtfaepjoaihkonaaW.PrintLast Go.Proofs.YtfaepjoaihkonaaW.PrintMore

theorem ext_getD {α : Type} {d : α} {a b : List α} (h : a.length = b.length) (hj : ∀ j, j < a.length → a.getD j d = b.getD j d) : a = b := by
  apply List.ext_getElem h
  intro j h1 h2
  have := hj j h1
  simpa [List.getD_eq_getElem?_getD, List.getElem?_eq_getElem h1, List.getElem?_eq_getElem h2] using this

theorem getD_set {α : Type} {d : α} (a : List α) (i j : Nat) (v : α) (h : i < a.length) : (a.set i v).getD j d = if i = j then v else a.getD j d := by
  simp only [List.getD_eq_getElem?_getD, List.getElem?_set]
  by_cases e : i = j
  · subst e; simp [h]
  · simp [e]

theorem wrap_small {i : Int} {n : Nat} (h0 : 0 ≤ i) (h : i < (n : Int)) (hn : n ≤ 1048576) : wrap64 (i + 1) = i + 1 := by
  unfold wrap64; omega

theorem toIntS_loop (xs : List Int) (hn : xs.length ≤ 1048576) : ∀ (d k : Nat) (acc : List Int) (i : Int), acc.length = xs.length → 0 ≤ i → (xs.length : Int) - i = d → d < k →
    (∀ j : Nat, (j : Int) < i → acc.getD j 0 = xs.getD j 0) → laws_toIntS.l0 k xs acc i = some xs := by
  intro d
  induction d with
  | zero =>
    intro k acc i hl h0 hd hk hj
    obtain ⟨k, rfl⟩ : ∃ m, k = m + 1 := ⟨k - 1, by omega⟩
    simp only [laws_toIntS.l0]
    rw [if_neg (by omega)]
    exact congrArg some (ext_getD hl (fun j h => hj j (by omega)))
  | succ d ih =>
    intro k acc i hl h0 hd hk hj
    obtain ⟨k, rfl⟩ : ∃ m, k = m + 1 := ⟨k - 1, by omega⟩
    simp only [laws_toIntS.l0]
    rw [if_pos (by omega), if_pos h0, if_pos (by omega), wrap_small (n := xs.length) h0 (by omega) hn]
    refine ih k _ _ (by simpa using hl) (by omega) (by omega) (by omega) ?_
    intro j hj'
    rw [getD_set _ _ _ _ (by omega)]
    by_cases e : i.toNat = j
    · rw [if_pos e]; unfold rd; rw [e]
    · rw [if_neg e]; exact hj j (by omega)

theorem toIntS_ev (xs : List Int) (hn : xs.length ≤ 1048576) (k : Nat) (hk : xs.length < k) : laws_toIntS.f k xs = some xs := by
  unfold laws_toIntS.f
  rw [if_pos (by omega), if_pos (by omega)]
  exact toIntS_loop xs hn xs.length k _ 0 (by simp) (by omega) (by omega) hk (fun j hj => by omega)

theorem eqIntS_loop (xs : List Int) (hn : xs.length ≤ 1048576) : ∀ (d k : Nat) (i : Int), 0 ≤ i → (xs.length : Int) - i = d → d < k → laws_eqIntS.l0 k xs xs i = some true := by
  intro d
  induction d with
  | zero =>
    intro k i h0 hd hk
    obtain ⟨k, rfl⟩ : ∃ m, k = m + 1 := ⟨k - 1, by omega⟩
    simp only [laws_eqIntS.l0]
    rw [if_neg (by omega)]
  | succ d ih =>
    intro k i h0 hd hk
    obtain ⟨k, rfl⟩ : ∃ m, k = m + 1 := ⟨k - 1, by omega⟩
    simp only [laws_eqIntS.l0]
    rw [if_pos (by omega), if_pos h0, if_pos (by omega), if_pos trivial, wrap_small (n := xs.length) h0 (by omega) hn]
    exact ih k _ (by omega) (by omega) (by omega)

theorem eqIntS_ev (xs : List Int) (hn : xs.length ≤ 1048576) (k : Nat) (hk : xs.length < k) : laws_eqIntS.f k xs xs = some true := by
  unfold laws_eqIntS.f
  rw [if_pos rfl]
  exact eqIntS_loop xs hn xs.length k 0 (by omega) (by omega) hk

theorem clamp_eq (v : Int) : ((spec_Min.f 10000 v).bind fun t => spec_Max.f (-10000) t) = some (mn (mx v (-10000)) 10000) := by
  unfold spec_Min.f spec_Max.f mn mx
  by_cases h1 : v < 10000
  · rw [if_pos h1]; simp only [Option.bind_some]
    by_cases h2 : v > -10000
    · rw [if_pos h2, if_neg (by omega : ¬ v < -10000), if_neg (by omega)]
    · rw [if_neg h2]
      by_cases h3 : v < -10000
      · rw [if_pos h3, if_neg (by omega)]
      · rw [if_neg h3, if_neg (by omega)]; congr 1; omega
  · rw [if_neg h1]; simp only [Option.bind_some]
    rw [if_pos (by omega), if_neg (by omega : ¬ v < -10000)]
    by_cases h3 : 10000 < v
    · rw [if_pos h3]
    · rw [if_neg h3]; congr 1; omega

theorem sum_loop (xs : List Int) (hn : xs.length ≤ 1048576) : ∀ (d k : Nat) (acc i : Int), 0 ≤ i → (xs.length : Int) - i = d → d < k →
    ∃ r, spec_SumOf.l0 k xs acc i = some r ∧ impl_SumOf.l0 k acc xs (xs.length : Int) i = some r := by
  intro d
  induction d with
  | zero =>
    intro k acc i h0 hd hk
    obtain ⟨k, rfl⟩ : ∃ m, k = m + 1 := ⟨k - 1, by omega⟩
    simp only [spec_SumOf.l0, impl_SumOf.l0]
    rw [if_neg (by omega), if_neg (by omega)]
    exact ⟨_, rfl, rfl⟩
  | succ d ih =>
    intro k acc i h0 hd hk
    obtain ⟨k, rfl⟩ : ∃ m, k = m + 1 := ⟨k - 1, by omega⟩
    simp only [spec_SumOf.l0, impl_SumOf.l0]
    have hlt : i < (xs.length : Int) := by omega
    simp only [if_pos hlt, if_pos h0]
    rw [← Option.bind_assoc, clamp_eq]
    simp only [Option.bind_some]
    rw [wrap_small (n := xs.length) h0 hlt hn]
    exact ih k _ _ (by omega) (by omega) (by omega)

theorem FnExactSumOf : laws_FnExactSumOf.Stmt := by
  intro xs _
  by_cases hbig : (xs.length : Int) > 1048576
  · exact ⟨0, by unfold laws_FnExactSumOf.f; rw [if_pos hbig]⟩
  · have hn : xs.length ≤ 1048576 := by omega
    refine ⟨xs.length + 1, ?_⟩
    have h1 := toIntS_ev xs hn (xs.length + 1) (by omega)
    have h2 := eqIntS_ev xs hn (xs.length + 1) (by omega)
    obtain ⟨r, h3, h4⟩ := sum_loop xs hn xs.length (xs.length + 1) 0 0 (by omega) (by omega) (by omega)
    have h3' : spec_SumOf.f (xs.length + 1) xs = some r := h3
    have h4' : impl_SumOf.f (xs.length + 1) xs = some r := h4
    unfold laws_FnExactSumOf.f
    rw [if_neg hbig, h1]; simp only [Option.bind_some]
    rw [h3', h4']; simp only [Option.bind_some, if_true]
    rw [h2]; rfl

end Go.Proofs.Ytfaepjoaihkonaa.Pure
