/- The program's IsFair returns what the reference's IsFair returns, for every list of members and every list of numbers no longer than 2^20 each, and leaves both as they were. No further condition. -/
import Derived.Test.YtcokbhkjfdddkaaSFnExactIsFair
namespace Go.Proofs.Ytcokbhkjfdddkaa.Pure
open Go.RowKit Go.Proofs.Ytcokbhkjfdddkaa.Q Go.Proofs.YtcokbhkjfdddkaaW.PrintWords Go.Proofs.YtcokbhkjfdddkaaW.PrintLast Go.Proofs.YtcokbhkjfdddkaaW.PrintMore
set_option linter.unusedVariables false
set_option linter.unusedSimpArgs false

theorem ext_getD {α : Type} {d : α} {a b : List α} (h : a.length = b.length) (hj : ∀ j, j < a.length → a.getD j d = b.getD j d) : a = b := by
  apply List.ext_getElem h
  intro j h1 h2
  have := hj j h1
  simpa [List.getD_eq_getElem?_getD, List.getElem?_eq_getElem h1, List.getElem?_eq_getElem h2] using this

theorem getD_set {α : Type} {d : α} (a : List α) (i j : Nat) (v : α) (h : i < a.length) : (a.set i v).getD j d = if i = j then v else a.getD j d := by
  simp only [List.getD_eq_getElem?_getD, List.getElem?_set]
  by_cases e : i = j
  · subst e; simp [h]
  · simp [e]

theorem wrap_small {i : Int} {n : Nat} (h0 : 0 ≤ i) (h : i < (n : Int)) (hn : n ≤ 1048576) : wrap64 (i + 1) = i + 1 := by
  unfold wrap64; omega

def cMember (x : S113) : S81 := ⟨x.f0, x.f1, x.f2, x.f3⟩
theorem toMember_ev (x : S113) : laws_toMember.f x.f0 x.f1 x.f2 x.f3 = some (x.f0, x.f1, x.f2, x.f3) := rfl
theorem toMemberS_loop (xs : List S113) (hn : xs.length ≤ 1048576) : ∀ (d k : Nat) (acc : List S81) (i : Int), acc.length = xs.length → 0 ≤ i → (xs.length : Int) - i = d → d < k →
    (∀ j : Nat, (j : Int) < i → acc.getD j z81 = (xs.map cMember).getD j z81) → laws_toMemberS.l0 k xs acc i = some (xs.map cMember) := by
  intro d
  induction d with
  | zero =>
    intro k acc i hl h0 hd hk hj
    obtain ⟨k, rfl⟩ : ∃ m, k = m + 1 := ⟨k - 1, by omega⟩
    simp only [laws_toMemberS.l0]
    rw [if_neg (by omega)]
    exact congrArg some (ext_getD (by rw [List.length_map]; exact hl) (fun j h => hj j (by omega)))
  | succ d ih =>
    intro k acc i hl h0 hd hk hj
    obtain ⟨k, rfl⟩ : ∃ m, k = m + 1 := ⟨k - 1, by omega⟩
    simp only [laws_toMemberS.l0, toMember_ev, Option.bind_some]
    rw [if_pos (by omega), if_pos h0, if_pos (by omega), wrap_small (n := xs.length) h0 (by omega) hn]
    refine ih k _ _ (by simpa using hl) (by omega) (by omega) (by omega) ?_
    intro j hj'
    rw [getD_set _ _ _ _ (by omega)]
    by_cases e : i.toNat = j
    · rw [if_pos e]
      have h1 : j < xs.length := by omega
      unfold rd_T113
      rw [e]
      simp [List.getD_eq_getElem?_getD, List.getElem?_eq_getElem h1, cMember]
    · rw [if_neg e]; exact hj j (by omega)
theorem toMemberS_ev (xs : List S113) (hn : xs.length ≤ 1048576) (k : Nat) (hk : xs.length < k) : laws_toMemberS.f k xs = some (xs.map cMember) := by
  unfold laws_toMemberS.f
  rw [if_pos (by omega), if_pos (by omega)]
  exact toMemberS_loop xs hn xs.length k _ 0 (by simp) (by omega) (by omega) hk (fun j hj => by omega)

theorem eqMember_ev (x : S81) : laws_eqMember.f x.f0 x.f1 x.f2 x.f3 x.f0 x.f1 x.f2 x.f3 = some true := by simp [laws_eqMember.f]
theorem eqMemberS_loop (xs : List S81) (hn : xs.length ≤ 1048576) : ∀ (d k : Nat) (i : Int), 0 ≤ i → (xs.length : Int) - i = d → d < k → laws_eqMemberS.l0 k xs xs i = some true := by
  intro d
  induction d with
  | zero =>
    intro k i h0 hd hk
    obtain ⟨k, rfl⟩ : ∃ m, k = m + 1 := ⟨k - 1, by omega⟩
    simp only [laws_eqMemberS.l0]
    rw [if_neg (by omega)]
  | succ d ih =>
    intro k i h0 hd hk
    obtain ⟨k, rfl⟩ : ∃ m, k = m + 1 := ⟨k - 1, by omega⟩
    simp only [laws_eqMemberS.l0, eqMember_ev, Option.bind_some, if_true]
    rw [if_pos (by omega), if_pos h0, if_pos (by omega), wrap_small (n := xs.length) h0 (by omega) hn]
    exact ih k _ (by omega) (by omega) (by omega)
theorem eqMemberS_ev (xs : List S81) (hn : xs.length ≤ 1048576) (k : Nat) (hk : xs.length < k) : laws_eqMemberS.f k xs xs = some true := by
  unfold laws_eqMemberS.f
  rw [if_pos rfl]
  exact eqMemberS_loop xs hn xs.length k 0 (by omega) (by omega) hk

theorem szMemberS_ev (l : List S113) (hm : l.length ≤ maxLen) : ∃ r, laws_szMemberS.f l 1048576 = some r ∧ (r < 0 ∨ l.length ≤ 1048576) := by
  unfold maxLen at hm
  have hw : wrap64 (1048576 - (l.length : Int)) = 1048576 - (l.length : Int) := by unfold wrap64; omega
  unfold laws_szMemberS.f
  rw [hw]
  by_cases h : (1048576 - (l.length : Int)) < 0
  · rw [if_pos h]; exact ⟨_, rfl, .inl (by omega)⟩
  · rw [if_neg h]; exact ⟨_, rfl, .inr (by omega)⟩

theorem toIntS_loop (xs : List Int) (hn : xs.length ≤ 1048576) : ∀ (d k : Nat) (acc : List Int) (i : Int), acc.length = xs.length → 0 ≤ i → (xs.length : Int) - i = d → d < k →
    (∀ j : Nat, (j : Int) < i → acc.getD j 0 = xs.getD j 0) → laws_toIntS.l0 k xs acc i = some xs := by
  intro d
  induction d with
  | zero =>
    intro k acc i hl h0 hd hk hj
    obtain ⟨k, rfl⟩ : ∃ m, k = m + 1 := ⟨k - 1, by omega⟩
    simp only [laws_toIntS.l0]
    rw [if_neg (by omega)]
    exact congrArg some (ext_getD hl (fun j h => hj j (by omega)))
  | succ d ih =>
    intro k acc i hl h0 hd hk hj
    obtain ⟨k, rfl⟩ : ∃ m, k = m + 1 := ⟨k - 1, by omega⟩
    simp only [laws_toIntS.l0]
    rw [if_pos (by omega), if_pos h0, if_pos (by omega), wrap_small (n := xs.length) h0 (by omega) hn]
    refine ih k _ _ (by simpa using hl) (by omega) (by omega) (by omega) ?_
    intro j hj'
    rw [getD_set _ _ _ _ (by omega)]
    by_cases e : i.toNat = j
    · rw [if_pos e]; unfold rd; rw [e]
    · rw [if_neg e]; exact hj j (by omega)

theorem toIntS_ev (xs : List Int) (hn : xs.length ≤ 1048576) (k : Nat) (hk : xs.length < k) : laws_toIntS.f k xs = some xs := by
  unfold laws_toIntS.f
  rw [if_pos (by omega), if_pos (by omega)]
  exact toIntS_loop xs hn xs.length k _ 0 (by simp) (by omega) (by omega) hk (fun j hj => by omega)

theorem eqIntS_loop (xs : List Int) (hn : xs.length ≤ 1048576) : ∀ (d k : Nat) (i : Int), 0 ≤ i → (xs.length : Int) - i = d → d < k → laws_eqIntS.l0 k xs xs i = some true := by
  intro d
  induction d with
  | zero =>
    intro k i h0 hd hk
    obtain ⟨k, rfl⟩ : ∃ m, k = m + 1 := ⟨k - 1, by omega⟩
    simp only [laws_eqIntS.l0]
    rw [if_neg (by omega)]
  | succ d ih =>
    intro k i h0 hd hk
    obtain ⟨k, rfl⟩ : ∃ m, k = m + 1 := ⟨k - 1, by omega⟩
    simp only [laws_eqIntS.l0]
    rw [if_pos (by omega), if_pos h0, if_pos (by omega), if_pos trivial, wrap_small (n := xs.length) h0 (by omega) hn]
    exact ih k _ (by omega) (by omega) (by omega)

theorem eqIntS_ev (xs : List Int) (hn : xs.length ≤ 1048576) (k : Nat) (hk : xs.length < k) : laws_eqIntS.f k xs xs = some true := by
  unfold laws_eqIntS.f
  rw [if_pos rfl]
  exact eqIntS_loop xs hn xs.length k 0 (by omega) (by omega) hk

theorem fair_inner (xs : List S81) (sh : List Int) (hn : xs.length ≤ 1048576) (hl : sh.length = xs.length) (i : Int) (h0 : 0 ≤ i) (hi : i < (xs.length : Int)) (r' : Bool) (K : Nat)
    (hout : ∀ k, K < k → impl_IsFair.l0 k xs sh xs (xs.length : Int) (i + 1) = some r' ∧ spec_IsFair.l0 k xs sh (i + 1) = some r') :
    ∀ (d : Nat) (j : Int), 0 ≤ j → (xs.length : Int) - j = d → ∃ r, ∀ k, K + d + 1 < k →
      impl_IsFair.l1 k xs sh i xs (xs.length : Int) i xs (xs.length : Int) j ((rd_T81 xs i).f0) ((rd_T81 xs i).f1) ((rd_T81 xs i).f2) ((rd_T81 xs i).f3) = some r ∧ spec_IsFair.l1 k xs sh i j = some r := by
  intro d
  have hi2 : i < (sh.length : Int) := by omega
  induction d with
  | zero =>
    intro j hj hd
    refine ⟨r', fun k hk => ?_⟩
    obtain ⟨k, rfl⟩ : ∃ m, k = m + 1 := ⟨k - 1, by omega⟩
    have hlt : ¬ j < (xs.length : Int) := by omega
    simp only [impl_IsFair.l1, spec_IsFair.l1, if_neg hlt, wrap_small (n := xs.length) h0 hi hn]
    exact hout k (by omega)
  | succ d ih =>
    intro j hj hd
    obtain ⟨r, hr⟩ := ih (j + 1) (by omega) (by omega)
    have hlt : j < (xs.length : Int) := by omega
    have hlt2 : j < (sh.length : Int) := by omega
    by_cases hD : (wrap64 ((rd sh i) * ((rd_T81 xs j).f2))) > (wrap64 ((wrap64 ((wrap64 ((rd sh j) + 1)) * ((rd_T81 xs i).f2))) + ((rd_T81 xs j).f2)))
    · refine ⟨false, fun k hk => ?_⟩
      obtain ⟨k, rfl⟩ : ∃ m, k = m + 1 := ⟨k - 1, by omega⟩
      simp only [impl_IsFair.l1, spec_IsFair.l1, if_pos hlt, if_pos hlt2, if_pos hj, if_pos h0, if_pos hi, if_pos hi2, if_pos hD, and_self]
    · refine ⟨r, fun k hk => ?_⟩
      obtain ⟨k, rfl⟩ : ∃ m, k = m + 1 := ⟨k - 1, by omega⟩
      simp only [impl_IsFair.l1, spec_IsFair.l1, if_pos hlt, if_pos hlt2, if_pos hj, if_pos h0, if_pos hi, if_pos hi2, if_neg hD, wrap_small (n := xs.length) hj hlt hn]
      exact hr k (by omega)

theorem fair_outer (xs : List S81) (sh : List Int) (hn : xs.length ≤ 1048576) (hl : sh.length = xs.length) :
    ∀ (d : Nat) (i : Int), 0 ≤ i → (xs.length : Int) - i = d → ∃ K r, ∀ k, K < k → impl_IsFair.l0 k xs sh xs (xs.length : Int) i = some r ∧ spec_IsFair.l0 k xs sh i = some r := by
  have e : ((sh.length : Int) == (xs.length : Int)) = true := by simp [hl]
  intro d
  induction d with
  | zero =>
    intro i h0 hd
    refine ⟨2, true, fun k hk => ?_⟩
    obtain ⟨k, rfl⟩ : ∃ m, k = m + 2 := ⟨k - 2, by omega⟩
    have hlt : ¬ i < (xs.length : Int) := by omega
    simp only [impl_IsFair.l0, spec_IsFair.l0, spec_IsFair.j1, if_neg hlt, Bool.false_eq_true, if_false, e, and_self]
  | succ d ih =>
    intro i h0 hd
    have hlt : i < (xs.length : Int) := by omega
    obtain ⟨K, r', hr'⟩ := ih (i + 1) (by omega) (by omega)
    obtain ⟨r, hr⟩ := fair_inner xs sh hn hl i h0 hlt r' K hr' xs.length 0 (by omega) (by omega)
    refine ⟨K + xs.length + 4, r, fun k hk => ?_⟩
    obtain ⟨k, rfl⟩ : ∃ m, k = m + 2 := ⟨k - 2, by omega⟩
    constructor
    · simp only [impl_IsFair.l0, if_pos hlt, if_pos h0]
      exact (hr (k + 1) (by omega)).1
    · simp only [spec_IsFair.l0, spec_IsFair.j1, if_pos hlt, e, if_true]
      exact (hr k (by omega)).2

theorem isFair_ev (xs : List S81) (sh : List Int) (hn : xs.length ≤ 1048576) : ∃ K r, ∀ k, K < k → impl_IsFair.f k xs sh = some r ∧ spec_IsFair.f k xs sh = some r := by
  by_cases hl : sh.length = xs.length
  · obtain ⟨K, r, h⟩ := fair_outer xs sh hn hl xs.length 0 (by omega) (by omega)
    refine ⟨K, r, fun k hk => ?_⟩
    unfold impl_IsFair.f spec_IsFair.f
    rw [if_pos (by omega)]
    exact h k hk
  · have e : ((sh.length : Int) == (xs.length : Int)) = false := by simp; omega
    refine ⟨3, false, fun k hk => ?_⟩
    obtain ⟨k, rfl⟩ : ∃ m, k = m + 2 := ⟨k - 2, by omega⟩
    unfold impl_IsFair.f spec_IsFair.f
    rw [if_neg (by omega)]
    refine ⟨rfl, ?_⟩
    simp only [spec_IsFair.l0, spec_IsFair.j1, e, ite_self, Bool.false_eq_true, if_false]

theorem FnExactIsFair : laws_FnExactIsFair.Stmt := by
  intro xs sh hxs _
  by_cases hbig : (sh.length : Int) > 1048576
  · exact ⟨0, by unfold laws_FnExactIsFair.f; rw [if_pos hbig]⟩
  have hm : sh.length ≤ 1048576 := by omega
  obtain ⟨z, hz, hz2⟩ := szMemberS_ev xs hxs.1
  by_cases hneg : z < 0
  · exact ⟨0, by unfold laws_FnExactIsFair.f; rw [if_neg hbig, hz]; simp only [Option.bind_some]; rw [if_pos hneg]⟩
  have hn : xs.length ≤ 1048576 := hz2.resolve_left hneg
  have hn2 : (xs.map cMember).length ≤ 1048576 := by simpa using hn
  obtain ⟨K, v, hv⟩ := isFair_ev (xs.map cMember) sh hn2
  obtain ⟨k, hk⟩ : ∃ k, k = K + xs.length + sh.length + 3 := ⟨_, rfl⟩
  obtain ⟨h1, h2⟩ := hv k (by omega)
  refine ⟨k, ?_⟩
  unfold laws_FnExactIsFair.f
  rw [if_neg hbig, hz]; simp only [Option.bind_some]; rw [if_neg hneg]
  simp only [toMemberS_ev xs hn k (by omega), toIntS_ev sh hm k (by omega), eqMemberS_ev (xs.map cMember) hn2 k (by simp; omega), eqIntS_ev sh hm k (by omega), h1, h2, Option.bind_some, if_true, bne_self_eq_false, Bool.false_eq_true, if_false]

end Go.Proofs.Ytcokbhkjfdddkaa.Pure
