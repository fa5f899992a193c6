/- The program's AtBase returns what the reference's AtBase returns, for every expedition whose lists hold no more than 2^20 elements together (longer ones the statement lets pass), and leaves its argument as it was. No further condition. -/
import Derived.Test.YtegbddilobpeaaaSFnExactAtBase
namespace Go.Proofs.Ytegbddilobpeaaa.Pure
open Go.RowKit Go.Proofs.Ytegbddilobpeaaa.Q Go.Proofs.YtegbddilobpeaaaW.PrintWords Go.Proofs.YtegbddilobpeaaaW.PrintLast Go.Proofs.YtegbddilobpeaaaW.PrintMore
set_option linter.unusedVariables false
set_option linter.unusedSimpArgs false

theorem ext_getD {α : Type} {d : α} {a b : List α} (h : a.length = b.length) (hj : ∀ j, j < a.length → a.getD j d = b.getD j d) : a = b := by
  apply List.ext_getElem h
  intro j h1 h2
  have := hj j h1
  simpa [List.getD_eq_getElem?_getD, List.getElem?_eq_getElem h1, List.getElem?_eq_getElem h2] using this

theorem getD_set {α : Type} {d : α} (a : List α) (i j : Nat) (v : α) (h : i < a.length) : (a.set i v).getD j d = if i = j then v else a.getD j d := by
  simp only [List.getD_eq_getElem?_getD, List.getElem?_set]
  by_cases e : i = j
  · subst e; simp [h]
  · simp [e]

theorem wrap_small {i : Int} {n : Nat} (h0 : 0 ≤ i) (h : i < (n : Int)) (hn : n ≤ 1048576) : wrap64 (i + 1) = i + 1 := by
  unfold wrap64; omega

theorem toIntS_loop (xs : List Int) (hn : xs.length ≤ 1048576) : ∀ (d k : Nat) (acc : List Int) (i : Int), acc.length = xs.length → 0 ≤ i → (xs.length : Int) - i = d → d < k →
    (∀ j : Nat, (j : Int) < i → acc.getD j 0 = xs.getD j 0) → laws_toIntS.l0 k xs acc i = some xs := by
  intro d
  induction d with
  | zero =>
    intro k acc i hl h0 hd hk hj
    obtain ⟨k, rfl⟩ : ∃ m, k = m + 1 := ⟨k - 1, by omega⟩
    simp only [laws_toIntS.l0]
    rw [if_neg (by omega)]
    exact congrArg some (ext_getD hl (fun j h => hj j (by omega)))
  | succ d ih =>
    intro k acc i hl h0 hd hk hj
    obtain ⟨k, rfl⟩ : ∃ m, k = m + 1 := ⟨k - 1, by omega⟩
    simp only [laws_toIntS.l0]
    rw [if_pos (by omega), if_pos h0, if_pos (by omega), wrap_small (n := xs.length) h0 (by omega) hn]
    refine ih k _ _ (by simpa using hl) (by omega) (by omega) (by omega) ?_
    intro j hj'
    rw [getD_set _ _ _ _ (by omega)]
    by_cases e : i.toNat = j
    · rw [if_pos e]; unfold rd; rw [e]
    · rw [if_neg e]; exact hj j (by omega)

theorem toIntS_ev (xs : List Int) (hn : xs.length ≤ 1048576) (k : Nat) (hk : xs.length < k) : laws_toIntS.f k xs = some xs := by
  unfold laws_toIntS.f
  rw [if_pos (by omega), if_pos (by omega)]
  exact toIntS_loop xs hn xs.length k _ 0 (by simp) (by omega) (by omega) hk (fun j hj => by omega)

theorem eqIntS_loop (xs : List Int) (hn : xs.length ≤ 1048576) : ∀ (d k : Nat) (i : Int), 0 ≤ i → (xs.length : Int) - i = d → d < k → laws_eqIntS.l0 k xs xs i = some true := by
  intro d
  induction d with
  | zero =>
    intro k i h0 hd hk
    obtain ⟨k, rfl⟩ : ∃ m, k = m + 1 := ⟨k - 1, by omega⟩
    simp only [laws_eqIntS.l0]
    rw [if_neg (by omega)]
  | succ d ih =>
    intro k i h0 hd hk
    obtain ⟨k, rfl⟩ : ∃ m, k = m + 1 := ⟨k - 1, by omega⟩
    simp only [laws_eqIntS.l0]
    rw [if_pos (by omega), if_pos h0, if_pos (by omega), if_pos trivial, wrap_small (n := xs.length) h0 (by omega) hn]
    exact ih k _ (by omega) (by omega) (by omega)

theorem eqIntS_ev (xs : List Int) (hn : xs.length ≤ 1048576) (k : Nat) (hk : xs.length < k) : laws_eqIntS.f k xs xs = some true := by
  unfold laws_eqIntS.f
  rw [if_pos rfl]
  exact eqIntS_loop xs hn xs.length k 0 (by omega) (by omega) hk

def cDepot (x : S154) : S140 := ⟨x.f0, x.f1⟩
theorem toDepot_ev (x : S154) : laws_toDepot.f x.f0 x.f1 = some (x.f0, x.f1) := rfl
theorem toDepotS_loop (xs : List S154) (hn : xs.length ≤ 1048576) : ∀ (d k : Nat) (acc : List S140) (i : Int), acc.length = xs.length → 0 ≤ i → (xs.length : Int) - i = d → d < k →
    (∀ j : Nat, (j : Int) < i → acc.getD j z140 = (xs.map cDepot).getD j z140) → laws_toDepotS.l0 k xs acc i = some (xs.map cDepot) := by
  intro d
  induction d with
  | zero =>
    intro k acc i hl h0 hd hk hj
    obtain ⟨k, rfl⟩ : ∃ m, k = m + 1 := ⟨k - 1, by omega⟩
    simp only [laws_toDepotS.l0]
    rw [if_neg (by omega)]
    exact congrArg some (ext_getD (by rw [List.length_map]; exact hl) (fun j h => hj j (by omega)))
  | succ d ih =>
    intro k acc i hl h0 hd hk hj
    obtain ⟨k, rfl⟩ : ∃ m, k = m + 1 := ⟨k - 1, by omega⟩
    simp only [laws_toDepotS.l0, toDepot_ev, Option.bind_some]
    rw [if_pos (by omega), if_pos h0, if_pos (by omega), wrap_small (n := xs.length) h0 (by omega) hn]
    refine ih k _ _ (by simpa using hl) (by omega) (by omega) (by omega) ?_
    intro j hj'
    rw [getD_set _ _ _ _ (by omega)]
    by_cases e : i.toNat = j
    · rw [if_pos e]
      have h1 : j < xs.length := by omega
      unfold rd_T154
      rw [e]
      simp [List.getD_eq_getElem?_getD, List.getElem?_eq_getElem h1, cDepot]
    · rw [if_neg e]; exact hj j (by omega)
theorem toDepotS_ev (xs : List S154) (hn : xs.length ≤ 1048576) (k : Nat) (hk : xs.length < k) : laws_toDepotS.f k xs = some (xs.map cDepot) := by
  unfold laws_toDepotS.f
  rw [if_pos (by omega), if_pos (by omega)]
  exact toDepotS_loop xs hn xs.length k _ 0 (by simp) (by omega) (by omega) hk (fun j hj => by omega)

theorem eqDepot_ev (x : S140) : laws_eqDepot.f x.f0 x.f1 x.f0 x.f1 = some true := by simp [laws_eqDepot.f]
theorem eqDepotS_loop (xs : List S140) (hn : xs.length ≤ 1048576) : ∀ (d k : Nat) (i : Int), 0 ≤ i → (xs.length : Int) - i = d → d < k → laws_eqDepotS.l0 k xs xs i = some true := by
  intro d
  induction d with
  | zero =>
    intro k i h0 hd hk
    obtain ⟨k, rfl⟩ : ∃ m, k = m + 1 := ⟨k - 1, by omega⟩
    simp only [laws_eqDepotS.l0]
    rw [if_neg (by omega)]
  | succ d ih =>
    intro k i h0 hd hk
    obtain ⟨k, rfl⟩ : ∃ m, k = m + 1 := ⟨k - 1, by omega⟩
    simp only [laws_eqDepotS.l0, eqDepot_ev, Option.bind_some, if_true]
    rw [if_pos (by omega), if_pos h0, if_pos (by omega), wrap_small (n := xs.length) h0 (by omega) hn]
    exact ih k _ (by omega) (by omega) (by omega)
theorem eqDepotS_ev (xs : List S140) (hn : xs.length ≤ 1048576) (k : Nat) (hk : xs.length < k) : laws_eqDepotS.f k xs xs = some true := by
  unfold laws_eqDepotS.f
  rw [if_pos rfl]
  exact eqDepotS_loop xs hn xs.length k 0 (by omega) (by omega) hk

def cMember (x : S147) : S58 := ⟨x.f0, x.f1, x.f2, x.f3⟩
theorem toMember_ev (x : S147) : laws_toMember.f x.f0 x.f1 x.f2 x.f3 = some (x.f0, x.f1, x.f2, x.f3) := rfl
theorem toMemberS_loop (xs : List S147) (hn : xs.length ≤ 1048576) : ∀ (d k : Nat) (acc : List S58) (i : Int), acc.length = xs.length → 0 ≤ i → (xs.length : Int) - i = d → d < k →
    (∀ j : Nat, (j : Int) < i → acc.getD j z58 = (xs.map cMember).getD j z58) → laws_toMemberS.l0 k xs acc i = some (xs.map cMember) := by
  intro d
  induction d with
  | zero =>
    intro k acc i hl h0 hd hk hj
    obtain ⟨k, rfl⟩ : ∃ m, k = m + 1 := ⟨k - 1, by omega⟩
    simp only [laws_toMemberS.l0]
    rw [if_neg (by omega)]
    exact congrArg some (ext_getD (by rw [List.length_map]; exact hl) (fun j h => hj j (by omega)))
  | succ d ih =>
    intro k acc i hl h0 hd hk hj
    obtain ⟨k, rfl⟩ : ∃ m, k = m + 1 := ⟨k - 1, by omega⟩
    simp only [laws_toMemberS.l0, toMember_ev, Option.bind_some]
    rw [if_pos (by omega), if_pos h0, if_pos (by omega), wrap_small (n := xs.length) h0 (by omega) hn]
    refine ih k _ _ (by simpa using hl) (by omega) (by omega) (by omega) ?_
    intro j hj'
    rw [getD_set _ _ _ _ (by omega)]
    by_cases e : i.toNat = j
    · rw [if_pos e]
      have h1 : j < xs.length := by omega
      unfold rd_T147
      rw [e]
      simp [List.getD_eq_getElem?_getD, List.getElem?_eq_getElem h1, cMember]
    · rw [if_neg e]; exact hj j (by omega)
theorem toMemberS_ev (xs : List S147) (hn : xs.length ≤ 1048576) (k : Nat) (hk : xs.length < k) : laws_toMemberS.f k xs = some (xs.map cMember) := by
  unfold laws_toMemberS.f
  rw [if_pos (by omega), if_pos (by omega)]
  exact toMemberS_loop xs hn xs.length k _ 0 (by simp) (by omega) (by omega) hk (fun j hj => by omega)

theorem eqMember_ev (x : S58) : laws_eqMember.f x.f0 x.f1 x.f2 x.f3 x.f0 x.f1 x.f2 x.f3 = some true := by simp [laws_eqMember.f]
theorem eqMemberS_loop (xs : List S58) (hn : xs.length ≤ 1048576) : ∀ (d k : Nat) (i : Int), 0 ≤ i → (xs.length : Int) - i = d → d < k → laws_eqMemberS.l0 k xs xs i = some true := by
  intro d
  induction d with
  | zero =>
    intro k i h0 hd hk
    obtain ⟨k, rfl⟩ : ∃ m, k = m + 1 := ⟨k - 1, by omega⟩
    simp only [laws_eqMemberS.l0]
    rw [if_neg (by omega)]
  | succ d ih =>
    intro k i h0 hd hk
    obtain ⟨k, rfl⟩ : ∃ m, k = m + 1 := ⟨k - 1, by omega⟩
    simp only [laws_eqMemberS.l0, eqMember_ev, Option.bind_some, if_true]
    rw [if_pos (by omega), if_pos h0, if_pos (by omega), wrap_small (n := xs.length) h0 (by omega) hn]
    exact ih k _ (by omega) (by omega) (by omega)
theorem eqMemberS_ev (xs : List S58) (hn : xs.length ≤ 1048576) (k : Nat) (hk : xs.length < k) : laws_eqMemberS.f k xs xs = some true := by
  unfold laws_eqMemberS.f
  rw [if_pos rfl]
  exact eqMemberS_loop xs hn xs.length k 0 (by omega) (by omega) hk

theorem toBoolS_loop (xs : List Bool) (hn : xs.length ≤ 1048576) : ∀ (d k : Nat) (acc : List Bool) (i : Int), acc.length = xs.length → 0 ≤ i → (xs.length : Int) - i = d → d < k →
    (∀ j : Nat, (j : Int) < i → acc.getD j false = xs.getD j false) → laws_toBoolS.l0 k xs acc i = some xs := by
  intro d
  induction d with
  | zero =>
    intro k acc i hl h0 hd hk hj
    obtain ⟨k, rfl⟩ : ∃ m, k = m + 1 := ⟨k - 1, by omega⟩
    simp only [laws_toBoolS.l0]
    rw [if_neg (by omega)]
    exact congrArg some (ext_getD hl (fun j h => hj j (by omega)))
  | succ d ih =>
    intro k acc i hl h0 hd hk hj
    obtain ⟨k, rfl⟩ : ∃ m, k = m + 1 := ⟨k - 1, by omega⟩
    simp only [laws_toBoolS.l0]
    rw [if_pos (by omega), if_pos h0, if_pos (by omega), wrap_small (n := xs.length) h0 (by omega) hn]
    refine ih k _ _ (by simpa using hl) (by omega) (by omega) (by omega) ?_
    intro j hj'
    rw [getD_set _ _ _ _ (by omega)]
    by_cases e : i.toNat = j
    · rw [if_pos e]; unfold rdOf; rw [e]
    · rw [if_neg e]; exact hj j (by omega)

theorem toBoolS_ev (xs : List Bool) (hn : xs.length ≤ 1048576) (k : Nat) (hk : xs.length < k) : laws_toBoolS.f k xs = some xs := by
  unfold laws_toBoolS.f
  rw [if_pos (by omega), if_pos (by omega)]
  exact toBoolS_loop xs hn xs.length k _ 0 (by simp) (by omega) (by omega) hk (fun j hj => by omega)

theorem eqBoolS_loop (xs : List Bool) (hn : xs.length ≤ 1048576) : ∀ (d k : Nat) (i : Int), 0 ≤ i → (xs.length : Int) - i = d → d < k → laws_eqBoolS.l0 k xs xs i = some true := by
  intro d
  induction d with
  | zero =>
    intro k i h0 hd hk
    obtain ⟨k, rfl⟩ : ∃ m, k = m + 1 := ⟨k - 1, by omega⟩
    simp only [laws_eqBoolS.l0]
    rw [if_neg (by omega)]
  | succ d ih =>
    intro k i h0 hd hk
    obtain ⟨k, rfl⟩ : ∃ m, k = m + 1 := ⟨k - 1, by omega⟩
    simp only [laws_eqBoolS.l0]
    rw [if_pos (by omega), if_pos h0, if_pos (by omega), if_neg (by simp), wrap_small (n := xs.length) h0 (by omega) hn]
    exact ih k _ (by omega) (by omega) (by omega)

theorem eqBoolS_ev (xs : List Bool) (hn : xs.length ≤ 1048576) (k : Nat) (hk : xs.length < k) : laws_eqBoolS.f k xs xs = some true := by
  unfold laws_eqBoolS.f
  rw [if_pos rfl]
  exact eqBoolS_loop xs hn xs.length k 0 (by omega) (by omega) hk

def cPage (x : S156) : S142 := ⟨x.f0, x.f1, x.f2, x.f3⟩
theorem toPage_ev (x : S156) : laws_toPage.f x.f0 x.f1 x.f2 x.f3 = some (x.f0, x.f1, x.f2, x.f3) := rfl
theorem toPageS_loop (xs : List S156) (hn : xs.length ≤ 1048576) : ∀ (d k : Nat) (acc : List S142) (i : Int), acc.length = xs.length → 0 ≤ i → (xs.length : Int) - i = d → d < k →
    (∀ j : Nat, (j : Int) < i → acc.getD j z142 = (xs.map cPage).getD j z142) → laws_toPageS.l0 k xs acc i = some (xs.map cPage) := by
  intro d
  induction d with
  | zero =>
    intro k acc i hl h0 hd hk hj
    obtain ⟨k, rfl⟩ : ∃ m, k = m + 1 := ⟨k - 1, by omega⟩
    simp only [laws_toPageS.l0]
    rw [if_neg (by omega)]
    exact congrArg some (ext_getD (by rw [List.length_map]; exact hl) (fun j h => hj j (by omega)))
  | succ d ih =>
    intro k acc i hl h0 hd hk hj
    obtain ⟨k, rfl⟩ : ∃ m, k = m + 1 := ⟨k - 1, by omega⟩
    simp only [laws_toPageS.l0, toPage_ev, Option.bind_some]
    rw [if_pos (by omega), if_pos h0, if_pos (by omega), wrap_small (n := xs.length) h0 (by omega) hn]
    refine ih k _ _ (by simpa using hl) (by omega) (by omega) (by omega) ?_
    intro j hj'
    rw [getD_set _ _ _ _ (by omega)]
    by_cases e : i.toNat = j
    · rw [if_pos e]
      have h1 : j < xs.length := by omega
      unfold rd_T156
      rw [e]
      simp [List.getD_eq_getElem?_getD, List.getElem?_eq_getElem h1, cPage]
    · rw [if_neg e]; exact hj j (by omega)
theorem toPageS_ev (xs : List S156) (hn : xs.length ≤ 1048576) (k : Nat) (hk : xs.length < k) : laws_toPageS.f k xs = some (xs.map cPage) := by
  unfold laws_toPageS.f
  rw [if_pos (by omega), if_pos (by omega)]
  exact toPageS_loop xs hn xs.length k _ 0 (by simp) (by omega) (by omega) hk (fun j hj => by omega)

theorem eqPage_ev (x : S142) : laws_eqPage.f x.f0 x.f1 x.f2 x.f3 x.f0 x.f1 x.f2 x.f3 = some true := by simp [laws_eqPage.f]
theorem eqPageS_loop (xs : List S142) (hn : xs.length ≤ 1048576) : ∀ (d k : Nat) (i : Int), 0 ≤ i → (xs.length : Int) - i = d → d < k → laws_eqPageS.l0 k xs xs i = some true := by
  intro d
  induction d with
  | zero =>
    intro k i h0 hd hk
    obtain ⟨k, rfl⟩ : ∃ m, k = m + 1 := ⟨k - 1, by omega⟩
    simp only [laws_eqPageS.l0]
    rw [if_neg (by omega)]
  | succ d ih =>
    intro k i h0 hd hk
    obtain ⟨k, rfl⟩ : ∃ m, k = m + 1 := ⟨k - 1, by omega⟩
    simp only [laws_eqPageS.l0, eqPage_ev, Option.bind_some, if_true]
    rw [if_pos (by omega), if_pos h0, if_pos (by omega), wrap_small (n := xs.length) h0 (by omega) hn]
    exact ih k _ (by omega) (by omega) (by omega)
theorem eqPageS_ev (xs : List S142) (hn : xs.length ≤ 1048576) (k : Nat) (hk : xs.length < k) : laws_eqPageS.f k xs xs = some true := by
  unfold laws_eqPageS.f
  rw [if_pos rfl]
  exact eqPageS_loop xs hn xs.length k 0 (by omega) (by omega) hk

theorem szParty_ev (a b : Int) (l : List S147) (h : List Bool) (hl : l.length ≤ maxLen) (hh : h.length ≤ maxLen) : ∃ r, laws_szParty.f a b l h 1048576 = some r ∧ (r < 0 ∨ (l.length ≤ 1048576 ∧ h.length ≤ 1048576)) := by
  unfold maxLen at hl hh
  unfold laws_szParty.f laws_szMemberS.f laws_szBoolS.f
  rw [show wrap64 (1048576 - (l.length : Int)) = 1048576 - (l.length : Int) by unfold wrap64; omega]
  by_cases h1 : (1048576 - (l.length : Int)) < 0
  · rw [if_pos h1]; exact ⟨_, rfl, .inl (by omega)⟩
  · rw [if_neg h1, Option.bind_some, if_neg h1]
    rw [show wrap64 (1048576 - (l.length : Int) - (h.length : Int)) = 1048576 - (l.length : Int) - (h.length : Int) by unfold wrap64; omega]
    by_cases h2 : (1048576 - (l.length : Int) - (h.length : Int)) < 0
    · rw [if_pos h2]; exact ⟨_, rfl, .inl (by omega)⟩
    · rw [if_neg h2, Option.bind_some, if_neg h2]; exact ⟨_, rfl, .inr (by omega)⟩
theorem toParty_ev (a b : Int) (l : List S147) (h : List Bool) (hl : l.length ≤ 1048576) (hh : h.length ≤ 1048576) (k : Nat) (hk : l.length + h.length < k) : laws_toParty.f k a b l h = some (a, b, l.map cMember, h) := by
  unfold laws_toParty.f
  rw [toMemberS_ev l hl k (by omega), Option.bind_some, toBoolS_ev h hh k (by omega), Option.bind_some]
theorem eqParty_ev (a b : Int) (l : List S58) (h : List Bool) (hl : l.length ≤ 1048576) (hh : h.length ≤ 1048576) (k : Nat) (hk : l.length + h.length < k) : laws_eqParty.f k a b l h a b l h = some true := by
  unfold laws_eqParty.f
  rw [if_pos rfl, if_pos rfl, eqMemberS_ev l hl k (by omega), Option.bind_some, if_pos rfl, eqBoolS_ev h hh k (by omega), Option.bind_some, if_pos rfl]

theorem szTrek_ev (a0 : Int) (a1 : Int) (l2 : List Int) (a3 : Int) (a4 : Int) (a5 : Int) (l6 : List S154) (a7 : Int) (a8 : Int) (l9 : List S147) (l10 : List Bool) (l11 : List S156) (a12 : Int) (a13 : Int) (a14 : Int) (hl2 : l2.length ≤ maxLen) (hl6 : l6.length ≤ maxLen) (hl9 : l9.length ≤ maxLen) (hl10 : l10.length ≤ maxLen) (hl11 : l11.length ≤ maxLen) (z : Int) (hz : z ≤ 1048576) (hz2 : 0 ≤ z) : ∃ r, laws_szTrek.f a0 a1 l2 a3 a4 a5 l6 a7 a8 l9 l10 l11 a12 a13 a14 z = some r ∧ (r < 0 ∨ (0 ≤ r ∧ r ≤ 1048576 ∧ l2.length ≤ 1048576 ∧ l6.length ≤ 1048576 ∧ l9.length ≤ 1048576 ∧ l10.length ≤ 1048576 ∧ l11.length ≤ 1048576)) := by
  unfold maxLen at hl2 hl6 hl9 hl10 hl11
  unfold laws_szTrek.f laws_szLand.f laws_szIntS.f laws_szDepotS.f laws_szParty.f laws_szMemberS.f laws_szBoolS.f laws_szPageS.f
  have e1 : wrap64 (z - (l2.length : Int)) = z - l2.length := by unfold wrap64; omega
  rw [e1]
  by_cases c1 : z - (l2.length : Int) < 0
  · simp only [if_pos c1, Option.bind_some]; exact ⟨_, rfl, .inl (by omega)⟩
  have e2 : wrap64 (z - (l2.length : Int) - (l6.length : Int)) = z - l2.length - l6.length := by unfold wrap64; omega
  by_cases c2 : z - (l2.length : Int) - (l6.length : Int) < 0
  · simp only [if_neg c1, Option.bind_some, e2, if_pos c2]; exact ⟨_, rfl, .inl (by omega)⟩
  have e3 : wrap64 (z - (l2.length : Int) - (l6.length : Int) - (l9.length : Int)) = z - l2.length - l6.length - l9.length := by unfold wrap64; omega
  by_cases c3 : z - (l2.length : Int) - (l6.length : Int) - (l9.length : Int) < 0
  · simp only [if_neg c1, Option.bind_some, e2, if_neg c2, e3, if_pos c3]; exact ⟨_, rfl, .inl (by omega)⟩
  have e4 : wrap64 (z - (l2.length : Int) - (l6.length : Int) - (l9.length : Int) - (l10.length : Int)) = z - l2.length - l6.length - l9.length - l10.length := by unfold wrap64; omega
  by_cases c4 : z - (l2.length : Int) - (l6.length : Int) - (l9.length : Int) - (l10.length : Int) < 0
  · simp only [if_neg c1, Option.bind_some, e2, if_neg c2, e3, if_neg c3, e4, if_pos c4]; exact ⟨_, rfl, .inl (by omega)⟩
  have e5 : wrap64 (z - (l2.length : Int) - (l6.length : Int) - (l9.length : Int) - (l10.length : Int) - (l11.length : Int)) = z - l2.length - l6.length - l9.length - l10.length - l11.length := by unfold wrap64; omega
  by_cases c5 : z - (l2.length : Int) - (l6.length : Int) - (l9.length : Int) - (l10.length : Int) - (l11.length : Int) < 0
  · simp only [if_neg c1, Option.bind_some, e2, if_neg c2, e3, if_neg c3, e4, if_neg c4, e5, if_pos c5]; exact ⟨_, rfl, .inl (by omega)⟩
  · simp only [if_neg c1, Option.bind_some, e2, if_neg c2, e3, if_neg c3, e4, if_neg c4, e5, if_neg c5]; exact ⟨_, rfl, .inr (by omega)⟩
theorem toTrek_ev (a0 : Int) (a1 : Int) (l2 : List Int) (a3 : Int) (a4 : Int) (a5 : Int) (l6 : List S154) (a7 : Int) (a8 : Int) (l9 : List S147) (l10 : List Bool) (l11 : List S156) (a12 : Int) (a13 : Int) (a14 : Int) (hl2 : l2.length ≤ 1048576) (hl6 : l6.length ≤ 1048576) (hl9 : l9.length ≤ 1048576) (hl10 : l10.length ≤ 1048576) (hl11 : l11.length ≤ 1048576) (k : Nat) (hk : l2.length + l6.length + l9.length + l10.length + l11.length < k) : laws_toTrek.f k a0 a1 l2 a3 a4 a5 l6 a7 a8 l9 l10 l11 a12 a13 a14 = some (a0, a1, l2, a3, a4, a5, l6.map cDepot, a7, a8, l9.map cMember, l10, l11.map cPage, a12, a13, a14) := by
  unfold laws_toTrek.f laws_toLand.f laws_toRule.f
  simp only [toIntS_ev l2 hl2 k (by omega), toDepotS_ev l6 hl6 k (by omega), toParty_ev a7 a8 l9 l10 hl9 hl10 k (by omega), toPageS_ev l11 hl11 k (by omega), Option.bind_some]
theorem eqTrek_ev (a0 : Int) (a1 : Int) (l2 : List Int) (a3 : Int) (a4 : Int) (a5 : Int) (l6 : List S140) (a7 : Int) (a8 : Int) (l9 : List S58) (l10 : List Bool) (l11 : List S142) (a12 : Int) (a13 : Int) (a14 : Int) (hl2 : l2.length ≤ 1048576) (hl6 : l6.length ≤ 1048576) (hl9 : l9.length ≤ 1048576) (hl10 : l10.length ≤ 1048576) (hl11 : l11.length ≤ 1048576) (k : Nat) (hk : l2.length + l6.length + l9.length + l10.length + l11.length < k) : laws_eqTrek.f k a0 a1 l2 a3 a4 a5 l6 a7 a8 l9 l10 l11 a12 a13 a14 a0 a1 l2 a3 a4 a5 l6 a7 a8 l9 l10 l11 a12 a13 a14 = some true := by
  unfold laws_eqTrek.f laws_eqLand.f laws_eqRule.f
  simp only [eqIntS_ev l2 hl2 k (by omega), eqDepotS_ev l6 hl6 k (by omega), eqParty_ev a7 a8 l9 l10 hl9 hl10 k (by omega), eqPageS_ev l11 hl11 k (by omega), Option.bind_some, if_true]

theorem FnExactAtBase : laws_FnExactAtBase.Stmt := by
  intro y hy
  obtain ⟨h0, _, _, h3, h4, h5, _⟩ := hy
  obtain ⟨r, hr, hr2⟩ := szTrek_ev y.f0.f0 y.f0.f1 y.f0.f2 y.f1 y.f2.f0 y.f2.f1 y.f3 y.f4.f0 y.f4.f1 y.f4.f2 y.f4.f3 y.f5 y.f6 y.f7 y.f8 h0.2.2.1 h3.1 h4.2.2.1.1 h4.2.2.2.1 h5.1 1048576 (by omega) (by omega)
  by_cases hneg : r < 0
  · exact ⟨0, by unfold laws_FnExactAtBase.f; rw [hr]; simp only [Option.bind_some]; rw [if_pos hneg]⟩
  obtain ⟨_, _, q2, q6, q9, q10, q11⟩ := hr2.resolve_left hneg
  obtain ⟨k, hk⟩ : ∃ k, k = y.f0.f2.length + y.f3.length + y.f4.f2.length + y.f4.f3.length + y.f5.length + 1 := ⟨_, rfl⟩
  have ht := toTrek_ev y.f0.f0 y.f0.f1 y.f0.f2 y.f1 y.f2.f0 y.f2.f1 y.f3 y.f4.f0 y.f4.f1 y.f4.f2 y.f4.f3 y.f5 y.f6 y.f7 y.f8 q2 q6 q9 q10 q11 k (by omega)
  have he := eqTrek_ev y.f0.f0 y.f0.f1 y.f0.f2 y.f1 y.f2.f0 y.f2.f1 (y.f3.map cDepot) y.f4.f0 y.f4.f1 (y.f4.f2.map cMember) y.f4.f3 (y.f5.map cPage) y.f6 y.f7 y.f8 q2 (by simpa using q6) (by simpa using q9) q10 (by simpa using q11) k (by simp; omega)
  refine ⟨k, ?_⟩
  unfold laws_FnExactAtBase.f
  rw [hr]; simp only [Option.bind_some]; rw [if_neg hneg]
  simp only [ht, Option.bind_some, spec_AtBase.f, impl_AtBase.f, bne_self_eq_false, Bool.false_eq_true, if_false, he, if_true]

end Go.Proofs.Ytegbddilobpeaaa.Pure
