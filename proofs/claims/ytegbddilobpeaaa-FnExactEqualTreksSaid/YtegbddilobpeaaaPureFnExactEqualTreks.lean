/- The program's EqualTreks returns what the reference's EqualTreks returns, for every two expeditions whose lists hold no more than 2^20 elements together (longer ones the statement lets pass), and leaves both as they were. No further condition. -/
import Derived.Test.YtegbddilobpeaaaSFnExactEqualTreks
namespace Go.Proofs.Ytegbddilobpeaaa.Pure
open Go.RowKit Go.Proofs.Ytegbddilobpeaaa.Q Go.Proofs.YtegbddilobpeaaaW.PrintWords Go.Proofs.YtegbddilobpeaaaW.PrintLast Go.Proofs.YtegbddilobpeaaaW.PrintMore
set_option linter.unusedVariables false
set_option linter.unusedSimpArgs false
theorem ext_getD {α : Type} {d : α} {a b : List α} (h : a.length = b.length) (hj : ∀ j, j < a.length → a.getD j d = b.getD j d) : a = b := by
 apply List.ext_getElem h
 intro j h1 h2
 have := hj j h1
 simpa [List.getD_eq_getElem?_getD, List.getElem?_eq_getElem h1, List.getElem?_eq_getElem h2] using this
theorem getD_set {α : Type} {d : α} (a : List α) (i j : Nat) (v : α) (h : i < a.length) : (a.set i v).getD j d = if i = j then v else a.getD j d := by
 simp only [List.getD_eq_getElem?_getD, List.getElem?_set]
 by_cases e : i = j
 ·subst e; simp [h]
 ·simp [e]
theorem wrap_small {i : Int} {n : Nat} (h0 : 0 ≤ i) (h : i < (n : Int)) (hn : n ≤ 1048576) : wrap64 (i + 1) = i + 1 := by
 unfold wrap64; omega
theorem drop_step {α : Type} (d : α) (l : List α) (i : Int) (h0 : 0 ≤ i) (h : i < (l.length : Int)) : l.drop i.toNat = l.getD i.toNat d :: l.drop (i + 1).toNat := by
 have h1 : i.toNat < l.length := by omega
 rw [List.drop_eq_getElem_cons h1, show (i + 1).toNat = i.toNat + 1 by omega]
 congr 1
 simp [List.getD_eq_getElem?_getD, List.getElem?_eq_getElem h1]
theorem toIntS_loop (xs : List Int) (hn : xs.length ≤ 1048576) : ∀ (d k : Nat) (acc : List Int) (i : Int), acc.length = xs.length → 0 ≤ i → (xs.length : Int) - i = d → d < k →
  (∀ j : Nat, (j : Int) < i → acc.getD j 0 = xs.getD j 0) → laws_toIntS.l0 k xs acc i = some xs := by
 intro d
 induction d with
 | zero =>
  intro k acc i hl h0 hd hk hj
  obtain ⟨k, rfl⟩ : ∃ m, k = m + 1 := ⟨k - 1, by omega⟩
  simp only [laws_toIntS.l0]
  rw [if_neg (by omega)]
  exact congrArg some (ext_getD hl (fun j h => hj j (by omega)))
 | succ d ih =>
  intro k acc i hl h0 hd hk hj
  obtain ⟨k, rfl⟩ : ∃ m, k = m + 1 := ⟨k - 1, by omega⟩
  simp only [laws_toIntS.l0]
  rw [if_pos (by omega), if_pos h0, if_pos (by omega), wrap_small (n := xs.length) h0 (by omega) hn]
  refine ih k _ _ (by simpa using hl) (by omega) (by omega) (by omega) ?_
  intro j hj'
  rw [getD_set _ _ _ _ (by omega)]
  by_cases e : i.toNat = j
  ·rw [if_pos e]; unfold rd; rw [e]
  ·rw [if_neg e]; exact hj j (by omega)
theorem toIntS_ev (xs : List Int) (hn : xs.length ≤ 1048576) (k : Nat) (hk : xs.length < k) : laws_toIntS.f k xs = some xs := by
 unfold laws_toIntS.f
 rw [if_pos (by omega), if_pos (by omega)]
 exact toIntS_loop xs hn xs.length k _ 0 (by simp) (by omega) (by omega) hk (fun j hj => by omega)
theorem eqIntS_loop (xs : List Int) (hn : xs.length ≤ 1048576) : ∀ (d k : Nat) (i : Int), 0 ≤ i → (xs.length : Int) - i = d → d < k → laws_eqIntS.l0 k xs xs i = some true := by
 intro d
 induction d with
 | zero =>
  intro k i h0 hd hk
  obtain ⟨k, rfl⟩ : ∃ m, k = m + 1 := ⟨k - 1, by omega⟩
  simp only [laws_eqIntS.l0]
  rw [if_neg (by omega)]
 | succ d ih =>
  intro k i h0 hd hk
  obtain ⟨k, rfl⟩ : ∃ m, k = m + 1 := ⟨k - 1, by omega⟩
  simp only [laws_eqIntS.l0]
  rw [if_pos (by omega), if_pos h0, if_pos (by omega), if_pos trivial, wrap_small (n := xs.length) h0 (by omega) hn]
  exact ih k _ (by omega) (by omega) (by omega)
theorem eqIntS_ev (xs : List Int) (hn : xs.length ≤ 1048576) (k : Nat) (hk : xs.length < k) : laws_eqIntS.f k xs xs = some true := by
 unfold laws_eqIntS.f
 rw [if_pos rfl]
 exact eqIntS_loop xs hn xs.length k 0 (by omega) (by omega) hk
def cDepot (x : S154) : S140 := ⟨x.f0, x.f1⟩
theorem toDepot_ev (x : S154) : laws_toDepot.f x.f0 x.f1 = some (x.f0, x.f1) := rfl
theorem toDepotS_loop (xs : List S154) (hn : xs.length ≤ 1048576) : ∀ (d k : Nat) (acc : List S140) (i : Int), acc.length = xs.length → 0 ≤ i → (xs.length : Int) - i = d → d < k →
  (∀ j : Nat, (j : Int) < i → acc.getD j z140 = (xs.map cDepot).getD j z140) → laws_toDepotS.l0 k xs acc i = some (xs.map cDepot) := by
 intro d
 induction d with
 | zero =>
  intro k acc i hl h0 hd hk hj
  obtain ⟨k, rfl⟩ : ∃ m, k = m + 1 := ⟨k - 1, by omega⟩
  simp only [laws_toDepotS.l0]
  rw [if_neg (by omega)]
  exact congrArg some (ext_getD (by rw [List.length_map]; exact hl) (fun j h => hj j (by omega)))
 | succ d ih =>
  intro k acc i hl h0 hd hk hj
  obtain ⟨k, rfl⟩ : ∃ m, k = m + 1 := ⟨k - 1, by omega⟩
  simp only [laws_toDepotS.l0, toDepot_ev, Option.bind_some]
  rw [if_pos (by omega), if_pos h0, if_pos (by omega), wrap_small (n := xs.length) h0 (by omega) hn]
  refine ih k _ _ (by simpa using hl) (by omega) (by omega) (by omega) ?_
  intro j hj'
  rw [getD_set _ _ _ _ (by omega)]
  by_cases e : i.toNat = j
  ·rw [if_pos e]
   have h1 : j < xs.length := by omega
   unfold rd_T154
   rw [e]
   simp [List.getD_eq_getElem?_getD, List.getElem?_eq_getElem h1, cDepot]
  ·rw [if_neg e]; exact hj j (by omega)
theorem toDepotS_ev (xs : List S154) (hn : xs.length ≤ 1048576) (k : Nat) (hk : xs.length < k) : laws_toDepotS.f k xs = some (xs.map cDepot) := by
 unfold laws_toDepotS.f
 rw [if_pos (by omega), if_pos (by omega)]
 exact toDepotS_loop xs hn xs.length k _ 0 (by simp) (by omega) (by omega) hk (fun j hj => by omega)
theorem eqDepot_ev (x : S140) : laws_eqDepot.f x.f0 x.f1 x.f0 x.f1 = some true := by simp [laws_eqDepot.f]
theorem eqDepotS_loop (xs : List S140) (hn : xs.length ≤ 1048576) : ∀ (d k : Nat) (i : Int), 0 ≤ i → (xs.length : Int) - i = d → d < k → laws_eqDepotS.l0 k xs xs i = some true := by
 intro d
 induction d with
 | zero =>
  intro k i h0 hd hk
  obtain ⟨k, rfl⟩ : ∃ m, k = m + 1 := ⟨k - 1, by omega⟩
  simp only [laws_eqDepotS.l0]
  rw [if_neg (by omega)]
 | succ d ih =>
  intro k i h0 hd hk
  obtain ⟨k, rfl⟩ : ∃ m, k = m + 1 := ⟨k - 1, by omega⟩
  simp only [laws_eqDepotS.l0, eqDepot_ev, Option.bind_some, if_true]
  rw [if_pos (by omega), if_pos h0, if_pos (by omega), wrap_small (n := xs.length) h0 (by omega) hn]
  exact ih k _ (by omega) (by omega) (by omega)
theorem eqDepotS_ev (xs : List S140) (hn : xs.length ≤ 1048576) (k : Nat) (hk : xs.length < k) : laws_eqDepotS.f k xs xs = some true := by
 unfold laws_eqDepotS.f
 rw [if_pos rfl]
 exact eqDepotS_loop xs hn xs.length k 0 (by omega) (by omega) hk
def cMember (x : S147) : S58 := ⟨x.f0, x.f1, x.f2, x.f3⟩
theorem toMember_ev (x : S147) : laws_toMember.f x.f0 x.f1 x.f2 x.f3 = some (x.f0, x.f1, x.f2, x.f3) := rfl
theorem toMemberS_loop (xs : List S147) (hn : xs.length ≤ 1048576) : ∀ (d k : Nat) (acc : List S58) (i : Int), acc.length = xs.length → 0 ≤ i → (xs.length : Int) - i = d → d < k →
  (∀ j : Nat, (j : Int) < i → acc.getD j z58 = (xs.map cMember).getD j z58) → laws_toMemberS.l0 k xs acc i = some (xs.map cMember) := by
 intro d
 induction d with
 | zero =>
  intro k acc i hl h0 hd hk hj
  obtain ⟨k, rfl⟩ : ∃ m, k = m + 1 := ⟨k - 1, by omega⟩
  simp only [laws_toMemberS.l0]
  rw [if_neg (by omega)]
  exact congrArg some (ext_getD (by rw [List.length_map]; exact hl) (fun j h => hj j (by omega)))
 | succ d ih =>
  intro k acc i hl h0 hd hk hj
  obtain ⟨k, rfl⟩ : ∃ m, k = m + 1 := ⟨k - 1, by omega⟩
  simp only [laws_toMemberS.l0, toMember_ev, Option.bind_some]
  rw [if_pos (by omega), if_pos h0, if_pos (by omega), wrap_small (n := xs.length) h0 (by omega) hn]
  refine ih k _ _ (by simpa using hl) (by omega) (by omega) (by omega) ?_
  intro j hj'
  rw [getD_set _ _ _ _ (by omega)]
  by_cases e : i.toNat = j
  ·rw [if_pos e]
   have h1 : j < xs.length := by omega
   unfold rd_T147
   rw [e]
   simp [List.getD_eq_getElem?_getD, List.getElem?_eq_getElem h1, cMember]
  ·rw [if_neg e]; exact hj j (by omega)
theorem toMemberS_ev (xs : List S147) (hn : xs.length ≤ 1048576) (k : Nat) (hk : xs.length < k) : laws_toMemberS.f k xs = some (xs.map cMember) := by
 unfold laws_toMemberS.f
 rw [if_pos (by omega), if_pos (by omega)]
 exact toMemberS_loop xs hn xs.length k _ 0 (by simp) (by omega) (by omega) hk (fun j hj => by omega)
theorem eqMember_ev (x : S58) : laws_eqMember.f x.f0 x.f1 x.f2 x.f3 x.f0 x.f1 x.f2 x.f3 = some true := by simp [laws_eqMember.f]
theorem eqMemberS_loop (xs : List S58) (hn : xs.length ≤ 1048576) : ∀ (d k : Nat) (i : Int), 0 ≤ i → (xs.length : Int) - i = d → d < k → laws_eqMemberS.l0 k xs xs i = some true := by
 intro d
 induction d with
 | zero =>
  intro k i h0 hd hk
  obtain ⟨k, rfl⟩ : ∃ m, k = m + 1 := ⟨k - 1, by omega⟩
  simp only [laws_eqMemberS.l0]
  rw [if_neg (by omega)]
 | succ d ih =>
  intro k i h0 hd hk
  obtain ⟨k, rfl⟩ : ∃ m, k = m + 1 := ⟨k - 1, by omega⟩
  simp only [laws_eqMemberS.l0, eqMember_ev, Option.bind_some, if_true]
  rw [if_pos (by omega), if_pos h0, if_pos (by omega), wrap_small (n := xs.length) h0 (by omega) hn]
  exact ih k _ (by omega) (by omega) (by omega)
theorem eqMemberS_ev (xs : List S58) (hn : xs.length ≤ 1048576) (k : Nat) (hk : xs.length < k) : laws_eqMemberS.f k xs xs = some true := by
 unfold laws_eqMemberS.f
 rw [if_pos rfl]
 exact eqMemberS_loop xs hn xs.length k 0 (by omega) (by omega) hk
theorem toBoolS_loop (xs : List Bool) (hn : xs.length ≤ 1048576) : ∀ (d k : Nat) (acc : List Bool) (i : Int), acc.length = xs.length → 0 ≤ i → (xs.length : Int) - i = d → d < k →
  (∀ j : Nat, (j : Int) < i → acc.getD j false = xs.getD j false) → laws_toBoolS.l0 k xs acc i = some xs := by
 intro d
 induction d with
 | zero =>
  intro k acc i hl h0 hd hk hj
  obtain ⟨k, rfl⟩ : ∃ m, k = m + 1 := ⟨k - 1, by omega⟩
  simp only [laws_toBoolS.l0]
  rw [if_neg (by omega)]
  exact congrArg some (ext_getD hl (fun j h => hj j (by omega)))
 | succ d ih =>
  intro k acc i hl h0 hd hk hj
  obtain ⟨k, rfl⟩ : ∃ m, k = m + 1 := ⟨k - 1, by omega⟩
  simp only [laws_toBoolS.l0]
  rw [if_pos (by omega), if_pos h0, if_pos (by omega), wrap_small (n := xs.length) h0 (by omega) hn]
  refine ih k _ _ (by simpa using hl) (by omega) (by omega) (by omega) ?_
  intro j hj'
  rw [getD_set _ _ _ _ (by omega)]
  by_cases e : i.toNat = j
  ·rw [if_pos e]; unfold rdOf; rw [e]
  ·rw [if_neg e]; exact hj j (by omega)
theorem toBoolS_ev (xs : List Bool) (hn : xs.length ≤ 1048576) (k : Nat) (hk : xs.length < k) : laws_toBoolS.f k xs = some xs := by
 unfold laws_toBoolS.f
 rw [if_pos (by omega), if_pos (by omega)]
 exact toBoolS_loop xs hn xs.length k _ 0 (by simp) (by omega) (by omega) hk (fun j hj => by omega)
theorem eqBoolS_loop (xs : List Bool) (hn : xs.length ≤ 1048576) : ∀ (d k : Nat) (i : Int), 0 ≤ i → (xs.length : Int) - i = d → d < k → laws_eqBoolS.l0 k xs xs i = some true := by
 intro d
 induction d with
 | zero =>
  intro k i h0 hd hk
  obtain ⟨k, rfl⟩ : ∃ m, k = m + 1 := ⟨k - 1, by omega⟩
  simp only [laws_eqBoolS.l0]
  rw [if_neg (by omega)]
 | succ d ih =>
  intro k i h0 hd hk
  obtain ⟨k, rfl⟩ : ∃ m, k = m + 1 := ⟨k - 1, by omega⟩
  simp only [laws_eqBoolS.l0]
  rw [if_pos (by omega), if_pos h0, if_pos (by omega), if_neg (by simp), wrap_small (n := xs.length) h0 (by omega) hn]
  exact ih k _ (by omega) (by omega) (by omega)
theorem eqBoolS_ev (xs : List Bool) (hn : xs.length ≤ 1048576) (k : Nat) (hk : xs.length < k) : laws_eqBoolS.f k xs xs = some true := by
 unfold laws_eqBoolS.f
 rw [if_pos rfl]
 exact eqBoolS_loop xs hn xs.length k 0 (by omega) (by omega) hk
def cPage (x : S156) : S142 := ⟨x.f0, x.f1, x.f2, x.f3⟩
theorem toPage_ev (x : S156) : laws_toPage.f x.f0 x.f1 x.f2 x.f3 = some (x.f0, x.f1, x.f2, x.f3) := rfl
theorem toPageS_loop (xs : List S156) (hn : xs.length ≤ 1048576) : ∀ (d k : Nat) (acc : List S142) (i : Int), acc.length = xs.length → 0 ≤ i → (xs.length : Int) - i = d → d < k →
  (∀ j : Nat, (j : Int) < i → acc.getD j z142 = (xs.map cPage).getD j z142) → laws_toPageS.l0 k xs acc i = some (xs.map cPage) := by
 intro d
 induction d with
 | zero =>
  intro k acc i hl h0 hd hk hj
  obtain ⟨k, rfl⟩ : ∃ m, k = m + 1 := ⟨k - 1, by omega⟩
  simp only [laws_toPageS.l0]
  rw [if_neg (by omega)]
  exact congrArg some (ext_getD (by rw [List.length_map]; exact hl) (fun j h => hj j (by omega)))
 | succ d ih =>
  intro k acc i hl h0 hd hk hj
  obtain ⟨k, rfl⟩ : ∃ m, k = m + 1 := ⟨k - 1, by omega⟩
  simp only [laws_toPageS.l0, toPage_ev, Option.bind_some]
  rw [if_pos (by omega), if_pos h0, if_pos (by omega), wrap_small (n := xs.length) h0 (by omega) hn]
  refine ih k _ _ (by simpa using hl) (by omega) (by omega) (by omega) ?_
  intro j hj'
  rw [getD_set _ _ _ _ (by omega)]
  by_cases e : i.toNat = j
  ·rw [if_pos e]
   have h1 : j < xs.length := by omega
   unfold rd_T156
   rw [e]
   simp [List.getD_eq_getElem?_getD, List.getElem?_eq_getElem h1, cPage]
  ·rw [if_neg e]; exact hj j (by omega)
theorem toPageS_ev (xs : List S156) (hn : xs.length ≤ 1048576) (k : Nat) (hk : xs.length < k) : laws_toPageS.f k xs = some (xs.map cPage) := by
 unfold laws_toPageS.f
 rw [if_pos (by omega), if_pos (by omega)]
 exact toPageS_loop xs hn xs.length k _ 0 (by simp) (by omega) (by omega) hk (fun j hj => by omega)
theorem eqPage_ev (x : S142) : laws_eqPage.f x.f0 x.f1 x.f2 x.f3 x.f0 x.f1 x.f2 x.f3 = some true := by simp [laws_eqPage.f]
theorem eqPageS_loop (xs : List S142) (hn : xs.length ≤ 1048576) : ∀ (d k : Nat) (i : Int), 0 ≤ i → (xs.length : Int) - i = d → d < k → laws_eqPageS.l0 k xs xs i = some true := by
 intro d
 induction d with
 | zero =>
  intro k i h0 hd hk
  obtain ⟨k, rfl⟩ : ∃ m, k = m + 1 := ⟨k - 1, by omega⟩
  simp only [laws_eqPageS.l0]
  rw [if_neg (by omega)]
 | succ d ih =>
  intro k i h0 hd hk
  obtain ⟨k, rfl⟩ : ∃ m, k = m + 1 := ⟨k - 1, by omega⟩
  simp only [laws_eqPageS.l0, eqPage_ev, Option.bind_some, if_true]
  rw [if_pos (by omega), if_pos h0, if_pos (by omega), wrap_small (n := xs.length) h0 (by omega) hn]
  exact ih k _ (by omega) (by omega) (by omega)
theorem eqPageS_ev (xs : List S142) (hn : xs.length ≤ 1048576) (k : Nat) (hk : xs.length < k) : laws_eqPageS.f k xs xs = some true := by
 unfold laws_eqPageS.f
 rw [if_pos rfl]
 exact eqPageS_loop xs hn xs.length k 0 (by omega) (by omega) hk
theorem szParty_ev (a b : Int) (l : List S147) (h : List Bool) (hl : l.length ≤ maxLen) (hh : h.length ≤ maxLen) : ∃ r, laws_szParty.f a b l h 1048576 = some r ∧ (r < 0 ∨ (l.length ≤ 1048576 ∧ h.length ≤ 1048576)) := by
 unfold maxLen at hl hh
 unfold laws_szParty.f laws_szMemberS.f laws_szBoolS.f
 rw [show wrap64 (1048576 - (l.length : Int)) = 1048576 - (l.length : Int) by unfold wrap64; omega]
 by_cases h1 : (1048576 - (l.length : Int)) < 0
 ·rw [if_pos h1]; exact ⟨_, rfl, .inl (by omega)⟩
 ·rw [if_neg h1, Option.bind_some, if_neg h1]
  rw [show wrap64 (1048576 - (l.length : Int) - (h.length : Int)) = 1048576 - (l.length : Int) - (h.length : Int) by unfold wrap64; omega]
  by_cases h2 : (1048576 - (l.length : Int) - (h.length : Int)) < 0
  ·rw [if_pos h2]; exact ⟨_, rfl, .inl (by omega)⟩
  ·rw [if_neg h2, Option.bind_some, if_neg h2]; exact ⟨_, rfl, .inr (by omega)⟩
theorem toParty_ev (a b : Int) (l : List S147) (h : List Bool) (hl : l.length ≤ 1048576) (hh : h.length ≤ 1048576) (k : Nat) (hk : l.length + h.length < k) : laws_toParty.f k a b l h = some (a, b, l.map cMember, h) := by
 unfold laws_toParty.f
 rw [toMemberS_ev l hl k (by omega), Option.bind_some, toBoolS_ev h hh k (by omega), Option.bind_some]
theorem eqParty_ev (a b : Int) (l : List S58) (h : List Bool) (hl : l.length ≤ 1048576) (hh : h.length ≤ 1048576) (k : Nat) (hk : l.length + h.length < k) : laws_eqParty.f k a b l h a b l h = some true := by
 unfold laws_eqParty.f
 rw [if_pos rfl, if_pos rfl, eqMemberS_ev l hl k (by omega), Option.bind_some, if_pos rfl, eqBoolS_ev h hh k (by omega), Option.bind_some, if_pos rfl]
theorem szTrek_ev (a0 : Int) (a1 : Int) (l2 : List Int) (a3 : Int) (a4 : Int) (a5 : Int) (l6 : List S154) (a7 : Int) (a8 : Int) (l9 : List S147) (l10 : List Bool) (l11 : List S156) (a12 : Int) (a13 : Int) (a14 : Int) (hl2 : l2.length ≤ maxLen) (hl6 : l6.length ≤ maxLen) (hl9 : l9.length ≤ maxLen) (hl10 : l10.length ≤ maxLen) (hl11 : l11.length ≤ maxLen) (z : Int) (hz : z ≤ 1048576) (hz2 : 0 ≤ z) : ∃ r, laws_szTrek.f a0 a1 l2 a3 a4 a5 l6 a7 a8 l9 l10 l11 a12 a13 a14 z = some r ∧ (r < 0 ∨ (0 ≤ r ∧ r ≤ 1048576 ∧ l2.length ≤ 1048576 ∧ l6.length ≤ 1048576 ∧ l9.length ≤ 1048576 ∧ l10.length ≤ 1048576 ∧ l11.length ≤ 1048576)) := by
 unfold maxLen at hl2 hl6 hl9 hl10 hl11
 unfold laws_szTrek.f laws_szLand.f laws_szIntS.f laws_szDepotS.f laws_szParty.f laws_szMemberS.f laws_szBoolS.f laws_szPageS.f
 have e1 : wrap64 (z - (l2.length : Int)) = z - l2.length := by unfold wrap64; omega
 rw [e1]
 by_cases c1 : z - (l2.length : Int) < 0
 ·simp only [if_pos c1, Option.bind_some]; exact ⟨_, rfl, .inl (by omega)⟩
 have e2 : wrap64 (z - (l2.length : Int) - (l6.length : Int)) = z - l2.length - l6.length := by unfold wrap64; omega
 by_cases c2 : z - (l2.length : Int) - (l6.length : Int) < 0
 ·simp only [if_neg c1, Option.bind_some, e2, if_pos c2]; exact ⟨_, rfl, .inl (by omega)⟩
 have e3 : wrap64 (z - (l2.length : Int) - (l6.length : Int) - (l9.length : Int)) = z - l2.length - l6.length - l9.length := by unfold wrap64; omega
 by_cases c3 : z - (l2.length : Int) - (l6.length : Int) - (l9.length : Int) < 0
 ·simp only [if_neg c1, Option.bind_some, e2, if_neg c2, e3, if_pos c3]; exact ⟨_, rfl, .inl (by omega)⟩
 have e4 : wrap64 (z - (l2.length : Int) - (l6.length : Int) - (l9.length : Int) - (l10.length : Int)) = z - l2.length - l6.length - l9.length - l10.length := by unfold wrap64; omega
 by_cases c4 : z - (l2.length : Int) - (l6.length : Int) - (l9.length : Int) - (l10.length : Int) < 0
 ·simp only [if_neg c1, Option.bind_some, e2, if_neg c2, e3, if_neg c3, e4, if_pos c4]; exact ⟨_, rfl, .inl (by omega)⟩
 have e5 : wrap64 (z - (l2.length : Int) - (l6.length : Int) - (l9.length : Int) - (l10.length : Int) - (l11.length : Int)) = z - l2.length - l6.length - l9.length - l10.length - l11.length := by unfold wrap64; omega
 by_cases c5 : z - (l2.length : Int) - (l6.length : Int) - (l9.length : Int) - (l10.length : Int) - (l11.length : Int) < 0
 ·simp only [if_neg c1, Option.bind_some, e2, if_neg c2, e3, if_neg c3, e4, if_neg c4, e5, if_pos c5]; exact ⟨_, rfl, .inl (by omega)⟩
 ·simp only [if_neg c1, Option.bind_some, e2, if_neg c2, e3, if_neg c3, e4, if_neg c4, e5, if_neg c5]; exact ⟨_, rfl, .inr (by omega)⟩
theorem toTrek_ev (a0 : Int) (a1 : Int) (l2 : List Int) (a3 : Int) (a4 : Int) (a5 : Int) (l6 : List S154) (a7 : Int) (a8 : Int) (l9 : List S147) (l10 : List Bool) (l11 : List S156) (a12 : Int) (a13 : Int) (a14 : Int) (hl2 : l2.length ≤ 1048576) (hl6 : l6.length ≤ 1048576) (hl9 : l9.length ≤ 1048576) (hl10 : l10.length ≤ 1048576) (hl11 : l11.length ≤ 1048576) (k : Nat) (hk : l2.length + l6.length + l9.length + l10.length + l11.length < k) : laws_toTrek.f k a0 a1 l2 a3 a4 a5 l6 a7 a8 l9 l10 l11 a12 a13 a14 = some (a0, a1, l2, a3, a4, a5, l6.map cDepot, a7, a8, l9.map cMember, l10, l11.map cPage, a12, a13, a14) := by
 unfold laws_toTrek.f laws_toLand.f laws_toRule.f
 simp only [toIntS_ev l2 hl2 k (by omega), toDepotS_ev l6 hl6 k (by omega), toParty_ev a7 a8 l9 l10 hl9 hl10 k (by omega), toPageS_ev l11 hl11 k (by omega), Option.bind_some]
theorem eqTrek_ev (a0 : Int) (a1 : Int) (l2 : List Int) (a3 : Int) (a4 : Int) (a5 : Int) (l6 : List S140) (a7 : Int) (a8 : Int) (l9 : List S58) (l10 : List Bool) (l11 : List S142) (a12 : Int) (a13 : Int) (a14 : Int) (hl2 : l2.length ≤ 1048576) (hl6 : l6.length ≤ 1048576) (hl9 : l9.length ≤ 1048576) (hl10 : l10.length ≤ 1048576) (hl11 : l11.length ≤ 1048576) (k : Nat) (hk : l2.length + l6.length + l9.length + l10.length + l11.length < k) : laws_eqTrek.f k a0 a1 l2 a3 a4 a5 l6 a7 a8 l9 l10 l11 a12 a13 a14 a0 a1 l2 a3 a4 a5 l6 a7 a8 l9 l10 l11 a12 a13 a14 = some true := by
 unfold laws_eqTrek.f laws_eqLand.f laws_eqRule.f
 simp only [eqIntS_ev l2 hl2 k (by omega), eqDepotS_ev l6 hl6 k (by omega), eqParty_ev a7 a8 l9 l10 hl9 hl10 k (by omega), eqPageS_ev l11 hl11 k (by omega), Option.bind_some, if_true]
theorem equalInts_loop (a b : List Int) (hn : a.length ≤ 1048576) (hl : a.length = b.length) : ∀ (d k : Nat) (i : Int), 0 ≤ i → (a.length : Int) - i = d → d < k →
  impl_EqualInts.l0 k a b (a.length : Int) i = some (decide (a.drop i.toNat = b.drop i.toNat)) ∧ spec_EqualInts.l0 k a b i = some (decide (a.drop i.toNat = b.drop i.toNat)) := by
 intro d
 induction d with
 | zero =>
  intro k i h0 hd hk
  obtain ⟨k, rfl⟩ : ∃ m, k = m + 1 := ⟨k - 1, by omega⟩
  have hlt : ¬ i < (a.length : Int) := by omega
  rw [List.drop_eq_nil_of_le (show a.length ≤ i.toNat by omega), List.drop_eq_nil_of_le (show b.length ≤ i.toNat by omega)]
  simp only [impl_EqualInts.l0, spec_EqualInts.l0, if_neg hlt, decide_true, and_self]
 | succ d ih =>
  intro k i h0 hd hk
  obtain ⟨k, rfl⟩ : ∃ m, k = m + 1 := ⟨k - 1, by omega⟩
  have hlt : i < (a.length : Int) := by omega
  have hlt2 : i < (b.length : Int) := by omega
  obtain ⟨h1, h2⟩ := ih k (i + 1) (by omega) (by omega) (by omega)
  rw [drop_step 0 a i h0 hlt, drop_step 0 b i h0 hlt2, show a.getD i.toNat 0 = rd a i from rfl, show b.getD i.toNat 0 = rd b i from rfl]
  simp only [impl_EqualInts.l0, spec_EqualInts.l0, if_pos hlt, if_pos hlt2, if_pos h0, wrap_small (n := a.length) h0 hlt hn, h1, h2, List.cons.injEq]
  by_cases e : rd a i = rd b i
  ·simp [e]
  ·simp [e]
theorem equalInts_ev (a b : List Int) (hn : a.length ≤ 1048576) (k : Nat) (hk : a.length < k) : impl_EqualInts.f k a b = some (decide (a = b)) ∧ spec_EqualInts.f k a b = some (decide (a = b)) := by
 unfold impl_EqualInts.f spec_EqualInts.f
 by_cases hl : a.length = b.length
 ·rw [if_pos (by omega), if_pos (by omega)]
  have := equalInts_loop a b hn hl a.length k 0 (by omega) (by omega) hk
  rw [Int.toNat_zero, List.drop_zero, List.drop_zero] at this
  exact this
 ·rw [if_neg (by omega), if_neg (by omega)]
  have e : ¬ a = b := fun h => hl (by rw [h])
  simp [e]
def allP (p : Int → Bool) : Nat → Int → Bool
 | 0, _ => true
 | d + 1, i => if p i = true then false else allP p d (i + 1)
theorem sPasts (l10 m10 : List Bool) (hn : l10.length ≤ 1048576) (hl : m10.length = l10.length) : ∀ (d k : Nat) (i : Int), 0 ≤ i → (l10.length : Int) - i = d → d < k →
  spec_l9Pasts.l0 k l10 m10 i = some (allP (fun i => (rdOf false l10 i) != (rdOf false m10 i)) d i) := by
 intro d
 induction d with
 | zero =>
  intro k i h0 hd hk
  obtain ⟨k, rfl⟩ : ∃ m, k = m + 1 := ⟨k - 1, by omega⟩
  have hlt : ¬ i < (l10.length : Int) := by omega
  simp only [spec_l9Pasts.l0, if_neg hlt, allP]
 | succ d ih =>
  intro k i h0 hd hk
  obtain ⟨k, rfl⟩ : ∃ m, k = m + 1 := ⟨k - 1, by omega⟩
  have hlt : i < (l10.length : Int) := by omega
  have hlt2 : i < (m10.length : Int) := by omega
  have hi := ih k (i + 1) (by omega) (by omega) (by omega)
  by_cases e : ((rdOf false l10 i) != (rdOf false m10 i)) = true
  ·simp only [spec_l9Pasts.l0, if_pos hlt, if_pos hlt2, if_pos h0, if_pos e, allP, Bool.false_and]
  ·simp only [spec_l9Pasts.l0, if_pos hlt, if_pos hlt2, if_pos h0, if_neg e, allP, wrap_small (n := l10.length) h0 hlt hn]
   exact hi
theorem sCrews (l9 m9 : List S58) (hn : l9.length ≤ 1048576) (hl : m9.length = l9.length) : ∀ (d k : Nat) (i : Int), 0 ≤ i → (l9.length : Int) - i = d → d < k →
  spec_l9Crews.l0 k l9 m9 i = some (allP (fun i => (!(((rd_T58 l9 i).f0) == ((rd_T58 m9 i).f0)) || (!(((rd_T58 l9 i).f1) == ((rd_T58 m9 i).f1)) || (!(((rd_T58 l9 i).f2) == ((rd_T58 m9 i).f2)) || (!(((rd_T58 l9 i).f3) == ((rd_T58 m9 i).f3))))))) d i) := by
 intro d
 induction d with
 | zero =>
  intro k i h0 hd hk
  obtain ⟨k, rfl⟩ : ∃ m, k = m + 1 := ⟨k - 1, by omega⟩
  have hlt : ¬ i < (l9.length : Int) := by omega
  simp only [spec_l9Crews.l0, if_neg hlt, allP]
 | succ d ih =>
  intro k i h0 hd hk
  obtain ⟨k, rfl⟩ : ∃ m, k = m + 1 := ⟨k - 1, by omega⟩
  have hlt : i < (l9.length : Int) := by omega
  have hlt2 : i < (m9.length : Int) := by omega
  have hi := ih k (i + 1) (by omega) (by omega) (by omega)
  by_cases e : ((!(((rd_T58 l9 i).f0) == ((rd_T58 m9 i).f0)) || (!(((rd_T58 l9 i).f1) == ((rd_T58 m9 i).f1)) || (!(((rd_T58 l9 i).f2) == ((rd_T58 m9 i).f2)) || (!(((rd_T58 l9 i).f3) == ((rd_T58 m9 i).f3))))))) = true
  ·simp only [spec_l9Crews.l0, if_pos hlt, if_pos hlt2, if_pos h0, if_pos e, allP, Bool.false_and]
  ·simp only [spec_l9Crews.l0, if_pos hlt, if_pos hlt2, if_pos h0, if_neg e, allP, wrap_small (n := l9.length) h0 hlt hn]
   exact hi
theorem iPasts (a7 : Int) (a8 : Int) (l9 : List S58) (l10 : List Bool) (b7 : Int) (b8 : Int) (m9 : List S58) (m10 : List Bool) (hn : l10.length ≤ 1048576) (hl : m10.length = l10.length) : ∀ (d k : Nat) (i : Int), 0 ≤ i → (l10.length : Int) - i = d → d < k →
  impl_EqualParties.l1 k (l10.length : Int) i a7 a8 l9 l10 b7 b8 m9 m10 = some (allP (fun i => (rdOf false l10 i) != (rdOf false m10 i)) d i) := by
 intro d
 induction d with
 | zero =>
  intro k i h0 hd hk
  obtain ⟨k, rfl⟩ : ∃ m, k = m + 1 := ⟨k - 1, by omega⟩
  have hlt : ¬ i < (l10.length : Int) := by omega
  simp only [impl_EqualParties.l1, if_neg hlt, allP]
 | succ d ih =>
  intro k i h0 hd hk
  obtain ⟨k, rfl⟩ : ∃ m, k = m + 1 := ⟨k - 1, by omega⟩
  have hlt : i < (l10.length : Int) := by omega
  have hlt2 : i < (m10.length : Int) := by omega
  have hi := ih k (i + 1) (by omega) (by omega) (by omega)
  by_cases e : ((rdOf false l10 i) != (rdOf false m10 i)) = true
  ·simp only [impl_EqualParties.l1, if_pos hlt, if_pos hlt2, if_pos h0, if_pos e, allP, Bool.false_and]
  ·simp only [impl_EqualParties.l1, if_pos hlt, if_pos hlt2, if_pos h0, if_neg e, allP, wrap_small (n := l10.length) h0 hlt hn]
   exact hi
theorem iCrews (a7 : Int) (a8 : Int) (l9 : List S58) (l10 : List Bool) (b7 : Int) (b8 : Int) (m9 : List S58) (m10 : List Bool) (hn : l9.length ≤ 1048576) (hl : m9.length = l9.length) (hn2 : l10.length ≤ 1048576) (hl2 : m10.length = l10.length) : ∀ (d k : Nat) (i : Int), 0 ≤ i → (l9.length : Int) - i = d → d + l10.length + 2 < k →
  impl_EqualParties.l0 k (l9.length : Int) i a7 a8 l9 l10 b7 b8 m9 m10 = some (allP (fun i => (!(((rd_T58 l9 i).f0) == ((rd_T58 m9 i).f0)) || (!(((rd_T58 l9 i).f1) == ((rd_T58 m9 i).f1)) || (!(((rd_T58 l9 i).f2) == ((rd_T58 m9 i).f2)) || (!(((rd_T58 l9 i).f3) == ((rd_T58 m9 i).f3))))))) d i && allP (fun i => (rdOf false l10 i) != (rdOf false m10 i)) l10.length 0) := by
 intro d
 induction d with
 | zero =>
  intro k i h0 hd hk
  obtain ⟨k, rfl⟩ : ∃ m, k = m + 1 := ⟨k - 1, by omega⟩
  have hlt : ¬ i < (l9.length : Int) := by omega
  simp only [impl_EqualParties.l0, if_neg hlt, allP, iPasts a7 a8 l9 l10 b7 b8 m9 m10 hn2 hl2 l10.length k 0 (by omega) (by omega) (by omega), Bool.true_and]
 | succ d ih =>
  intro k i h0 hd hk
  obtain ⟨k, rfl⟩ : ∃ m, k = m + 1 := ⟨k - 1, by omega⟩
  have hlt : i < (l9.length : Int) := by omega
  have hlt2 : i < (m9.length : Int) := by omega
  have hi := ih k (i + 1) (by omega) (by omega) (by omega)
  by_cases e : ((!(((rd_T58 l9 i).f0) == ((rd_T58 m9 i).f0)) || (!(((rd_T58 l9 i).f1) == ((rd_T58 m9 i).f1)) || (!(((rd_T58 l9 i).f2) == ((rd_T58 m9 i).f2)) || (!(((rd_T58 l9 i).f3) == ((rd_T58 m9 i).f3))))))) = true
  ·simp only [impl_EqualParties.l0, if_pos hlt, if_pos hlt2, if_pos h0, if_pos e, allP, Bool.false_and]
  ·simp only [impl_EqualParties.l0, if_pos hlt, if_pos hlt2, if_pos h0, if_neg e, allP, wrap_small (n := l9.length) h0 hlt hn]
   exact hi
theorem eqParties_ev (a7 : Int) (a8 : Int) (l9 : List S58) (l10 : List Bool) (b7 : Int) (b8 : Int) (m9 : List S58) (m10 : List Bool) (hn : l9.length ≤ 1048576) (hn2 : l10.length ≤ 1048576) : ∃ r, ∀ k, l9.length + l10.length + 5 < k → impl_EqualParties.f k a7 a8 l9 l10 b7 b8 m9 m10 = some r ∧ spec_EqualParties.f k a7 a8 l9 l10 b7 b8 m9 m10 = some r := by
 by_cases c0 : a7 = b7
 ·by_cases c1 : a8 = b8
  ·by_cases c2 : (l9.length : Int) = (m9.length : Int)
   ·by_cases c3 : (l10.length : Int) = (m10.length : Int)
    ·refine ⟨(allP (fun i => (!(((rd_T58 l9 i).f0) == ((rd_T58 m9 i).f0)) || (!(((rd_T58 l9 i).f1) == ((rd_T58 m9 i).f1)) || (!(((rd_T58 l9 i).f2) == ((rd_T58 m9 i).f2)) || (!(((rd_T58 l9 i).f3) == ((rd_T58 m9 i).f3))))))) l9.length 0 && allP (fun i => (rdOf false l10 i) != (rdOf false m10 i)) l10.length 0), fun k hk => ?_⟩
     obtain ⟨k, rfl⟩ : ∃ m, k = m + 1 := ⟨k - 1, by omega⟩
     have hb : ((l10.length : Int) != (m10.length : Int)) = false := by rw [c3]; exact bne_self_eq_false _
     have q1 := iCrews a7 a8 l9 l10 b7 b8 m9 m10 hn (by omega) hn2 (by omega) l9.length k 0 (by omega) (by omega) (by omega)
     have q2 := sCrews l9 m9 hn (by omega) l9.length (k + 1) 0 (by omega) (by omega) (by omega)
     have q3 := sPasts l10 m10 hn2 (by omega) l10.length (k + 1) 0 (by omega) (by omega) (by omega)
     unfold impl_EqualParties.f spec_EqualParties.f spec_l9Crews.f spec_l9Pasts.f
     simp only [if_pos c0, if_pos c1, if_pos c2, if_pos c3, hb, impl_EqualParties.j0, Bool.false_eq_true, if_false, q1, q2, q3, Option.bind_some]
     refine ⟨trivial, ?_⟩
     cases allP (fun i => (!(((rd_T58 l9 i).f0) == ((rd_T58 m9 i).f0)) || (!(((rd_T58 l9 i).f1) == ((rd_T58 m9 i).f1)) || (!(((rd_T58 l9 i).f2) == ((rd_T58 m9 i).f2)) || (!(((rd_T58 l9 i).f3) == ((rd_T58 m9 i).f3))))))) l9.length 0 <;> rfl
    ·refine ⟨false, fun k hk => ?_⟩
     obtain ⟨k, rfl⟩ : ∃ m, k = m + 1 := ⟨k - 1, by omega⟩
     have hb : ((l10.length : Int) != (m10.length : Int)) = true := by rw [bne_iff_ne]; exact c3
     have q2 := sCrews l9 m9 hn (by omega) l9.length (k + 1) 0 (by omega) (by omega) (by omega)
     unfold impl_EqualParties.f spec_EqualParties.f spec_l9Crews.f spec_l9Pasts.f
     simp only [if_pos c0, if_pos c1, if_pos c2, if_neg c3, hb, impl_EqualParties.j0, if_true, q2, Option.bind_some]
     refine ⟨trivial, ?_⟩
     cases allP (fun i => (!(((rd_T58 l9 i).f0) == ((rd_T58 m9 i).f0)) || (!(((rd_T58 l9 i).f1) == ((rd_T58 m9 i).f1)) || (!(((rd_T58 l9 i).f2) == ((rd_T58 m9 i).f2)) || (!(((rd_T58 l9 i).f3) == ((rd_T58 m9 i).f3))))))) l9.length 0 <;> rfl
   ·refine ⟨false, fun k hk => ?_⟩
    obtain ⟨k, rfl⟩ : ∃ m, k = m + 1 := ⟨k - 1, by omega⟩
    unfold impl_EqualParties.f spec_EqualParties.f spec_l9Crews.f
    simp only [if_pos c0, if_pos c1, if_neg c2, impl_EqualParties.j0, if_true, Option.bind_some, Bool.false_eq_true, if_false, and_self]
  ·refine ⟨false, fun k hk => ?_⟩
   obtain ⟨k, rfl⟩ : ∃ m, k = m + 1 := ⟨k - 1, by omega⟩
   unfold impl_EqualParties.f spec_EqualParties.f
   simp only [if_pos c0, if_neg c1, impl_EqualParties.j0, if_true, and_self]
 ·refine ⟨false, fun k hk => ?_⟩
  obtain ⟨k, rfl⟩ : ∃ m, k = m + 1 := ⟨k - 1, by omega⟩
  unfold impl_EqualParties.f spec_EqualParties.f
  simp only [if_neg c0, impl_EqualParties.j0, if_true, and_self]
theorem sPages (a0 : Int) (a1 : Int) (l2 : List Int) (a3 : Int) (a4 : Int) (a5 : Int) (l6 : List S140) (a7 : Int) (a8 : Int) (l9 : List S58) (l10 : List Bool) (l11 : List S142) (a12 : Int) (a13 : Int) (a14 : Int) (b0 : Int) (b1 : Int) (m2 : List Int) (b3 : Int) (b4 : Int) (b5 : Int) (m6 : List S140) (b7 : Int) (b8 : Int) (m9 : List S58) (m10 : List Bool) (m11 : List S142) (b12 : Int) (b13 : Int) (b14 : Int) (hn : l11.length ≤ 1048576) (hl : m11.length = l11.length) : ∀ (d k : Nat) (i : Int), 0 ≤ i → (l11.length : Int) - i = d → d < k →
  spec_l33Lists.l1 k i a0 a1 l2 a3 a4 a5 l6 a7 a8 l9 l10 l11 a12 a13 a14 b0 b1 m2 b3 b4 b5 m6 b7 b8 m9 m10 m11 b12 b13 b14 = some (allP (fun i => (!(((rd_T142 l11 i).f0) == ((rd_T142 m11 i).f0)) || (!(((rd_T142 l11 i).f1) == ((rd_T142 m11 i).f1)) || (!(((rd_T142 l11 i).f2) == ((rd_T142 m11 i).f2)) || (!(((rd_T142 l11 i).f3) == ((rd_T142 m11 i).f3))))))) d i) := by
 intro d
 induction d with
 | zero =>
  intro k i h0 hd hk
  obtain ⟨k, rfl⟩ : ∃ m, k = m + 1 := ⟨k - 1, by omega⟩
  have hlt : ¬ i < (l11.length : Int) := by omega
  simp only [spec_l33Lists.l1, if_neg hlt, allP]
 | succ d ih =>
  intro k i h0 hd hk
  obtain ⟨k, rfl⟩ : ∃ m, k = m + 1 := ⟨k - 1, by omega⟩
  have hlt : i < (l11.length : Int) := by omega
  have hlt2 : i < (m11.length : Int) := by omega
  have hi := ih k (i + 1) (by omega) (by omega) (by omega)
  by_cases e : ((!(((rd_T142 l11 i).f0) == ((rd_T142 m11 i).f0)) || (!(((rd_T142 l11 i).f1) == ((rd_T142 m11 i).f1)) || (!(((rd_T142 l11 i).f2) == ((rd_T142 m11 i).f2)) || (!(((rd_T142 l11 i).f3) == ((rd_T142 m11 i).f3))))))) = true
  ·simp only [spec_l33Lists.l1, if_pos hlt, if_pos hlt2, if_pos h0, if_pos e, allP, Bool.false_and]
  ·simp only [spec_l33Lists.l1, if_pos hlt, if_pos hlt2, if_pos h0, if_neg e, allP, wrap_small (n := l11.length) h0 hlt hn]
   exact hi
theorem sDepots (a0 : Int) (a1 : Int) (l2 : List Int) (a3 : Int) (a4 : Int) (a5 : Int) (l6 : List S140) (a7 : Int) (a8 : Int) (l9 : List S58) (l10 : List Bool) (l11 : List S142) (a12 : Int) (a13 : Int) (a14 : Int) (b0 : Int) (b1 : Int) (m2 : List Int) (b3 : Int) (b4 : Int) (b5 : Int) (m6 : List S140) (b7 : Int) (b8 : Int) (m9 : List S58) (m10 : List Bool) (m11 : List S142) (b12 : Int) (b13 : Int) (b14 : Int) (hn : l6.length ≤ 1048576) (hl : m6.length = l6.length) (hn2 : l11.length ≤ 1048576) (hl2 : m11.length = l11.length) : ∀ (d k : Nat) (i : Int), 0 ≤ i → (l6.length : Int) - i = d → d + l11.length + 2 < k →
  spec_l33Lists.l0 k i a0 a1 l2 a3 a4 a5 l6 a7 a8 l9 l10 l11 a12 a13 a14 b0 b1 m2 b3 b4 b5 m6 b7 b8 m9 m10 m11 b12 b13 b14 = some (allP (fun i => (!(((rd_T140 l6 i).f0) == ((rd_T140 m6 i).f0)) || (!(((rd_T140 l6 i).f1) == ((rd_T140 m6 i).f1))))) d i && allP (fun i => (!(((rd_T142 l11 i).f0) == ((rd_T142 m11 i).f0)) || (!(((rd_T142 l11 i).f1) == ((rd_T142 m11 i).f1)) || (!(((rd_T142 l11 i).f2) == ((rd_T142 m11 i).f2)) || (!(((rd_T142 l11 i).f3) == ((rd_T142 m11 i).f3))))))) l11.length 0) := by
 intro d
 induction d with
 | zero =>
  intro k i h0 hd hk
  obtain ⟨k, rfl⟩ : ∃ m, k = m + 1 := ⟨k - 1, by omega⟩
  have hlt : ¬ i < (l6.length : Int) := by omega
  simp only [spec_l33Lists.l0, if_neg hlt, allP, sPages a0 a1 l2 a3 a4 a5 l6 a7 a8 l9 l10 l11 a12 a13 a14 b0 b1 m2 b3 b4 b5 m6 b7 b8 m9 m10 m11 b12 b13 b14 hn2 hl2 l11.length k 0 (by omega) (by omega) (by omega), Bool.true_and]
 | succ d ih =>
  intro k i h0 hd hk
  obtain ⟨k, rfl⟩ : ∃ m, k = m + 1 := ⟨k - 1, by omega⟩
  have hlt : i < (l6.length : Int) := by omega
  have hlt2 : i < (m6.length : Int) := by omega
  have hi := ih k (i + 1) (by omega) (by omega) (by omega)
  by_cases e : ((!(((rd_T140 l6 i).f0) == ((rd_T140 m6 i).f0)) || (!(((rd_T140 l6 i).f1) == ((rd_T140 m6 i).f1))))) = true
  ·simp only [spec_l33Lists.l0, if_pos hlt, if_pos hlt2, if_pos h0, if_pos e, allP, Bool.false_and]
  ·simp only [spec_l33Lists.l0, if_pos hlt, if_pos hlt2, if_pos h0, if_neg e, allP, wrap_small (n := l6.length) h0 hlt hn]
   exact hi
theorem iPages (a0 : Int) (a1 : Int) (l2 : List Int) (a3 : Int) (a4 : Int) (a5 : Int) (l6 : List S140) (a7 : Int) (a8 : Int) (l9 : List S58) (l10 : List Bool) (l11 : List S142) (a12 : Int) (a13 : Int) (a14 : Int) (b0 : Int) (b1 : Int) (m2 : List Int) (b3 : Int) (b4 : Int) (b5 : Int) (m6 : List S140) (b7 : Int) (b8 : Int) (m9 : List S58) (m10 : List Bool) (m11 : List S142) (b12 : Int) (b13 : Int) (b14 : Int) (hn : l11.length ≤ 1048576) (hl : m11.length = l11.length) : ∀ (d k : Nat) (i : Int), 0 ≤ i → (l11.length : Int) - i = d → d < k →
  impl_EqualTreks.l1 k (l11.length : Int) i a0 a1 l2 a3 a4 a5 l6 a7 a8 l9 l10 l11 a12 a13 a14 b0 b1 m2 b3 b4 b5 m6 b7 b8 m9 m10 m11 b12 b13 b14 = some (allP (fun i => (!(((rd_T142 l11 i).f0) == ((rd_T142 m11 i).f0)) || (!(((rd_T142 l11 i).f1) == ((rd_T142 m11 i).f1)) || (!(((rd_T142 l11 i).f2) == ((rd_T142 m11 i).f2)) || (!(((rd_T142 l11 i).f3) == ((rd_T142 m11 i).f3))))))) d i) := by
 intro d
 induction d with
 | zero =>
  intro k i h0 hd hk
  obtain ⟨k, rfl⟩ : ∃ m, k = m + 1 := ⟨k - 1, by omega⟩
  have hlt : ¬ i < (l11.length : Int) := by omega
  simp only [impl_EqualTreks.l1, if_neg hlt, allP]
 | succ d ih =>
  intro k i h0 hd hk
  obtain ⟨k, rfl⟩ : ∃ m, k = m + 1 := ⟨k - 1, by omega⟩
  have hlt : i < (l11.length : Int) := by omega
  have hlt2 : i < (m11.length : Int) := by omega
  have hi := ih k (i + 1) (by omega) (by omega) (by omega)
  by_cases e : ((!(((rd_T142 l11 i).f0) == ((rd_T142 m11 i).f0)) || (!(((rd_T142 l11 i).f1) == ((rd_T142 m11 i).f1)) || (!(((rd_T142 l11 i).f2) == ((rd_T142 m11 i).f2)) || (!(((rd_T142 l11 i).f3) == ((rd_T142 m11 i).f3))))))) = true
  ·simp only [impl_EqualTreks.l1, if_pos hlt, if_pos hlt2, if_pos h0, if_pos e, allP, Bool.false_and]
  ·simp only [impl_EqualTreks.l1, if_pos hlt, if_pos hlt2, if_pos h0, if_neg e, allP, wrap_small (n := l11.length) h0 hlt hn]
   exact hi
theorem iDepots (a0 : Int) (a1 : Int) (l2 : List Int) (a3 : Int) (a4 : Int) (a5 : Int) (l6 : List S140) (a7 : Int) (a8 : Int) (l9 : List S58) (l10 : List Bool) (l11 : List S142) (a12 : Int) (a13 : Int) (a14 : Int) (b0 : Int) (b1 : Int) (m2 : List Int) (b3 : Int) (b4 : Int) (b5 : Int) (m6 : List S140) (b7 : Int) (b8 : Int) (m9 : List S58) (m10 : List Bool) (m11 : List S142) (b12 : Int) (b13 : Int) (b14 : Int) (hn : l6.length ≤ 1048576) (hl : m6.length = l6.length) (hn2 : l11.length ≤ 1048576) (hl2 : m11.length = l11.length) : ∀ (d k : Nat) (i : Int), 0 ≤ i → (l6.length : Int) - i = d → d + l11.length + 2 < k →
  impl_EqualTreks.l0 k (l6.length : Int) i a0 a1 l2 a3 a4 a5 l6 a7 a8 l9 l10 l11 a12 a13 a14 b0 b1 m2 b3 b4 b5 m6 b7 b8 m9 m10 m11 b12 b13 b14 = some (allP (fun i => (!(((rd_T140 l6 i).f0) == ((rd_T140 m6 i).f0)) || (!(((rd_T140 l6 i).f1) == ((rd_T140 m6 i).f1))))) d i && allP (fun i => (!(((rd_T142 l11 i).f0) == ((rd_T142 m11 i).f0)) || (!(((rd_T142 l11 i).f1) == ((rd_T142 m11 i).f1)) || (!(((rd_T142 l11 i).f2) == ((rd_T142 m11 i).f2)) || (!(((rd_T142 l11 i).f3) == ((rd_T142 m11 i).f3))))))) l11.length 0) := by
 intro d
 induction d with
 | zero =>
  intro k i h0 hd hk
  obtain ⟨k, rfl⟩ : ∃ m, k = m + 1 := ⟨k - 1, by omega⟩
  have hlt : ¬ i < (l6.length : Int) := by omega
  simp only [impl_EqualTreks.l0, if_neg hlt, allP, iPages a0 a1 l2 a3 a4 a5 l6 a7 a8 l9 l10 l11 a12 a13 a14 b0 b1 m2 b3 b4 b5 m6 b7 b8 m9 m10 m11 b12 b13 b14 hn2 hl2 l11.length k 0 (by omega) (by omega) (by omega), Bool.true_and]
 | succ d ih =>
  intro k i h0 hd hk
  obtain ⟨k, rfl⟩ : ∃ m, k = m + 1 := ⟨k - 1, by omega⟩
  have hlt : i < (l6.length : Int) := by omega
  have hlt2 : i < (m6.length : Int) := by omega
  have hi := ih k (i + 1) (by omega) (by omega) (by omega)
  by_cases e : ((!(((rd_T140 l6 i).f0) == ((rd_T140 m6 i).f0)) || (!(((rd_T140 l6 i).f1) == ((rd_T140 m6 i).f1))))) = true
  ·simp only [impl_EqualTreks.l0, if_pos hlt, if_pos hlt2, if_pos h0, if_pos e, allP, Bool.false_and]
  ·simp only [impl_EqualTreks.l0, if_pos hlt, if_pos hlt2, if_pos h0, if_neg e, allP, wrap_small (n := l6.length) h0 hlt hn]
   exact hi
theorem bind_id (o : Option Bool) : (o.bind fun t => some t) = o := by cases o <;> rfl
theorem iTail (a0 : Int) (a1 : Int) (l2 : List Int) (a3 : Int) (a4 : Int) (a5 : Int) (l6 : List S140) (a7 : Int) (a8 : Int) (l9 : List S58) (l10 : List Bool) (l11 : List S142) (a12 : Int) (a13 : Int) (a14 : Int) (b0 : Int) (b1 : Int) (m2 : List Int) (b3 : Int) (b4 : Int) (b5 : Int) (m6 : List S140) (b7 : Int) (b8 : Int) (m9 : List S58) (m10 : List Bool) (m11 : List S142) (b12 : Int) (b13 : Int) (b14 : Int) (hl6 : l6.length ≤ 1048576) (hl11 : l11.length ≤ 1048576) : ∃ r, ∀ k, l6.length + l11.length + 10 < k → impl_EqualTreks.j0 k false a0 a1 l2 a3 a4 a5 l6 a7 a8 l9 l10 l11 a12 a13 a14 b0 b1 m2 b3 b4 b5 m6 b7 b8 m9 m10 m11 b12 b13 b14 = some r ∧ (if a12 = b12 then (if a13 = b13 then (if a14 = b14 then spec_l33Lists.f k a0 a1 l2 a3 a4 a5 l6 a7 a8 l9 l10 l11 a12 a13 a14 b0 b1 m2 b3 b4 b5 m6 b7 b8 m9 m10 m11 b12 b13 b14 else some false) else some false) else some false) = some r := by
 by_cases c0 : a12 = b12
 ·by_cases c1 : a13 = b13
  ·by_cases c2 : a14 = b14
   ·by_cases c3 : (l6.length : Int) = (m6.length : Int)
    ·by_cases c4 : (l11.length : Int) = (m11.length : Int)
     ·refine ⟨allP (fun i => (!(((rd_T140 l6 i).f0) == ((rd_T140 m6 i).f0)) || (!(((rd_T140 l6 i).f1) == ((rd_T140 m6 i).f1))))) l6.length 0 && allP (fun i => (!(((rd_T142 l11 i).f0) == ((rd_T142 m11 i).f0)) || (!(((rd_T142 l11 i).f1) == ((rd_T142 m11 i).f1)) || (!(((rd_T142 l11 i).f2) == ((rd_T142 m11 i).f2)) || (!(((rd_T142 l11 i).f3) == ((rd_T142 m11 i).f3))))))) l11.length 0, fun k hk => ?_⟩
      obtain ⟨k, rfl⟩ : ∃ m, k = m + 2 := ⟨k - 2, by omega⟩
      have hb : ((l11.length : Int) != (m11.length : Int)) = false := by rw [c4]; exact bne_self_eq_false _
      have q1 := iDepots a0 a1 l2 a3 a4 a5 l6 a7 a8 l9 l10 l11 a12 a13 a14 b0 b1 m2 b3 b4 b5 m6 b7 b8 m9 m10 m11 b12 b13 b14 hl6 (by omega) hl11 (by omega) l6.length k 0 (by omega) (by omega) (by omega)
      have q2 := sDepots a0 a1 l2 a3 a4 a5 l6 a7 a8 l9 l10 l11 a12 a13 a14 b0 b1 m2 b3 b4 b5 m6 b7 b8 m9 m10 m11 b12 b13 b14 hl6 (by omega) hl11 (by omega) l6.length (k + 1) 0 (by omega) (by omega) (by omega)
      unfold spec_l33Lists.f
      simp only [if_pos c0, if_pos c1, if_pos c2, if_pos c3, hb, impl_EqualTreks.j0, impl_EqualTreks.j1, spec_l33Lists.j0, Bool.false_eq_true, if_false, q1, q2, and_self]
     ·refine ⟨false, fun k hk => ?_⟩
      obtain ⟨k, rfl⟩ : ∃ m, k = m + 2 := ⟨k - 2, by omega⟩
      have hb : ((l11.length : Int) != (m11.length : Int)) = true := by rw [bne_iff_ne]; exact c4
      unfold spec_l33Lists.f
      simp only [if_pos c0, if_pos c1, if_pos c2, if_pos c3, hb, impl_EqualTreks.j0, impl_EqualTreks.j1, spec_l33Lists.j0, Bool.false_eq_true, if_false, if_true, and_self]
    ·refine ⟨false, fun k hk => ?_⟩
     obtain ⟨k, rfl⟩ : ∃ m, k = m + 2 := ⟨k - 2, by omega⟩
     unfold spec_l33Lists.f
     simp only [if_pos c0, if_pos c1, if_pos c2, if_neg c3, impl_EqualTreks.j0, impl_EqualTreks.j1, spec_l33Lists.j0, Bool.false_eq_true, if_false, if_true, and_self]
   ·refine ⟨false, fun k hk => ?_⟩
    obtain ⟨k, rfl⟩ : ∃ m, k = m + 2 := ⟨k - 2, by omega⟩
    simp only [if_pos c0, if_pos c1, if_neg c2, impl_EqualTreks.j0, impl_EqualTreks.j1, Bool.false_eq_true, if_false, if_true, and_self]
  ·refine ⟨false, fun k hk => ?_⟩
   obtain ⟨k, rfl⟩ : ∃ m, k = m + 2 := ⟨k - 2, by omega⟩
   simp only [if_pos c0, if_neg c1, impl_EqualTreks.j0, impl_EqualTreks.j1, Bool.false_eq_true, if_false, if_true, and_self]
 ·refine ⟨false, fun k hk => ?_⟩
  obtain ⟨k, rfl⟩ : ∃ m, k = m + 2 := ⟨k - 2, by omega⟩
  simp only [if_neg c0, impl_EqualTreks.j0, impl_EqualTreks.j1, Bool.false_eq_true, if_false, if_true, and_self]
theorem iStop (a0 : Int) (a1 : Int) (l2 : List Int) (a3 : Int) (a4 : Int) (a5 : Int) (l6 : List S140) (a7 : Int) (a8 : Int) (l9 : List S58) (l10 : List Bool) (l11 : List S142) (a12 : Int) (a13 : Int) (a14 : Int) (b0 : Int) (b1 : Int) (m2 : List Int) (b3 : Int) (b4 : Int) (b5 : Int) (m6 : List S140) (b7 : Int) (b8 : Int) (m9 : List S58) (m10 : List Bool) (m11 : List S142) (b12 : Int) (b13 : Int) (b14 : Int) (k : Nat) : impl_EqualTreks.j0 (k + 1) true a0 a1 l2 a3 a4 a5 l6 a7 a8 l9 l10 l11 a12 a13 a14 b0 b1 m2 b3 b4 b5 m6 b7 b8 m9 m10 m11 b12 b13 b14 = some false := by simp only [impl_EqualTreks.j0, if_true]
theorem eqTreks_ev (a0 : Int) (a1 : Int) (l2 : List Int) (a3 : Int) (a4 : Int) (a5 : Int) (l6 : List S140) (a7 : Int) (a8 : Int) (l9 : List S58) (l10 : List Bool) (l11 : List S142) (a12 : Int) (a13 : Int) (a14 : Int) (b0 : Int) (b1 : Int) (m2 : List Int) (b3 : Int) (b4 : Int) (b5 : Int) (m6 : List S140) (b7 : Int) (b8 : Int) (m9 : List S58) (m10 : List Bool) (m11 : List S142) (b12 : Int) (b13 : Int) (b14 : Int) (hl2 : l2.length ≤ 1048576) (hl6 : l6.length ≤ 1048576) (hl9 : l9.length ≤ 1048576) (hl10 : l10.length ≤ 1048576) (hl11 : l11.length ≤ 1048576) : ∃ r, ∀ k, l2.length + l6.length + l9.length + l10.length + l11.length + 20 < k → impl_EqualTreks.f k a0 a1 l2 a3 a4 a5 l6 a7 a8 l9 l10 l11 a12 a13 a14 b0 b1 m2 b3 b4 b5 m6 b7 b8 m9 m10 m11 b12 b13 b14 = some r ∧ spec_EqualTreks.f k a0 a1 l2 a3 a4 a5 l6 a7 a8 l9 l10 l11 a12 a13 a14 b0 b1 m2 b3 b4 b5 m6 b7 b8 m9 m10 m11 b12 b13 b14 = some r := by
 obtain ⟨rp, hp⟩ := eqParties_ev a7 a8 l9 l10 b7 b8 m9 m10 hl9 hl10
 obtain ⟨rt, ht⟩ := iTail a0 a1 l2 a3 a4 a5 l6 a7 a8 l9 l10 l11 a12 a13 a14 b0 b1 m2 b3 b4 b5 m6 b7 b8 m9 m10 m11 b12 b13 b14 hl6 hl11
 by_cases c0 : a0 = b0
 ·by_cases c1 : a1 = b1
  ·by_cases c2 : l2 = m2
   ·subst c2
    by_cases c3 : a3 = b3
    ·by_cases c4 : a4 = b4 ∧ a5 = b5
     ·have e1 : ¬ ((!(a4 == b4) || (!(a5 == b5))) = true) := by simp [c4.1, c4.2]
      have e2 : (a4 == b4 && (a5 == b5)) = true := by simp [c4.1, c4.2]
      refine ⟨if rp = true then rt else false, fun k hk => ?_⟩
      obtain ⟨k, rfl⟩ : ∃ m, k = m + 1 := ⟨k - 1, by omega⟩
      have i1 := equalInts_ev l2 l2 hl2 (k + 1) (by omega); rw [decide_eq_true (rfl : l2 = l2)] at i1
      obtain ⟨p1, p2⟩ := hp (k + 1) (by omega)
      obtain ⟨t1, t2⟩ := ht (k + 1) (by omega)
      unfold impl_EqualTreks.f spec_EqualTreks.f
      simp only [if_pos c0, if_pos c1, i1.1, i1.2, Option.bind_some, if_true, if_pos c3, if_neg e1, if_pos e2, p1, p2]
      cases rp with
      | true =>
       simp only [Bool.not_true, if_true, t1, true_and]
       rw [← t2]
       repeat' split
       all_goals first | rfl | exact bind_id _ | simp_all
      | false => simp only [Bool.not_false, iStop, Bool.false_eq_true, if_false, and_self]
     ·have e1 : (!(a4 == b4) || (!(a5 == b5))) = true := by
       rcases Decidable.em (a4 = b4) with h | h
       ·have : a5 ≠ b5 := fun h2 => c4 ⟨h, h2⟩
        simp [this]
       ·simp [h]
      have e2 : ¬ ((a4 == b4 && (a5 == b5)) = true) := by
       intro h; simp at h; exact c4 h
      refine ⟨false, fun k hk => ?_⟩
      obtain ⟨k, rfl⟩ : ∃ m, k = m + 1 := ⟨k - 1, by omega⟩
      have i1 := equalInts_ev l2 l2 hl2 (k + 1) (by omega); rw [decide_eq_true (rfl : l2 = l2)] at i1
      unfold impl_EqualTreks.f spec_EqualTreks.f
      simp only [if_pos c0, if_pos c1, i1.1, i1.2, Option.bind_some, if_true, if_pos c3, if_pos e1, if_neg e2, iStop, and_self]
    ·refine ⟨false, fun k hk => ?_⟩
     obtain ⟨k, rfl⟩ : ∃ m, k = m + 1 := ⟨k - 1, by omega⟩
     have i1 := equalInts_ev l2 l2 hl2 (k + 1) (by omega); rw [decide_eq_true (rfl : l2 = l2)] at i1
     unfold impl_EqualTreks.f spec_EqualTreks.f
     simp only [if_pos c0, if_pos c1, i1.1, i1.2, Option.bind_some, if_true, if_neg c3, iStop, and_self]
   ·refine ⟨false, fun k hk => ?_⟩
    obtain ⟨k, rfl⟩ : ∃ m, k = m + 1 := ⟨k - 1, by omega⟩
    have i1 := equalInts_ev l2 m2 hl2 (k + 1) (by omega)
    unfold impl_EqualTreks.f spec_EqualTreks.f
    simp only [if_pos c0, if_pos c1, i1.1, i1.2, Option.bind_some, c2, decide_false, Bool.false_eq_true, if_false, iStop, and_self]
  ·refine ⟨false, fun k hk => ?_⟩
   obtain ⟨k, rfl⟩ : ∃ m, k = m + 1 := ⟨k - 1, by omega⟩
   unfold impl_EqualTreks.f spec_EqualTreks.f
   simp only [if_pos c0, if_neg c1, iStop, and_self]
 ·refine ⟨false, fun k hk => ?_⟩
  obtain ⟨k, rfl⟩ : ∃ m, k = m + 1 := ⟨k - 1, by omega⟩
  unfold impl_EqualTreks.f spec_EqualTreks.f
  simp only [if_neg c0, iStop, and_self]
theorem FnExactEqualTreks : laws_FnExactEqualTreks.Stmt := by
 intro y x hy hx
 obtain ⟨h0, _, _, h3, h4, h5, _⟩ := hy
 obtain ⟨g0, _, _, g3, g4, g5, _⟩ := hx
 obtain ⟨r, hr, hr2⟩ := szTrek_ev y.f0.f0 y.f0.f1 y.f0.f2 y.f1 y.f2.f0 y.f2.f1 y.f3 y.f4.f0 y.f4.f1 y.f4.f2 y.f4.f3 y.f5 y.f6 y.f7 y.f8 h0.2.2.1 h3.1 h4.2.2.1.1 h4.2.2.2.1 h5.1 1048576 (by omega) (by omega)
 by_cases hneg : r < 0
 ·exact ⟨0, by unfold laws_FnExactEqualTreks.f; rw [hr]; simp only [Option.bind_some]; rw [if_pos hneg]⟩
 obtain ⟨r0, r1, q2, q6, q9, q10, q11⟩ := hr2.resolve_left hneg
 obtain ⟨s, hs, hs2⟩ := szTrek_ev x.f0.f0 x.f0.f1 x.f0.f2 x.f1 x.f2.f0 x.f2.f1 x.f3 x.f4.f0 x.f4.f1 x.f4.f2 x.f4.f3 x.f5 x.f6 x.f7 x.f8 g0.2.2.1 g3.1 g4.2.2.1.1 g4.2.2.2.1 g5.1 r (by omega) (by omega)
 by_cases hneg2 : s < 0
 ·exact ⟨0, by unfold laws_FnExactEqualTreks.f; rw [hr]; simp only [Option.bind_some]; rw [if_neg hneg, hs]; simp only [Option.bind_some]; rw [if_pos hneg2]⟩
 obtain ⟨_, _, p2, p6, p9, p10, p11⟩ := hs2.resolve_left hneg2
 obtain ⟨k, hk⟩ : ∃ k, k = (y.f0.f2.length + y.f3.length + y.f4.f2.length + y.f4.f3.length + y.f5.length) + (x.f0.f2.length + x.f3.length + x.f4.f2.length + x.f4.f3.length + x.f5.length) + 30 := ⟨_, rfl⟩
 have ht := toTrek_ev y.f0.f0 y.f0.f1 y.f0.f2 y.f1 y.f2.f0 y.f2.f1 y.f3 y.f4.f0 y.f4.f1 y.f4.f2 y.f4.f3 y.f5 y.f6 y.f7 y.f8 q2 q6 q9 q10 q11 k (by omega)
 have ht2 := toTrek_ev x.f0.f0 x.f0.f1 x.f0.f2 x.f1 x.f2.f0 x.f2.f1 x.f3 x.f4.f0 x.f4.f1 x.f4.f2 x.f4.f3 x.f5 x.f6 x.f7 x.f8 p2 p6 p9 p10 p11 k (by omega)
 have he := eqTrek_ev y.f0.f0 y.f0.f1 y.f0.f2 y.f1 y.f2.f0 y.f2.f1 (y.f3.map cDepot) y.f4.f0 y.f4.f1 (y.f4.f2.map cMember) y.f4.f3 (y.f5.map cPage) y.f6 y.f7 y.f8 q2 (by simpa using q6) (by simpa using q9) q10 (by simpa using q11) k (by simp; omega)
 have he2 := eqTrek_ev x.f0.f0 x.f0.f1 x.f0.f2 x.f1 x.f2.f0 x.f2.f1 (x.f3.map cDepot) x.f4.f0 x.f4.f1 (x.f4.f2.map cMember) x.f4.f3 (x.f5.map cPage) x.f6 x.f7 x.f8 p2 (by simpa using p6) (by simpa using p9) p10 (by simpa using p11) k (by simp; omega)
 obtain ⟨v, hv⟩ := eqTreks_ev y.f0.f0 y.f0.f1 y.f0.f2 y.f1 y.f2.f0 y.f2.f1 (y.f3.map cDepot) y.f4.f0 y.f4.f1 (y.f4.f2.map cMember) y.f4.f3 (y.f5.map cPage) y.f6 y.f7 y.f8 x.f0.f0 x.f0.f1 x.f0.f2 x.f1 x.f2.f0 x.f2.f1 (x.f3.map cDepot) x.f4.f0 x.f4.f1 (x.f4.f2.map cMember) x.f4.f3 (x.f5.map cPage) x.f6 x.f7 x.f8 q2 (by simpa using q6) (by simpa using q9) q10 (by simpa using q11)
 obtain ⟨v1, v2⟩ := hv k (by simp; omega)
 refine ⟨k, ?_⟩
 unfold laws_FnExactEqualTreks.f
 rw [hr]; simp only [Option.bind_some]; rw [if_neg hneg, hs]; simp only [Option.bind_some]; rw [if_neg hneg2]
 simp only [ht, ht2, Option.bind_some, v1, v2, bne_self_eq_false, Bool.false_eq_true, if_false, he, he2, if_true]

end Go.Proofs.Ytegbddilobpeaaa.Pure
