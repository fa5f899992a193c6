/- The program's PickUp returns what the reference's PickUp returns, for every party whose crew and list of those lost are together no longer than 2^20 and every number, leaves the party as it was, and hands out a party that shares no memory with it. No further condition. -/
import Derived.Test.YtegbddilobpeaaaSFnExactPickUp
namespace Go.Proofs.Ytegbddilobpeaaa.Pure
open Go.RowKit Go.Proofs.Ytegbddilobpeaaa.Q Go.Proofs.YtegbddilobpeaaaW.PrintWords Go.Proofs.YtegbddilobpeaaaW.PrintLast Go.Proofs.YtegbddilobpeaaaW.PrintMore
set_option linter.unusedVariables false
set_option linter.unusedSimpArgs false

theorem ext_getD {α : Type} {d : α} {a b : List α} (h : a.length = b.length) (hj : ∀ j, j < a.length → a.getD j d = b.getD j d) : a = b := by
  apply List.ext_getElem h
  intro j h1 h2
  have := hj j h1
  simpa [List.getD_eq_getElem?_getD, List.getElem?_eq_getElem h1, List.getElem?_eq_getElem h2] using this

theorem getD_set {α : Type} {d : α} (a : List α) (i j : Nat) (v : α) (h : i < a.length) : (a.set i v).getD j d = if i = j then v else a.getD j d := by
  simp only [List.getD_eq_getElem?_getD, List.getElem?_set]
  by_cases e : i = j
  · subst e; simp [h]
  · simp [e]

theorem wrap_small {i : Int} {n : Nat} (h0 : 0 ≤ i) (h : i < (n : Int)) (hn : n ≤ 1048576) : wrap64 (i + 1) = i + 1 := by
  unfold wrap64; omega

theorem drop_step {α : Type} (d : α) (l : List α) (i : Int) (h0 : 0 ≤ i) (h : i < (l.length : Int)) : l.drop i.toNat = l.getD i.toNat d :: l.drop (i + 1).toNat := by
  have h1 : i.toNat < l.length := by omega
  rw [List.drop_eq_getElem_cons h1, show (i + 1).toNat = i.toNat + 1 by omega]
  congr 1
  simp [List.getD_eq_getElem?_getD, List.getElem?_eq_getElem h1]

def cMember (x : S147) : S58 := ⟨x.f0, x.f1, x.f2, x.f3⟩
theorem toMember_ev (x : S147) : laws_toMember.f x.f0 x.f1 x.f2 x.f3 = some (x.f0, x.f1, x.f2, x.f3) := rfl
theorem toMemberS_loop (xs : List S147) (hn : xs.length ≤ 1048576) : ∀ (d k : Nat) (acc : List S58) (i : Int), acc.length = xs.length → 0 ≤ i → (xs.length : Int) - i = d → d < k →
    (∀ j : Nat, (j : Int) < i → acc.getD j z58 = (xs.map cMember).getD j z58) → laws_toMemberS.l0 k xs acc i = some (xs.map cMember) := by
  intro d
  induction d with
  | zero =>
    intro k acc i hl h0 hd hk hj
    obtain ⟨k, rfl⟩ : ∃ m, k = m + 1 := ⟨k - 1, by omega⟩
    simp only [laws_toMemberS.l0]
    rw [if_neg (by omega)]
    exact congrArg some (ext_getD (by rw [List.length_map]; exact hl) (fun j h => hj j (by omega)))
  | succ d ih =>
    intro k acc i hl h0 hd hk hj
    obtain ⟨k, rfl⟩ : ∃ m, k = m + 1 := ⟨k - 1, by omega⟩
    simp only [laws_toMemberS.l0, toMember_ev, Option.bind_some]
    rw [if_pos (by omega), if_pos h0, if_pos (by omega), wrap_small (n := xs.length) h0 (by omega) hn]
    refine ih k _ _ (by simpa using hl) (by omega) (by omega) (by omega) ?_
    intro j hj'
    rw [getD_set _ _ _ _ (by omega)]
    by_cases e : i.toNat = j
    · rw [if_pos e]
      have h1 : j < xs.length := by omega
      unfold rd_T147
      rw [e]
      simp [List.getD_eq_getElem?_getD, List.getElem?_eq_getElem h1, cMember]
    · rw [if_neg e]; exact hj j (by omega)
theorem toMemberS_ev (xs : List S147) (hn : xs.length ≤ 1048576) (k : Nat) (hk : xs.length < k) : laws_toMemberS.f k xs = some (xs.map cMember) := by
  unfold laws_toMemberS.f
  rw [if_pos (by omega), if_pos (by omega)]
  exact toMemberS_loop xs hn xs.length k _ 0 (by simp) (by omega) (by omega) hk (fun j hj => by omega)

theorem eqMember_ev (x : S58) : laws_eqMember.f x.f0 x.f1 x.f2 x.f3 x.f0 x.f1 x.f2 x.f3 = some true := by simp [laws_eqMember.f]
theorem eqMemberS_loop (xs : List S58) (hn : xs.length ≤ 1048576) : ∀ (d k : Nat) (i : Int), 0 ≤ i → (xs.length : Int) - i = d → d < k → laws_eqMemberS.l0 k xs xs i = some true := by
  intro d
  induction d with
  | zero =>
    intro k i h0 hd hk
    obtain ⟨k, rfl⟩ : ∃ m, k = m + 1 := ⟨k - 1, by omega⟩
    simp only [laws_eqMemberS.l0]
    rw [if_neg (by omega)]
  | succ d ih =>
    intro k i h0 hd hk
    obtain ⟨k, rfl⟩ : ∃ m, k = m + 1 := ⟨k - 1, by omega⟩
    simp only [laws_eqMemberS.l0, eqMember_ev, Option.bind_some, if_true]
    rw [if_pos (by omega), if_pos h0, if_pos (by omega), wrap_small (n := xs.length) h0 (by omega) hn]
    exact ih k _ (by omega) (by omega) (by omega)
theorem eqMemberS_ev (xs : List S58) (hn : xs.length ≤ 1048576) (k : Nat) (hk : xs.length < k) : laws_eqMemberS.f k xs xs = some true := by
  unfold laws_eqMemberS.f
  rw [if_pos rfl]
  exact eqMemberS_loop xs hn xs.length k 0 (by omega) (by omega) hk

theorem toBoolS_loop (xs : List Bool) (hn : xs.length ≤ 1048576) : ∀ (d k : Nat) (acc : List Bool) (i : Int), acc.length = xs.length → 0 ≤ i → (xs.length : Int) - i = d → d < k →
    (∀ j : Nat, (j : Int) < i → acc.getD j false = xs.getD j false) → laws_toBoolS.l0 k xs acc i = some xs := by
  intro d
  induction d with
  | zero =>
    intro k acc i hl h0 hd hk hj
    obtain ⟨k, rfl⟩ : ∃ m, k = m + 1 := ⟨k - 1, by omega⟩
    simp only [laws_toBoolS.l0]
    rw [if_neg (by omega)]
    exact congrArg some (ext_getD hl (fun j h => hj j (by omega)))
  | succ d ih =>
    intro k acc i hl h0 hd hk hj
    obtain ⟨k, rfl⟩ : ∃ m, k = m + 1 := ⟨k - 1, by omega⟩
    simp only [laws_toBoolS.l0]
    rw [if_pos (by omega), if_pos h0, if_pos (by omega), wrap_small (n := xs.length) h0 (by omega) hn]
    refine ih k _ _ (by simpa using hl) (by omega) (by omega) (by omega) ?_
    intro j hj'
    rw [getD_set _ _ _ _ (by omega)]
    by_cases e : i.toNat = j
    · rw [if_pos e]; unfold rdOf; rw [e]
    · rw [if_neg e]; exact hj j (by omega)

theorem toBoolS_ev (xs : List Bool) (hn : xs.length ≤ 1048576) (k : Nat) (hk : xs.length < k) : laws_toBoolS.f k xs = some xs := by
  unfold laws_toBoolS.f
  rw [if_pos (by omega), if_pos (by omega)]
  exact toBoolS_loop xs hn xs.length k _ 0 (by simp) (by omega) (by omega) hk (fun j hj => by omega)

theorem eqBoolS_loop (xs : List Bool) (hn : xs.length ≤ 1048576) : ∀ (d k : Nat) (i : Int), 0 ≤ i → (xs.length : Int) - i = d → d < k → laws_eqBoolS.l0 k xs xs i = some true := by
  intro d
  induction d with
  | zero =>
    intro k i h0 hd hk
    obtain ⟨k, rfl⟩ : ∃ m, k = m + 1 := ⟨k - 1, by omega⟩
    simp only [laws_eqBoolS.l0]
    rw [if_neg (by omega)]
  | succ d ih =>
    intro k i h0 hd hk
    obtain ⟨k, rfl⟩ : ∃ m, k = m + 1 := ⟨k - 1, by omega⟩
    simp only [laws_eqBoolS.l0]
    rw [if_pos (by omega), if_pos h0, if_pos (by omega), if_neg (by simp), wrap_small (n := xs.length) h0 (by omega) hn]
    exact ih k _ (by omega) (by omega) (by omega)

theorem eqBoolS_ev (xs : List Bool) (hn : xs.length ≤ 1048576) (k : Nat) (hk : xs.length < k) : laws_eqBoolS.f k xs xs = some true := by
  unfold laws_eqBoolS.f
  rw [if_pos rfl]
  exact eqBoolS_loop xs hn xs.length k 0 (by omega) (by omega) hk

theorem l1In_eq (a b c : Int) : spec_l1In.f a b c = some (decide (b ≤ a ∧ a ≤ c)) := by
  unfold spec_l1In.f
  by_cases h : a ≥ b
  · rw [if_pos h]; congr 1; have : b ≤ a := h; simp [this]
  · rw [if_neg h]; have : ¬ b ≤ a := h; simp [this]
theorem inRange_eq (a b c : Int) : impl_InRange.f a b c = some (decide (b ≤ a ∧ a ≤ c)) := by
  unfold impl_InRange.f
  by_cases h : b ≤ a
  · rw [if_pos h]; simp [h]
  · rw [if_neg h]; simp [h]

def fitM (m : S58) : Prop := 1 ≤ m.f0 ∧ m.f0 ≤ 99 ∧ 0 ≤ m.f1 ∧ m.f1 ≤ 100 ∧ 1 ≤ m.f2 ∧ m.f2 ≤ 10
theorem areCrew_loop (xs : List S58) (hn : xs.length ≤ 1048576) : ∀ (d : Nat) (i : Int), 0 ≤ i → (xs.length : Int) - i = d →
    ∃ b, (∀ k, d < k → impl_AreCrew.l0 k xs xs (xs.length : Int) i = some b ∧ spec_AreCrew.l0 k xs i = some b) ∧ (b = true → (1 ≤ xs.length ∧ xs.length ≤ 8) ∧ ∀ j : Int, i ≤ j → j < (xs.length : Int) → fitM (rd_T58 xs j)) := by
  intro d
  induction d with
  | zero =>
    intro i h0 hd
    have hlt : ¬ i < (xs.length : Int) := by omega
    refine ⟨decide (1 ≤ (xs.length : Int) ∧ (xs.length : Int) ≤ 8), fun k hk => ?_, fun hb => ?_⟩
    · obtain ⟨k, rfl⟩ : ∃ m, k = m + 1 := ⟨k - 1, by omega⟩
      simp only [impl_AreCrew.l0, spec_AreCrew.l0, if_neg hlt, l1In_eq, inRange_eq, Option.bind_some, and_self]
    · have := of_decide_eq_true hb
      exact ⟨by omega, fun j h1 h2 => by omega⟩
  | succ d ih =>
    intro i h0 hd
    have hlt : i < (xs.length : Int) := by omega
    obtain ⟨b, hb, hp⟩ := ih (i + 1) (by omega) (by omega)
    have hw : wrap64 (i - 1) = i - 1 := by unfold wrap64; omega
    by_cases ok : (1 ≤ (rd_T58 xs i).f0 ∧ (rd_T58 xs i).f0 ≤ 99 ∧ 0 ≤ (rd_T58 xs i).f1 ∧ (rd_T58 xs i).f1 ≤ 100 ∧ 1 ≤ (rd_T58 xs i).f2 ∧ (rd_T58 xs i).f2 ≤ 10) ∧ (i > 0 → (rd_T58 xs (i - 1)).f0 < (rd_T58 xs i).f0)
    · refine ⟨b, fun k hk => ?_, fun e => ⟨(hp e).1, fun j h1 h2 => ?_⟩⟩
      · obtain ⟨k, rfl⟩ : ∃ m, k = m + 1 := ⟨k - 1, by omega⟩
        obtain ⟨b1, b2⟩ := hb k (by omega)
        have e1 : 1 ≤ (rd_T58 xs i).f0 ∧ (rd_T58 xs i).f0 ≤ 99 := ⟨ok.1.1, ok.1.2.1⟩
        have e2 : 0 ≤ (rd_T58 xs i).f1 ∧ (rd_T58 xs i).f1 ≤ 100 := ⟨ok.1.2.2.1, ok.1.2.2.2.1⟩
        have e3 : 1 ≤ (rd_T58 xs i).f2 ∧ (rd_T58 xs i).f2 ≤ 10 := ok.1.2.2.2.2
        simp only [impl_AreCrew.l0, spec_AreCrew.l0, if_pos hlt, if_pos h0, l1In_eq, inRange_eq, Option.bind_some, decide_eq_true_eq, if_pos e1, if_pos e2, if_pos e3, hw, wrap_small (n := xs.length) h0 hlt hn]
        by_cases hi : i > 0
        · have h1 : 0 ≤ i - 1 := by omega
          have h2 : i - 1 < (xs.length : Int) := by omega
          have h3 := ok.2 hi
          have h4 : ¬ (rd_T58 xs i).f0 ≤ (rd_T58 xs (i - 1)).f0 := by omega
          have h5 : ¬ (rd_T58 xs (i - 1)).f0 ≥ (rd_T58 xs i).f0 := by omega
          simp only [if_pos hi, if_pos h1, if_pos h2, if_neg h4, if_neg h5]
          exact ⟨b1, b2⟩
        · simp only [if_neg hi]
          exact ⟨b1, b2⟩
      · by_cases e2 : j = i
        · subst e2; exact ok.1
        · exact (hp e).2 j (by omega) h2
    · refine ⟨false, fun k hk => ?_, fun e => by cases e⟩
      obtain ⟨k, rfl⟩ : ∃ m, k = m + 1 := ⟨k - 1, by omega⟩
      simp only [impl_AreCrew.l0, spec_AreCrew.l0, if_pos hlt, if_pos h0, l1In_eq, inRange_eq, Option.bind_some, decide_eq_true_eq, hw]
      constructor
      · repeat' split
        all_goals first | rfl | (exfalso; omega)
      · repeat' split
        all_goals first | rfl | (exfalso; omega)
theorem areCrew_ev (xs : List S58) (hn : xs.length ≤ 1048576) : ∃ b, (∀ k, xs.length < k → impl_AreCrew.f k xs = some b ∧ spec_AreCrew.f k xs = some b) ∧ (b = true → (1 ≤ xs.length ∧ xs.length ≤ 8) ∧ ∀ j : Int, 0 ≤ j → j < (xs.length : Int) → fitM (rd_T58 xs j)) := by
  obtain ⟨b, h, hp⟩ := areCrew_loop xs hn xs.length 0 (by omega) (by omega)
  exact ⟨b, h, hp⟩

theorem capOf2_loop (xs : List S58) (hn : xs.length ≤ 1048576) (h8 : xs.length ≤ 8) (hf : ∀ j : Int, 0 ≤ j → j < (xs.length : Int) → fitM (rd_T58 xs j)) (hc : ∀ k, xs.length < k → spec_AreCrew.f k xs = some true) : ∀ (d : Nat) (i a : Int), 0 ≤ i → (xs.length : Int) - i = d → 0 ≤ a → a ≤ 100 * i →
    ∃ c, (0 ≤ c ∧ c ≤ 800) ∧ ∀ k, xs.length + 2 * d + 2 < k → impl_CapOf.l0 k a xs (xs.length : Int) i = some c ∧ spec_CapOf.l0 k xs a i = some c := by
  intro d
  induction d with
  | zero =>
    intro i a h0 hd ha ha2
    have hlt : ¬ i < (xs.length : Int) := by omega
    refine ⟨a, ⟨ha, by omega⟩, fun k hk => ?_⟩
    obtain ⟨k, rfl⟩ : ∃ m, k = m + 2 := ⟨k - 2, by omega⟩
    simp only [impl_CapOf.l0, spec_CapOf.l0, spec_CapOf.j1, if_neg hlt, Bool.false_eq_true, if_false, and_self]
  | succ d ih =>
    intro i a h0 hd ha ha2
    have hm := hf i h0 (by omega)
    unfold fitM at hm
    have hwa : wrap64 (a + (rd_T58 xs i).f1) = a + (rd_T58 xs i).f1 := by unfold wrap64; omega
    have hlt : i < (xs.length : Int) := by omega
    by_cases hf : (rd_T58 xs i).f3 = true
    · obtain ⟨c, hcb, hk2⟩ := ih (i + 1) a (by omega) (by omega) ha (by omega)
      refine ⟨c, hcb, fun k hk => ?_⟩
      obtain ⟨k, rfl⟩ : ∃ m, k = m + 2 := ⟨k - 2, by omega⟩
      have h1 := (hk2 (k + 1) (by omega)).1
      have h2 := (hk2 k (by omega)).2
      simp only [impl_CapOf.l0, spec_CapOf.l0, spec_CapOf.j1, if_pos hlt, if_pos h0, if_pos hf, hc (k + 1) (by omega), Option.bind_some, if_true, wrap_small (n := xs.length) h0 hlt hn] at h1 h2 ⊢
      exact ⟨h1, h2⟩
    · obtain ⟨c, hcb, hk2⟩ := ih (i + 1) (wrap64 (a + (rd_T58 xs i).f1)) (by omega) (by omega) (by omega) (by omega)
      refine ⟨c, hcb, fun k hk => ?_⟩
      obtain ⟨k, rfl⟩ : ∃ m, k = m + 2 := ⟨k - 2, by omega⟩
      have h1 := (hk2 (k + 1) (by omega)).1
      have h2 := (hk2 k (by omega)).2
      constructor
      · rw [impl_CapOf.l0]
        simp only [if_pos hlt, if_pos h0, if_neg hf, wrap_small (n := xs.length) h0 hlt hn]
        exact h1
      · rw [spec_CapOf.l0]
        simp only [spec_CapOf.j1, if_pos hlt, if_pos h0, if_neg hf, hc (k + 1) (by omega), Option.bind_some, if_true, wrap_small (n := xs.length) h0 hlt hn]
        exact h2
theorem capOf_ev2 (xs : List S58) (hn : xs.length ≤ 1048576) : ∃ c, (0 ≤ c ∧ c ≤ 800) ∧ ∀ k, 3 * xs.length + 3 < k → impl_CapOf.f k xs = some c ∧ spec_CapOf.f k xs = some c := by
  obtain ⟨b, hb, hp⟩ := areCrew_ev xs hn
  cases b with
  | true =>
    obtain ⟨⟨h1, h8⟩, hf⟩ := hp rfl
    obtain ⟨c, hcb, hc⟩ := capOf2_loop xs hn h8 hf (fun k hk => (hb k hk).2) xs.length 0 0 (by omega) (by omega) (by omega) (by omega)
    refine ⟨c, hcb, fun k hk => ?_⟩
    unfold impl_CapOf.f spec_CapOf.f
    simp only [(hb k (by omega)).1, Option.bind_some, if_true]
    exact hc k (by omega)
  | false =>
    refine ⟨0, by omega, fun k hk => ?_⟩
    obtain ⟨k, rfl⟩ : ∃ m, k = m + 2 := ⟨k - 2, by omega⟩
    unfold impl_CapOf.f spec_CapOf.f
    simp only [(hb (k + 2) (by omega)).1, Option.bind_some, Bool.false_eq_true, if_false, spec_CapOf.l0, (hb (k + 1) (by omega)).2, spec_CapOf.j1, ite_self, and_self]

def mk4 (c : Int) : S58 := ⟨c, c + 1, c + 2, (Int.tmod (c + 3) 3 == 0)⟩
theorem rdM_set (l : List S58) (i : Int) (h0 : 0 ≤ i) (h : i < (l.length : Int)) (a : S58) : rd_T58 (l.set i.toNat a) i = a := by
  unfold rd_T58; rw [getD_set _ _ _ _ (by omega), if_pos rfl]
theorem markMemberS_loop2 (n : Nat) (hn : n ≤ 1048576) : ∀ (d k : Nat) (acc : List S58) (c i : Int), acc.length = n → 0 ≤ i → (n : Int) - i = d → 0 ≤ c → c + 4 * d ≤ 1000000000 → d < k →
    ∃ r, laws_markMemberS.l0 k acc c i = some (c + 4 * d, r) ∧ r.length = n ∧ ∀ j : Nat, j < n → r.getD j z58 = if (j : Int) < i then acc.getD j z58 else mk4 (c + 4 * (j - i)) := by
  intro d
  induction d with
  | zero =>
    intro k acc c i hl h0 hd hc hb hk
    obtain ⟨k, rfl⟩ : ∃ m, k = m + 1 := ⟨k - 1, by omega⟩
    simp only [laws_markMemberS.l0]
    rw [if_neg (by omega)]
    exact ⟨acc, by simp, hl, fun j hj => by rw [if_pos (by omega)]⟩
  | succ d ih =>
    intro k acc c i hl h0 hd hc hb hk
    obtain ⟨k, rfl⟩ : ∃ m, k = m + 1 := ⟨k - 1, by omega⟩
    have w1 : wrap64 (c + 1) = c + 1 := by unfold wrap64; omega
    have w2 : wrap64 (c + 1 + 1) = c + 2 := by unfold wrap64; omega
    have w3 : wrap64 (c + 2 + 1) = c + 3 := by unfold wrap64; omega
    have w4 : wrap64 (c + 3 + 1) = c + 4 := by unfold wrap64; omega
    have hi : i < (acc.length : Int) := by omega
    obtain ⟨r, hr, hrl, hrj⟩ := ih k (acc.set i.toNat (mk4 c)) (c + 4) (i + 1) (by simpa using hl) (by omega) (by omega) (by omega) (by omega) (by omega)
    refine ⟨r, ?_, hrl, fun j hj => ?_⟩
    · simp only [laws_markMemberS.l0, Option.bind_some, w1, w2, w3, w4, rdM_set acc i h0 hi, List.set_set]
      rw [if_pos (by omega), if_pos h0, wrap_small (n := n) h0 (by omega) hn]
      rw [show (⟨c, c + 1, c + 2, (Int.tmod (c + 3) 3 == 0)⟩ : S58) = mk4 c from rfl, hr]
      congr 2; omega
    · rw [hrj j hj, getD_set _ _ _ _ (by omega)]
      by_cases h1 : (j : Int) < i
      · rw [if_pos (by omega), if_neg (by omega), if_pos h1]
      · rw [if_neg h1]
        by_cases h2 : (j : Int) = i
        · rw [if_pos (by omega), if_pos (by omega), show c + 4 * ((j : Int) - i) = c by omega]
        · rw [if_neg (by omega), show c + 4 + 4 * ((j : Int) - (i + 1)) = c + 4 * ((j : Int) - i) by omega]
theorem markMemberS_ev2 (l : List S58) (hn : l.length ≤ 1048576) (k : Nat) (hk : l.length < k) :
    ∃ r, laws_markMemberS.f k l 1 = some (1 + 4 * (l.length : Int), r) ∧ r.length = l.length ∧ ∀ j : Nat, j < l.length → r.getD j z58 = mk4 (1 + 4 * j) := by
  obtain ⟨r, h1, h2, h3⟩ := markMemberS_loop2 l.length hn l.length k l 1 0 rfl (by omega) (by omega) (by omega) (by omega) hk
  refine ⟨r, h1, h2, fun j hj => ?_⟩
  rw [h3 j hj, if_neg (by omega), show (1 : Int) + 4 * ((j : Int) - 0) = 1 + 4 * j by omega]
theorem heldMemberS_loop (l : List S58) (hn : l.length ≤ 1048576) (hj : ∀ j : Nat, j < l.length → l.getD j z58 = mk4 (1 + 4 * j)) : ∀ (d k : Nat) (i : Int), 0 ≤ i → (l.length : Int) - i = d → d < k →
    laws_heldMemberS.l0 k l (1 + 4 * i) i = some (1 + 4 * (l.length : Int)) := by
  intro d
  induction d with
  | zero =>
    intro k i h0 hd hk
    obtain ⟨k, rfl⟩ : ∃ m, k = m + 1 := ⟨k - 1, by omega⟩
    simp only [laws_heldMemberS.l0]
    rw [if_neg (by omega)]; congr 1; omega
  | succ d ih =>
    intro k i h0 hd hk
    obtain ⟨k, rfl⟩ : ∃ m, k = m + 1 := ⟨k - 1, by omega⟩
    have h1 : rd_T58 l i = mk4 (1 + 4 * i) := by
      have := hj i.toNat (by omega)
      unfold rd_T58; rw [this]; congr 1; omega
    have w1 : wrap64 (1 + 4 * i + 1) = 1 + 4 * i + 1 := by unfold wrap64; omega
    have w2 : wrap64 (1 + 4 * i + 1 + 1) = 1 + 4 * i + 2 := by unfold wrap64; omega
    have w3 : wrap64 (1 + 4 * i + 2 + 1) = 1 + 4 * i + 3 := by unfold wrap64; omega
    have w4 : wrap64 (1 + 4 * i + 3 + 1) = 1 + 4 * (i + 1) := by unfold wrap64; omega
    simp only [laws_heldMemberS.l0, h1, w1, w2, w3, w4, mk4, if_true, bne_self_eq_false, Bool.false_eq_true, if_false]
    rw [if_pos (by omega), if_pos h0, wrap_small (n := l.length) h0 (by omega) hn]
    exact ih k (i + 1) (by omega) (by omega) (by omega)
theorem heldMemberS_ev (l : List S58) (hn : l.length ≤ 1048576) (hj : ∀ j : Nat, j < l.length → l.getD j z58 = mk4 (1 + 4 * j)) (k : Nat) (hk : l.length < k) : laws_heldMemberS.f k l 1 = some (1 + 4 * (l.length : Int)) := by
  have := heldMemberS_loop l hn hj l.length k 0 (by omega) (by omega) hk
  rw [Int.mul_zero, Int.add_zero] at this
  exact this

theorem markBoolS_loop (n : Nat) (hn : n ≤ 1048576) : ∀ (d k : Nat) (acc : List Bool) (c i : Int), acc.length = n → 0 ≤ i → (n : Int) - i = d → 0 ≤ c → c + d ≤ 1000000000 → d < k →
    ∃ r, laws_markBoolS.l0 k acc c i = some (c + d, r) ∧ r.length = n ∧ ∀ j : Nat, j < n → r.getD j false = if (j : Int) < i then acc.getD j false else (Int.tmod (c + (j - i)) 3 == 0) := by
  intro d
  induction d with
  | zero =>
    intro k acc c i hl h0 hd hc hb hk
    obtain ⟨k, rfl⟩ : ∃ m, k = m + 1 := ⟨k - 1, by omega⟩
    simp only [laws_markBoolS.l0]
    rw [if_neg (by omega)]
    exact ⟨acc, by simp, hl, fun j hj => by rw [if_pos (by omega)]⟩
  | succ d ih =>
    intro k acc c i hl h0 hd hc hb hk
    obtain ⟨k, rfl⟩ : ∃ m, k = m + 1 := ⟨k - 1, by omega⟩
    simp only [laws_markBoolS.l0]
    rw [if_pos (by omega), if_pos h0, wrap_small (n := n) h0 (by omega) hn, show wrap64 (c + 1) = c + 1 by unfold wrap64; omega]
    obtain ⟨r, hr, hrl, hrj⟩ := ih k (acc.set i.toNat (Int.tmod c 3 == 0)) (c + 1) (i + 1) (by simpa using hl) (by omega) (by omega) (by omega) (by omega) (by omega)
    refine ⟨r, by rw [hr]; congr 2; omega, hrl, fun j hj => ?_⟩
    rw [hrj j hj, getD_set _ _ _ _ (by omega)]
    by_cases h1 : (j : Int) < i
    · rw [if_pos (by omega), if_neg (by omega), if_pos h1]
    · rw [if_neg h1]
      by_cases h2 : (j : Int) = i
      · rw [if_pos (by omega), if_pos (by omega), show c + ((j : Int) - i) = c by omega]
      · rw [if_neg (by omega), show c + 1 + ((j : Int) - (i + 1)) = c + ((j : Int) - i) by omega]
theorem markBoolS_ev (l : List Bool) (hn : l.length ≤ 1048576) (c : Int) (hc : 0 ≤ c) (hb : c + l.length ≤ 1000000000) (k : Nat) (hk : l.length < k) :
    ∃ r, laws_markBoolS.f k l c = some (c + l.length, r) ∧ r.length = l.length ∧ ∀ j : Nat, j < l.length → r.getD j false = (Int.tmod (c + j) 3 == 0) := by
  obtain ⟨r, h1, h2, h3⟩ := markBoolS_loop l.length hn l.length k l c 0 rfl (by omega) (by omega) hc hb hk
  refine ⟨r, h1, h2, fun j hj => ?_⟩
  rw [h3 j hj, if_neg (by omega), show c + ((j : Int) - 0) = c + j by omega]
theorem heldBoolS_loop (l : List Bool) (hn : l.length ≤ 1048576) : ∀ (d k : Nat) (c i : Int), 0 ≤ i → (l.length : Int) - i = d → 0 ≤ c → c + d ≤ 1000000000 → d < k →
    (∀ j : Nat, i ≤ j → j < l.length → l.getD j false = (Int.tmod (c + (j - i)) 3 == 0)) → laws_heldBoolS.l0 k l c i = some (c + d) := by
  intro d
  induction d with
  | zero =>
    intro k c i h0 hd hc hb hk hj
    obtain ⟨k, rfl⟩ : ∃ m, k = m + 1 := ⟨k - 1, by omega⟩
    simp only [laws_heldBoolS.l0]
    rw [if_neg (by omega)]; simp
  | succ d ih =>
    intro k c i h0 hd hc hb hk hj
    obtain ⟨k, rfl⟩ : ∃ m, k = m + 1 := ⟨k - 1, by omega⟩
    have h1 : rdOf false l i = (Int.tmod c 3 == 0) := by
      have := hj i.toNat (by omega) (by omega)
      unfold rdOf; rw [this, show c + ((i.toNat : Int) - i) = c by omega]
    simp only [laws_heldBoolS.l0, h1, bne_self_eq_false, Bool.false_eq_true, if_false]
    rw [if_pos (by omega), if_pos h0, wrap_small (n := l.length) h0 (by omega) hn, show wrap64 (c + 1) = c + 1 by unfold wrap64; omega]
    rw [ih k (c + 1) (i + 1) (by omega) (by omega) (by omega) (by omega) (by omega) (fun j h2 h3 => by rw [hj j (by omega) h3, show c + 1 + ((j : Int) - (i + 1)) = c + ((j : Int) - i) by omega])]
    congr 1; omega
theorem heldBoolS_ev (l : List Bool) (hn : l.length ≤ 1048576) (c : Int) (hc : 0 ≤ c) (hb : c + l.length ≤ 1000000000) (k : Nat) (hk : l.length < k) (hj : ∀ j : Nat, j < l.length → l.getD j false = (Int.tmod (c + j) 3 == 0)) :
    laws_heldBoolS.f k l c = some (c + l.length) :=
  heldBoolS_loop l hn l.length k c 0 (by omega) (by omega) hc hb hk (fun j _ h => by rw [hj j h, show c + ((j : Int) - 0) = c + j by omega])

theorem szParty_ev (a b : Int) (l : List S147) (h : List Bool) (hl : l.length ≤ maxLen) (hh : h.length ≤ maxLen) : ∃ r, laws_szParty.f a b l h 1048576 = some r ∧ (r < 0 ∨ (l.length ≤ 1048576 ∧ h.length ≤ 1048576)) := by
  unfold maxLen at hl hh
  unfold laws_szParty.f laws_szMemberS.f laws_szBoolS.f
  rw [show wrap64 (1048576 - (l.length : Int)) = 1048576 - (l.length : Int) by unfold wrap64; omega]
  by_cases h1 : (1048576 - (l.length : Int)) < 0
  · rw [if_pos h1]; exact ⟨_, rfl, .inl (by omega)⟩
  · rw [if_neg h1, Option.bind_some, if_neg h1]
    rw [show wrap64 (1048576 - (l.length : Int) - (h.length : Int)) = 1048576 - (l.length : Int) - (h.length : Int) by unfold wrap64; omega]
    by_cases h2 : (1048576 - (l.length : Int) - (h.length : Int)) < 0
    · rw [if_pos h2]; exact ⟨_, rfl, .inl (by omega)⟩
    · rw [if_neg h2, Option.bind_some, if_neg h2]; exact ⟨_, rfl, .inr (by omega)⟩
theorem toParty_ev (a b : Int) (l : List S147) (h : List Bool) (hl : l.length ≤ 1048576) (hh : h.length ≤ 1048576) (k : Nat) (hk : l.length + h.length < k) : laws_toParty.f k a b l h = some (a, b, l.map cMember, h) := by
  unfold laws_toParty.f
  rw [toMemberS_ev l hl k (by omega), Option.bind_some, toBoolS_ev h hh k (by omega), Option.bind_some]
theorem eqParty_ev (a b : Int) (l : List S58) (h : List Bool) (hl : l.length ≤ 1048576) (hh : h.length ≤ 1048576) (k : Nat) (hk : l.length + h.length < k) : laws_eqParty.f k a b l h a b l h = some true := by
  unfold laws_eqParty.f
  rw [if_pos rfl, if_pos rfl, eqMemberS_ev l hl k (by omega), Option.bind_some, if_pos rfl, eqBoolS_ev h hh k (by omega), Option.bind_some, if_pos rfl]
theorem markParty_ev (a b : Int) (l : List S58) (h : List Bool) (hl : l.length ≤ 1048576) (hh : h.length ≤ 1048576) :
    ∃ l' h', ∀ k, l.length + h.length < k → laws_markParty.f k a b l h 1 = some (1 + 4 * (l.length : Int) + (h.length : Int), l', h') ∧ laws_heldParty.f k a b l' h' 1 = some (1 + 4 * (l.length : Int) + (h.length : Int)) := by
  obtain ⟨l', m0, m2, m3⟩ := markMemberS_ev2 l hl (l.length + 1) (by omega)
  obtain ⟨h', n0, n2, n3⟩ := markBoolS_ev h hh (1 + 4 * (l.length : Int)) (by omega) (by omega) (h.length + 1) (by omega)
  refine ⟨l', h', fun k hk => ?_⟩
  have m1 : laws_markMemberS.f k l 1 = some (1 + 4 * (l.length : Int), l') := by
    obtain ⟨l2, q1, q2, q3⟩ := markMemberS_ev2 l hl k (by omega)
    have e : l2 = l' := ext_getD (d := z58) (by omega) (fun j hj => by rw [q3 j (by omega), m3 j (by omega)])
    rw [q1, e]
  have n1 : laws_markBoolS.f k h (1 + 4 * (l.length : Int)) = some (1 + 4 * (l.length : Int) + h.length, h') := by
    obtain ⟨h2, q1, q2, q3⟩ := markBoolS_ev h hh (1 + 4 * (l.length : Int)) (by omega) (by omega) k (by omega)
    have e : h2 = h' := ext_getD (d := false) (by omega) (fun j hj => by rw [q3 j (by omega), n3 j (by omega)])
    rw [q1, e]
  have e1 := heldMemberS_ev l' (by omega) (fun j hj => m3 j (by omega)) k (by omega)
  have e2 := heldBoolS_ev h' (by omega) (1 + 4 * (l.length : Int)) (by omega) (by omega) k (by omega) (fun j hj => n3 j (by omega))
  rw [m2] at e1
  rw [n2] at e2
  constructor
  · unfold laws_markParty.f
    rw [m1, Option.bind_some]
    simp only []
    rw [n1, Option.bind_some]
  · unfold laws_heldParty.f
    rw [e1, Option.bind_some, if_neg (by omega), e2, Option.bind_some, if_neg (by omega)]

theorem copied_ev (a b : Int) (l : List S58) (h : List Bool) (hl : l.length ≤ 1048576) (hh : h.length ≤ 1048576) : impl_Party_copied.f a b l h = some (a, b, l, h) ∧ spec_l9Copy.f a b l h = some (a, b, l, h) := by
  have e1 : ([] : List S58).length + l.length < 4398046511104 := by simp; omega
  have e2 : ([] : List Bool).length + h.length < 140737488355328 := by simp; omega
  unfold impl_Party_copied.f spec_l9Copy.f impl_copyCrew.f
  simp only [Option.bind_some, if_pos e1, if_pos e2, List.nil_append, and_self]

theorem specMin_eq (a b : Int) : spec_Min.f a b = some (mn a b) := by
  unfold spec_Min.f mn; split <;> rfl

theorem pickUp_ev (a b n : Int) (l : List S58) (h : List Bool) (hl : l.length ≤ 1048576) (hh : h.length ≤ 1048576) (hb : wrap64 b = b) : ∃ b' o, ∀ k, 3 * l.length + 3 < k → impl_PickUp.f k a b l h n = some (a, b', l, h, o) ∧ spec_PickUp.f k a b l h n = some (a, b', l, h, o) := by
  obtain ⟨C, hC, hcap⟩ := capOf_ev2 l hl
  obtain ⟨c1, c2⟩ := copied_ev a b l h hl hh
  obtain ⟨R, hR, hroom⟩ : ∃ R, 0 ≤ R ∧ ∀ k, 3 * l.length + 3 < k → impl_RoomFor.f k a b l h = some R ∧ spec_RoomFor.f k a b l h = some R := by
    by_cases h1 : b < 0
    · refine ⟨0, by omega, fun k hk => ?_⟩
      unfold impl_RoomFor.f spec_RoomFor.f
      simp only [(hcap k hk).2, Option.bind_some, if_pos h1, and_self]
    · by_cases h2 : b ≥ C
      · refine ⟨0, by omega, fun k hk => ?_⟩
        unfold impl_RoomFor.f spec_RoomFor.f
        simp only [(hcap k hk).1, (hcap k hk).2, Option.bind_some, if_neg h1, if_pos h2, and_self]
      · refine ⟨wrap64 (C - b), by unfold wrap64; omega, fun k hk => ?_⟩
        unfold impl_RoomFor.f spec_RoomFor.f
        simp only [(hcap k hk).1, (hcap k hk).2, Option.bind_some, if_neg h1, if_neg h2, and_self]
  have hmax : ∀ x, spec_Max.f 0 x = some (mx 0 x) := fun x => by
    unfold spec_Max.f mx; split <;> rfl
  by_cases hn : n < 0
  · refine ⟨b, 0, fun k hk => ?_⟩
    have e : mx 0 (mn n R) = 0 := by unfold mx mn; split <;> split <;> omega
    unfold impl_PickUp.f spec_PickUp.f
    simp only [c1, c2, Option.bind_some, if_pos hn, (hroom k hk).2, specMin_eq, hmax, e, Int.add_zero, hb, and_self]
  · refine ⟨wrap64 (b + mn n R), mn n R, fun k hk => ?_⟩
    have e : mx 0 (mn n R) = mn n R := by unfold mx mn; split <;> split <;> omega
    unfold impl_PickUp.f spec_PickUp.f
    simp only [c1, c2, Option.bind_some, if_neg hn, (hroom k hk).1, (hroom k hk).2, specMin_eq, hmax, e, and_self]

theorem wrap_wf {b : Int} (h : (Lit.int .i64 b).wf = true) : wrap64 b = b := by
  simp only [Lit.wf, Bool.and_eq_true, decide_eq_true_eq] at h
  have e1 : (-9223372036854775808 : Int) ≤ b := h.1
  have e2 : b ≤ 9223372036854775807 := h.2
  unfold wrap64; omega
theorem FnExactPickUp : laws_FnExactPickUp.Stmt := by
  intro x n hx hn_
  obtain ⟨z, hz, hz2⟩ := szParty_ev x.f0 x.f1 x.f2 x.f3 hx.2.2.1.1 hx.2.2.2.1
  by_cases hneg : z < 0
  · exact ⟨0, by unfold laws_FnExactPickUp.f; rw [hz]; simp only [Option.bind_some]; rw [if_pos hneg]⟩
  obtain ⟨hl, hh⟩ := hz2.resolve_left hneg
  have hl2 : (x.f2.map cMember).length ≤ 1048576 := by simpa using hl
  have hlen : (x.f2.map cMember).length = x.f2.length := by simp
  obtain ⟨b', o, he⟩ := pickUp_ev x.f0 x.f1 n (x.f2.map cMember) x.f3 hl2 hh (wrap_wf hx.2.1)
  obtain ⟨k, hk⟩ : ∃ k, k = 3 * x.f2.length + x.f3.length + 20 := ⟨_, rfl⟩
  obtain ⟨a1, a2⟩ := he (k + 3) (by omega)
  obtain ⟨b1, _⟩ := he (k + 1) (by omega)
  obtain ⟨l0, h0, m0⟩ := markParty_ev x.f0 x.f1 (x.f2.map cMember) x.f3 hl2 hh
  obtain ⟨l1, h1, m1⟩ := markParty_ev x.f0 b' (x.f2.map cMember) x.f3 hl2 hh
  have e1 : ¬ (1 + 4 * ((x.f2.map cMember).length : Int) + (x.f3.length : Int) < 0) := by omega
  refine ⟨k + 3, ?_⟩
  unfold laws_FnExactPickUp.f
  rw [hz]; simp only [Option.bind_some]; rw [if_neg hneg]
  simp only [toParty_ev x.f0 x.f1 x.f2 x.f3 hl hh (k + 3) (by omega), toParty_ev x.f0 x.f1 x.f2 x.f3 hl hh (k + 2) (by omega), toParty_ev x.f0 x.f1 x.f2 x.f3 hl hh (k + 1) (by omega), a1, a2, b1, Option.bind_some, eqParty_ev x.f0 b' _ x.f3 hl2 hh (k + 3) (by omega), eqParty_ev x.f0 b' _ x.f3 hl2 hh (k + 2) (by omega), eqParty_ev x.f0 x.f1 _ x.f3 hl2 hh (k + 2) (by omega), eqParty_ev x.f0 b' _ x.f3 hl2 hh (k + 1) (by omega), if_true, laws_FnExactPickUp.j0, laws_FnExactPickUp.j1, laws_FnExactPickUp.j2, bne_self_eq_false, Bool.false_eq_true, if_false, (m0 (k + 2) (by omega)).1, (m1 (k + 1) (by omega)).1, (m1 (k + 1) (by omega)).2, (m1 k (by omega)).2, if_neg e1]

end Go.Proofs.Ytegbddilobpeaaa.Pure
