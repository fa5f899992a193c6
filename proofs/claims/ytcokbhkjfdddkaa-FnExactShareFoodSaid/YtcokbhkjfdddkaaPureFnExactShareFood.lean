/- The program's ShareFood returns what the reference's ShareFood returns, for every list of members no longer than 2^20 and every number, leaves the members as they were, and hands out a list that shares no memory with them. No further condition. -/
import Derived.Test.YtcokbhkjfdddkaaSFnExactShareFood
namespace Go.Proofs.Ytcokbhkjfdddkaa.Pure
open Go.RowKit Go.Proofs.Ytcokbhkjfdddkaa.Q Go.Proofs.YtcokbhkjfdddkaaW.PrintWords Go.Proofs.YtcokbhkjfdddkaaW.PrintLast Go.Proofs.YtcokbhkjfdddkaaW.PrintMore
set_option linter.unusedVariables false
set_option linter.unusedSimpArgs false

theorem ext_getD {α : Type} {d : α} {a b : List α} (h : a.length = b.length) (hj : ∀ j, j < a.length → a.getD j d = b.getD j d) : a = b := by
  apply List.ext_getElem h
  intro j h1 h2
  have := hj j h1
  simpa [List.getD_eq_getElem?_getD, List.getElem?_eq_getElem h1, List.getElem?_eq_getElem h2] using this

theorem getD_set {α : Type} {d : α} (a : List α) (i j : Nat) (v : α) (h : i < a.length) : (a.set i v).getD j d = if i = j then v else a.getD j d := by
  simp only [List.getD_eq_getElem?_getD, List.getElem?_set]
  by_cases e : i = j
  · subst e; simp [h]
  · simp [e]

theorem wrap_small {i : Int} {n : Nat} (h0 : 0 ≤ i) (h : i < (n : Int)) (hn : n ≤ 1048576) : wrap64 (i + 1) = i + 1 := by
  unfold wrap64; omega

def cMember (x : S113) : S81 := ⟨x.f0, x.f1, x.f2, x.f3⟩
theorem toMember_ev (x : S113) : laws_toMember.f x.f0 x.f1 x.f2 x.f3 = some (x.f0, x.f1, x.f2, x.f3) := rfl
theorem toMemberS_loop (xs : List S113) (hn : xs.length ≤ 1048576) : ∀ (d k : Nat) (acc : List S81) (i : Int), acc.length = xs.length → 0 ≤ i → (xs.length : Int) - i = d → d < k →
    (∀ j : Nat, (j : Int) < i → acc.getD j z81 = (xs.map cMember).getD j z81) → laws_toMemberS.l0 k xs acc i = some (xs.map cMember) := by
  intro d
  induction d with
  | zero =>
    intro k acc i hl h0 hd hk hj
    obtain ⟨k, rfl⟩ : ∃ m, k = m + 1 := ⟨k - 1, by omega⟩
    simp only [laws_toMemberS.l0]
    rw [if_neg (by omega)]
    exact congrArg some (ext_getD (by rw [List.length_map]; exact hl) (fun j h => hj j (by omega)))
  | succ d ih =>
    intro k acc i hl h0 hd hk hj
    obtain ⟨k, rfl⟩ : ∃ m, k = m + 1 := ⟨k - 1, by omega⟩
    simp only [laws_toMemberS.l0, toMember_ev, Option.bind_some]
    rw [if_pos (by omega), if_pos h0, if_pos (by omega), wrap_small (n := xs.length) h0 (by omega) hn]
    refine ih k _ _ (by simpa using hl) (by omega) (by omega) (by omega) ?_
    intro j hj'
    rw [getD_set _ _ _ _ (by omega)]
    by_cases e : i.toNat = j
    · rw [if_pos e]
      have h1 : j < xs.length := by omega
      unfold rd_T113
      rw [e]
      simp [List.getD_eq_getElem?_getD, List.getElem?_eq_getElem h1, cMember]
    · rw [if_neg e]; exact hj j (by omega)
theorem toMemberS_ev (xs : List S113) (hn : xs.length ≤ 1048576) (k : Nat) (hk : xs.length < k) : laws_toMemberS.f k xs = some (xs.map cMember) := by
  unfold laws_toMemberS.f
  rw [if_pos (by omega), if_pos (by omega)]
  exact toMemberS_loop xs hn xs.length k _ 0 (by simp) (by omega) (by omega) hk (fun j hj => by omega)

theorem eqMember_ev (x : S81) : laws_eqMember.f x.f0 x.f1 x.f2 x.f3 x.f0 x.f1 x.f2 x.f3 = some true := by simp [laws_eqMember.f]
theorem eqMemberS_loop (xs : List S81) (hn : xs.length ≤ 1048576) : ∀ (d k : Nat) (i : Int), 0 ≤ i → (xs.length : Int) - i = d → d < k → laws_eqMemberS.l0 k xs xs i = some true := by
  intro d
  induction d with
  | zero =>
    intro k i h0 hd hk
    obtain ⟨k, rfl⟩ : ∃ m, k = m + 1 := ⟨k - 1, by omega⟩
    simp only [laws_eqMemberS.l0]
    rw [if_neg (by omega)]
  | succ d ih =>
    intro k i h0 hd hk
    obtain ⟨k, rfl⟩ : ∃ m, k = m + 1 := ⟨k - 1, by omega⟩
    simp only [laws_eqMemberS.l0, eqMember_ev, Option.bind_some, if_true]
    rw [if_pos (by omega), if_pos h0, if_pos (by omega), wrap_small (n := xs.length) h0 (by omega) hn]
    exact ih k _ (by omega) (by omega) (by omega)
theorem eqMemberS_ev (xs : List S81) (hn : xs.length ≤ 1048576) (k : Nat) (hk : xs.length < k) : laws_eqMemberS.f k xs xs = some true := by
  unfold laws_eqMemberS.f
  rw [if_pos rfl]
  exact eqMemberS_loop xs hn xs.length k 0 (by omega) (by omega) hk

theorem szMemberS_ev (l : List S113) (hm : l.length ≤ maxLen) : ∃ r, laws_szMemberS.f l 1048576 = some r ∧ (r < 0 ∨ l.length ≤ 1048576) := by
  unfold maxLen at hm
  have hw : wrap64 (1048576 - (l.length : Int)) = 1048576 - (l.length : Int) := by unfold wrap64; omega
  unfold laws_szMemberS.f
  rw [hw]
  by_cases h : (1048576 - (l.length : Int)) < 0
  · rw [if_pos h]; exact ⟨_, rfl, .inl (by omega)⟩
  · rw [if_neg h]; exact ⟨_, rfl, .inr (by omega)⟩

theorem eqIntS_loop (xs : List Int) (hn : xs.length ≤ 1048576) : ∀ (d k : Nat) (i : Int), 0 ≤ i → (xs.length : Int) - i = d → d < k → laws_eqIntS.l0 k xs xs i = some true := by
  intro d
  induction d with
  | zero =>
    intro k i h0 hd hk
    obtain ⟨k, rfl⟩ : ∃ m, k = m + 1 := ⟨k - 1, by omega⟩
    simp only [laws_eqIntS.l0]
    rw [if_neg (by omega)]
  | succ d ih =>
    intro k i h0 hd hk
    obtain ⟨k, rfl⟩ : ∃ m, k = m + 1 := ⟨k - 1, by omega⟩
    simp only [laws_eqIntS.l0]
    rw [if_pos (by omega), if_pos h0, if_pos (by omega), if_pos trivial, wrap_small (n := xs.length) h0 (by omega) hn]
    exact ih k _ (by omega) (by omega) (by omega)

theorem eqIntS_ev (xs : List Int) (hn : xs.length ≤ 1048576) (k : Nat) (hk : xs.length < k) : laws_eqIntS.f k xs xs = some true := by
  unfold laws_eqIntS.f
  rw [if_pos rfl]
  exact eqIntS_loop xs hn xs.length k 0 (by omega) (by omega) hk

theorem markIntS_loop (n : Nat) (hn : n ≤ 1048576) : ∀ (d k : Nat) (acc : List Int) (c i : Int), acc.length = n → 0 ≤ i → (n : Int) - i = d → 0 ≤ c → c + d ≤ 4611686018427387904 → d < k →
    ∃ r, laws_markIntS.l0 k acc c i = some (c + d, r) ∧ r.length = n ∧ ∀ j : Nat, j < n → r.getD j 0 = if (j : Int) < i then acc.getD j 0 else c + (j - i) := by
  intro d
  induction d with
  | zero =>
    intro k acc c i hl h0 hd hc hb hk
    obtain ⟨k, rfl⟩ : ∃ m, k = m + 1 := ⟨k - 1, by omega⟩
    simp only [laws_markIntS.l0]
    rw [if_neg (by omega)]
    exact ⟨acc, by simp, hl, fun j hj => by rw [if_pos (by omega)]⟩
  | succ d ih =>
    intro k acc c i hl h0 hd hc hb hk
    obtain ⟨k, rfl⟩ : ∃ m, k = m + 1 := ⟨k - 1, by omega⟩
    simp only [laws_markIntS.l0]
    rw [if_pos (by omega), if_pos h0, wrap_small (n := n) h0 (by omega) hn, show wrap64 (c + 1) = c + 1 by unfold wrap64; omega]
    obtain ⟨r, hr, hrl, hrj⟩ := ih k (acc.set i.toNat c) (c + 1) (i + 1) (by simpa using hl) (by omega) (by omega) (by omega) (by omega) (by omega)
    refine ⟨r, by rw [hr]; congr 2; omega, hrl, fun j hj => ?_⟩
    rw [hrj j hj, getD_set _ _ _ _ (by omega)]
    by_cases h1 : (j : Int) < i
    · rw [if_pos (by omega), if_neg (by omega), if_pos h1]
    · rw [if_neg h1]
      by_cases h2 : (j : Int) = i
      · rw [if_pos (by omega), if_pos (by omega)]; omega
      · rw [if_neg (by omega)]; omega

theorem markIntS_ev (l : List Int) (hn : l.length ≤ 1048576) (c : Int) (hc : 0 ≤ c) (hb : c + l.length ≤ 4611686018427387904) (k : Nat) (hk : l.length < k) :
    ∃ r, laws_markIntS.f k l c = some (c + l.length, r) ∧ r.length = l.length ∧ ∀ j : Nat, j < l.length → r.getD j 0 = c + j := by
  obtain ⟨r, h1, h2, h3⟩ := markIntS_loop l.length hn l.length k l c 0 rfl (by omega) (by omega) hc hb hk
  refine ⟨r, h1, h2, fun j hj => ?_⟩
  rw [h3 j hj, if_neg (by omega)]; omega

theorem heldIntS_loop (l : List Int) (hn : l.length ≤ 1048576) : ∀ (d k : Nat) (c i : Int), 0 ≤ i → (l.length : Int) - i = d → 0 ≤ c → c + d ≤ 4611686018427387904 → d < k →
    (∀ j : Nat, i ≤ j → j < l.length → l.getD j 0 = c + (j - i)) → laws_heldIntS.l0 k l c i = some (c + d) := by
  intro d
  induction d with
  | zero =>
    intro k c i h0 hd hc hb hk hj
    obtain ⟨k, rfl⟩ : ∃ m, k = m + 1 := ⟨k - 1, by omega⟩
    simp only [laws_heldIntS.l0]
    rw [if_neg (by omega)]; simp
  | succ d ih =>
    intro k c i h0 hd hc hb hk hj
    obtain ⟨k, rfl⟩ : ∃ m, k = m + 1 := ⟨k - 1, by omega⟩
    have h1 : rd l i = c := by
      have := hj i.toNat (by omega) (by omega)
      unfold rd; rw [this]; omega
    simp only [laws_heldIntS.l0]
    rw [if_pos (by omega), if_pos h0, if_pos h1, wrap_small (n := l.length) h0 (by omega) hn, show wrap64 (c + 1) = c + 1 by unfold wrap64; omega]
    rw [ih k (c + 1) (i + 1) (by omega) (by omega) (by omega) (by omega) (by omega) (fun j h2 h3 => by rw [hj j (by omega) h3]; omega)]
    congr 1; omega

theorem heldIntS_ev (l : List Int) (hn : l.length ≤ 1048576) (c : Int) (hc : 0 ≤ c) (hb : c + l.length ≤ 4611686018427387904) (k : Nat) (hk : l.length < k) (hj : ∀ j : Nat, j < l.length → l.getD j 0 = c + j) :
    laws_heldIntS.f k l c = some (c + l.length) :=
  heldIntS_loop l hn l.length k c 0 (by omega) (by omega) hc hb hk (fun j _ h => by rw [hj j h]; omega)

theorem l1In_eq (a b c : Int) : spec_l1In.f a b c = some (decide (b ≤ a ∧ a ≤ c)) := by
  unfold spec_l1In.f
  by_cases h : a ≥ b
  · rw [if_pos h]; congr 1; have : b ≤ a := h; simp [this]
  · rw [if_neg h]; have : ¬ b ≤ a := h; simp [this]
theorem inRange_eq (a b c : Int) : impl_InRange.f a b c = some (decide (b ≤ a ∧ a ≤ c)) := by
  unfold impl_InRange.f
  by_cases h : b ≤ a
  · rw [if_pos h]; simp [h]
  · rw [if_neg h]; simp [h]

theorem drop_step {α : Type} (d : α) (l : List α) (i : Int) (h0 : 0 ≤ i) (h : i < (l.length : Int)) : l.drop i.toNat = l.getD i.toNat d :: l.drop (i + 1).toNat := by
  have h1 : i.toNat < l.length := by omega
  rw [List.drop_eq_getElem_cons h1, show (i + 1).toNat = i.toNat + 1 by omega]
  congr 1
  simp [List.getD_eq_getElem?_getD, List.getElem?_eq_getElem h1]

def fitM (m : S81) : Prop := 1 ≤ m.f0 ∧ m.f0 ≤ 99 ∧ 0 ≤ m.f1 ∧ m.f1 ≤ 100 ∧ 1 ≤ m.f2 ∧ m.f2 ≤ 10
theorem areCrew_loop (xs : List S81) (hn : xs.length ≤ 1048576) : ∀ (d : Nat) (i : Int), 0 ≤ i → (xs.length : Int) - i = d →
    ∃ b, (∀ k, d < k → impl_AreCrew.l0 k xs xs (xs.length : Int) i = some b ∧ spec_AreCrew.l0 k xs i = some b) ∧ (b = true → (1 ≤ xs.length ∧ xs.length ≤ 8) ∧ ∀ j : Int, i ≤ j → j < (xs.length : Int) → fitM (rd_T81 xs j)) := by
  intro d
  induction d with
  | zero =>
    intro i h0 hd
    have hlt : ¬ i < (xs.length : Int) := by omega
    refine ⟨decide (1 ≤ (xs.length : Int) ∧ (xs.length : Int) ≤ 8), fun k hk => ?_, fun hb => ?_⟩
    · obtain ⟨k, rfl⟩ : ∃ m, k = m + 1 := ⟨k - 1, by omega⟩
      simp only [impl_AreCrew.l0, spec_AreCrew.l0, if_neg hlt, l1In_eq, inRange_eq, Option.bind_some, and_self]
    · have := of_decide_eq_true hb
      exact ⟨by omega, fun j h1 h2 => by omega⟩
  | succ d ih =>
    intro i h0 hd
    have hlt : i < (xs.length : Int) := by omega
    obtain ⟨b, hb, hp⟩ := ih (i + 1) (by omega) (by omega)
    have hw : wrap64 (i - 1) = i - 1 := by unfold wrap64; omega
    by_cases ok : (1 ≤ (rd_T81 xs i).f0 ∧ (rd_T81 xs i).f0 ≤ 99 ∧ 0 ≤ (rd_T81 xs i).f1 ∧ (rd_T81 xs i).f1 ≤ 100 ∧ 1 ≤ (rd_T81 xs i).f2 ∧ (rd_T81 xs i).f2 ≤ 10) ∧ (i > 0 → (rd_T81 xs (i - 1)).f0 < (rd_T81 xs i).f0)
    · refine ⟨b, fun k hk => ?_, fun e => ⟨(hp e).1, fun j h1 h2 => ?_⟩⟩
      · obtain ⟨k, rfl⟩ : ∃ m, k = m + 1 := ⟨k - 1, by omega⟩
        obtain ⟨b1, b2⟩ := hb k (by omega)
        have e1 : 1 ≤ (rd_T81 xs i).f0 ∧ (rd_T81 xs i).f0 ≤ 99 := ⟨ok.1.1, ok.1.2.1⟩
        have e2 : 0 ≤ (rd_T81 xs i).f1 ∧ (rd_T81 xs i).f1 ≤ 100 := ⟨ok.1.2.2.1, ok.1.2.2.2.1⟩
        have e3 : 1 ≤ (rd_T81 xs i).f2 ∧ (rd_T81 xs i).f2 ≤ 10 := ok.1.2.2.2.2
        simp only [impl_AreCrew.l0, spec_AreCrew.l0, if_pos hlt, if_pos h0, l1In_eq, inRange_eq, Option.bind_some, decide_eq_true_eq, if_pos e1, if_pos e2, if_pos e3, hw, wrap_small (n := xs.length) h0 hlt hn]
        by_cases hi : i > 0
        · have h1 : 0 ≤ i - 1 := by omega
          have h2 : i - 1 < (xs.length : Int) := by omega
          have h3 := ok.2 hi
          have h4 : ¬ (rd_T81 xs i).f0 ≤ (rd_T81 xs (i - 1)).f0 := by omega
          have h5 : ¬ (rd_T81 xs (i - 1)).f0 ≥ (rd_T81 xs i).f0 := by omega
          simp only [if_pos hi, if_pos h1, if_pos h2, if_neg h4, if_neg h5]
          exact ⟨b1, b2⟩
        · simp only [if_neg hi]
          exact ⟨b1, b2⟩
      · by_cases e2 : j = i
        · subst e2; exact ok.1
        · exact (hp e).2 j (by omega) h2
    · refine ⟨false, fun k hk => ?_, fun e => by cases e⟩
      obtain ⟨k, rfl⟩ : ∃ m, k = m + 1 := ⟨k - 1, by omega⟩
      simp only [impl_AreCrew.l0, spec_AreCrew.l0, if_pos hlt, if_pos h0, l1In_eq, inRange_eq, Option.bind_some, decide_eq_true_eq, hw]
      constructor
      · repeat' split
        all_goals first | rfl | (exfalso; omega)
      · repeat' split
        all_goals first | rfl | (exfalso; omega)
theorem areCrew_ev (xs : List S81) (hn : xs.length ≤ 1048576) : ∃ b, (∀ k, xs.length < k → impl_AreCrew.f k xs = some b ∧ spec_AreCrew.f k xs = some b) ∧ (b = true → (1 ≤ xs.length ∧ xs.length ≤ 8) ∧ ∀ j : Int, 0 ≤ j → j < (xs.length : Int) → fitM (rd_T81 xs j)) := by
  obtain ⟨b, h, hp⟩ := areCrew_loop xs hn xs.length 0 (by omega) (by omega)
  exact ⟨b, h, hp⟩

def fsM : List S81 → Int
  | [] => 0
  | m :: ms => m.f2 + fsM ms
theorem fsM_bound : ∀ l : List S81, (∀ m ∈ l, fitM m) → (l.length : Int) ≤ fsM l ∧ fsM l ≤ 10 * (l.length : Int)
  | [], _ => by simp [fsM]
  | m :: ms, h => by
    have h1 := fsM_bound ms (fun x hx => h x (List.mem_cons_of_mem _ hx))
    have h2 := h m (List.mem_cons_self)
    unfold fitM at h2
    simp only [fsM, List.length_cons]
    omega
theorem fit_mem {xs : List S81} (h : ∀ j : Int, 0 ≤ j → j < (xs.length : Int) → fitM (rd_T81 xs j)) : ∀ m ∈ xs, fitM m := by
  intro m hm
  obtain ⟨j, hj, rfl⟩ := List.mem_iff_getElem.mp hm
  have := h (j : Int) (by omega) (by omega)
  unfold rd_T81 at this
  simpa [List.getD_eq_getElem?_getD, List.getElem?_eq_getElem hj] using this
theorem needOf_loop (xs : List S81) (hn : xs.length ≤ 8) (hfit : ∀ m ∈ xs, fitM m) (hc : ∀ k, xs.length < k → spec_AreCrew.f k xs = some true) : ∀ (d : Nat) (i a : Int), 0 ≤ i → (xs.length : Int) - i = d → 0 ≤ a → a ≤ 1000 - 10 * d →
    ∀ k, xs.length + d + 2 < k → impl_NeedOf.l0 k a xs (xs.length : Int) i = some (a + fsM (xs.drop i.toNat)) ∧ spec_NeedOf.l0 k xs a i = some (a + fsM (xs.drop i.toNat)) := by
  intro d
  induction d with
  | zero =>
    intro i a h0 hd _ _ k hk
    obtain ⟨k, rfl⟩ : ∃ m, k = m + 1 := ⟨k - 1, by omega⟩
    have hlt : ¬ i < (xs.length : Int) := by omega
    simp only [impl_NeedOf.l0, spec_NeedOf.l0, if_neg hlt, List.drop_eq_nil_of_le (show xs.length ≤ i.toNat by omega), fsM, Int.add_zero, and_self]
  | succ d ih =>
    intro i a h0 hd ha hb k hk
    obtain ⟨k, rfl⟩ : ∃ m, k = m + 1 := ⟨k - 1, by omega⟩
    have hlt : i < (xs.length : Int) := by omega
    have hm : fitM (rd_T81 xs i) := hfit _ (by
      unfold rd_T81
      have h1 : i.toNat < xs.length := by omega
      simp [List.getD_eq_getElem?_getD, List.getElem?_eq_getElem h1])
    unfold fitM at hm
    have hw : wrap64 (a + (rd_T81 xs i).f2) = a + (rd_T81 xs i).f2 := by unfold wrap64; omega
    obtain ⟨h1, h2⟩ := ih (i + 1) (a + (rd_T81 xs i).f2) (by omega) (by omega) (by omega) (by omega) k (by omega)
    rw [drop_step z81 xs i h0 hlt, show xs.getD i.toNat z81 = rd_T81 xs i from rfl]
    simp only [impl_NeedOf.l0, spec_NeedOf.l0, if_pos hlt, if_pos h0, hc k (by omega), Option.bind_some, if_true, hw, wrap_small (n := xs.length) h0 hlt (by omega), fsM, h1, h2, Int.add_assoc, and_self]
theorem needOf_ev (xs : List S81) (hn : xs.length ≤ 1048576) : ∃ b c, (∀ k, xs.length < k → impl_AreCrew.f k xs = some b ∧ spec_AreCrew.f k xs = some b) ∧
    (b = true → c = fsM xs ∧ 1 ≤ xs.length ∧ xs.length ≤ 8 ∧ (∀ m ∈ xs, fitM m) ∧ 1 ≤ c ∧ c ≤ 80) ∧ (b = false → c = 0) ∧
    ∀ k, 2 * xs.length + 3 < k → impl_NeedOf.f k xs = some c ∧ spec_NeedOf.f k xs = some c := by
  obtain ⟨b, hb, hp⟩ := areCrew_ev xs hn
  cases b with
  | true =>
    obtain ⟨⟨h1, h8⟩, hf⟩ := hp rfl
    have hm := fit_mem hf
    have hbd := fsM_bound xs hm
    refine ⟨true, fsM xs, hb, fun _ => ⟨rfl, h1, h8, hm, by omega, by omega⟩, (fun e => by cases e), fun k hk => ?_⟩
    obtain ⟨h3, h4⟩ := needOf_loop xs h8 hm (fun k hk => (hb k hk).2) xs.length 0 0 (by omega) (by omega) (by omega) (by omega) k (by omega)
    rw [Int.toNat_zero, List.drop_zero, Int.zero_add] at h3 h4
    unfold impl_NeedOf.f spec_NeedOf.f
    simp only [(hb k (by omega)).1, Option.bind_some, if_true]
    exact ⟨h3, h4⟩
  | false =>
    refine ⟨false, 0, hb, fun e => (by cases e), fun _ => rfl, fun k hk => ?_⟩
    obtain ⟨k, rfl⟩ : ∃ m, k = m + 1 := ⟨k - 1, by omega⟩
    unfold impl_NeedOf.f spec_NeedOf.f
    simp only [(hb (k + 1) (by omega)).1, Option.bind_some, Bool.false_eq_true, if_false, spec_NeedOf.l0, (hb k (by omega)).2, ite_self, and_self]

theorem markMemberS_loop (n : Nat) (hn : n ≤ 1048576) : ∀ (d k : Nat) (acc : List S81) (c i : Int), acc.length = n → 0 ≤ i → (n : Int) - i = d → 0 ≤ c → c + 4 * d ≤ 4611686018427387904 → d < k →
    ∃ r, laws_markMemberS.l0 k acc c i = some (c + 4 * d, r) := by
  intro d
  induction d with
  | zero =>
    intro k acc c i hl h0 hd hc hb hk
    obtain ⟨k, rfl⟩ : ∃ m, k = m + 1 := ⟨k - 1, by omega⟩
    simp only [laws_markMemberS.l0]
    rw [if_neg (by omega)]
    exact ⟨acc, by simp⟩
  | succ d ih =>
    intro k acc c i hl h0 hd hc hb hk
    obtain ⟨k, rfl⟩ : ∃ m, k = m + 1 := ⟨k - 1, by omega⟩
    simp only [laws_markMemberS.l0, Option.bind_some]
    rw [if_pos (by omega), if_pos h0, wrap_small (n := n) h0 (by omega) hn, show wrap64 (wrap64 (wrap64 (wrap64 (c + 1) + 1) + 1) + 1) = c + 4 by unfold wrap64; omega]
    have key : ∀ a : List S81, a.length = n → ∃ r, laws_markMemberS.l0 k a (c + 4) (i + 1) = some (c + 4 * ((d + 1 : Nat) : Int), r) := by
      intro a ha
      obtain ⟨r, hr⟩ := ih k a (c + 4) (i + 1) ha (by omega) (by omega) (by omega) (by omega) (by omega)
      exact ⟨r, by rw [hr]; congr 2; omega⟩
    exact key _ (by simp only [List.length_set]; exact hl)
theorem markMemberS_ev (l : List S81) (hn : l.length ≤ 1048576) (k : Nat) (hk : l.length < k) : ∃ r, laws_markMemberS.f k l 1 = some (1 + 4 * (l.length : Int), r) :=
  markMemberS_loop l.length hn l.length k l 1 0 rfl (by omega) (by omega) (by omega) (by omega) hk

theorem foodRest_loop (X : Int) : ∀ (e : Nat) (acc : List Int) (x : Int), 0 ≤ x → X - x ≤ e → X ≤ (acc.length : Int) → acc.length ≤ 8 →
    ∃ r, r.length = acc.length ∧ ∀ k, e < k → impl_ShareFood.l1 k acc (X - x) x = some r ∧ spec_ShareFood.l1 k acc X x = some r := by
  intro e
  induction e with
  | zero =>
    intro acc x h0 he hX hl
    refine ⟨acc, rfl, fun k hk => ?_⟩
    obtain ⟨k, rfl⟩ : ∃ m, k = m + 1 := ⟨k - 1, by omega⟩
    have h1 : ¬ X - x > 0 := by omega
    have h2 : ¬ x < X := by omega
    simp only [impl_ShareFood.l1, spec_ShareFood.l1, if_neg h1, if_neg h2, and_self]
  | succ e ih =>
    intro acc x h0 he hX hl
    by_cases h2 : x < X
    · have h1 : X - x > 0 := by omega
      have hne : ¬ (acc.length : Int) = 0 := by omega
      have ht : Int.tmod x (acc.length : Int) = x := by
        rw [Int.tmod_eq_emod_of_nonneg h0]; exact Int.emod_eq_of_lt h0 (by omega)
      have hlt : x < (acc.length : Int) := by omega
      obtain ⟨r, hr, hk2⟩ := ih (acc.set x.toNat (wrap64 (rd acc x + 1))) (x + 1) (by omega) (by omega) (by simp; omega) (by simp; omega)
      refine ⟨r, by simpa using hr, fun k hk => ?_⟩
      obtain ⟨k, rfl⟩ : ∃ m, k = m + 1 := ⟨k - 1, by omega⟩
      have hw : wrap64 (X - x - 1) = X - (x + 1) := by unfold wrap64; omega
      have hw2 : wrap64 (x + 1) = x + 1 := by unfold wrap64; omega
      simp only [impl_ShareFood.l1, spec_ShareFood.l1, if_pos h1, if_pos h2, if_neg hne, ht, if_pos h0, if_pos hlt, hw, hw2]
      exact hk2 k (by omega)
    · have h1 : ¬ X - x > 0 := by omega
      refine ⟨acc, rfl, fun k hk => ?_⟩
      obtain ⟨k, rfl⟩ : ∃ m, k = m + 1 := ⟨k - 1, by omega⟩
      simp only [impl_ShareFood.l1, spec_ShareFood.l1, if_neg h1, if_neg h2, and_self]
theorem food_loop (xs : List S81) (a N : Int) (hn : xs.length ≤ 8) (hn1 : 1 ≤ xs.length) (hfit : ∀ m ∈ xs, fitM m) (ha : 0 ≤ a) (ha2 : a ≤ 10000) (hN : 1 ≤ N) (hN2 : N ≤ 80)
    (hneed : ∀ k, 2 * xs.length + 3 < k → impl_NeedOf.f k xs = some N ∧ spec_NeedOf.f k xs = some N) :
    ∀ (d : Nat) (i x R : Int) (acc : List Int), 0 ≤ i → (xs.length : Int) - i = d → (acc.length : Int) = i → 0 ≤ x → x ≤ 10000 → 0 ≤ R → R ≤ (N - 1) * i → N * x = a * fsM (xs.drop i.toNat) + R →
      ∃ r, r.length = xs.length ∧ ∀ k, 2 * xs.length + d + 20 < k → impl_ShareFood.l0 k xs a acc x xs (xs.length : Int) i = some r ∧ spec_ShareFood.l0 k xs a acc x i = some r := by
  intro d
  induction d with
  | zero =>
    intro i x R acc h0 hd hl hx hx2 hR hR2 hinv
    have hlt : ¬ i < (xs.length : Int) := by omega
    rw [List.drop_eq_nil_of_le (show xs.length ≤ i.toNat by omega)] at hinv
    simp only [fsM, Int.mul_zero, Int.zero_add] at hinv
    have hin : i = (xs.length : Int) := by omega
    have hxl : x < (xs.length : Int) := by
      have h1 : (N - 1) * i < N * i := Int.mul_lt_mul_of_pos_right (by omega) (by omega)
      have h2 : N * x < N * i := by omega
      have h3 := Int.lt_of_mul_lt_mul_left h2 (by omega)
      omega
    obtain ⟨r, hr, hk2⟩ := foodRest_loop x 8 acc 0 (by omega) (by omega) (by omega) (by omega)
    refine ⟨r, by omega, fun k hk => ?_⟩
    obtain ⟨k, rfl⟩ : ∃ m, k = m + 1 := ⟨k - 1, by omega⟩
    have := hk2 k (by omega)
    rw [Int.sub_zero] at this
    simp only [impl_ShareFood.l0, spec_ShareFood.l0, if_neg hlt]
    exact this
  | succ d ih =>
    intro i x R acc h0 hd hl hx hx2 hR hR2 hinv
    have hlt : i < (xs.length : Int) := by omega
    have hm : fitM (rd_T81 xs i) := hfit _ (by
      unfold rd_T81
      have h1 : i.toNat < xs.length := by omega
      simp [List.getD_eq_getElem?_getD, List.getElem?_eq_getElem h1])
    unfold fitM at hm
    obtain ⟨f, hf⟩ : ∃ f, f = (rd_T81 xs i).f2 := ⟨_, rfl⟩
    rw [← hf] at hm
    have haf0 : 0 ≤ a * f := Int.mul_nonneg ha (by omega)
    have haf1 : a * f ≤ 100000 := by
      have h1 : a * f ≤ a * 10 := Int.mul_le_mul_of_nonneg_left (by omega) ha
      omega
    have hw1 : wrap64 (a * f) = a * f := by unfold wrap64; omega
    have hq0 : 0 ≤ a * f / N := Int.ediv_nonneg haf0 (by omega)
    have hq1 : a * f / N ≤ 100000 := by
      have := Int.ediv_le_self N haf0
      omega
    have hw2 : wrap64 (Int.tdiv (a * f) N) = a * f / N := by
      rw [Int.tdiv_eq_ediv_of_nonneg haf0]; unfold wrap64; omega
    obtain ⟨q, hq⟩ : ∃ q, q = a * f / N := ⟨_, rfl⟩
    obtain ⟨m, hmm⟩ : ∃ m, m = a * f % N := ⟨_, rfl⟩
    have hm0 : 0 ≤ m := by rw [hmm]; exact Int.emod_nonneg _ (by omega)
    have hm1 : m < N := by rw [hmm]; exact Int.emod_lt_of_pos _ (by omega)
    have hqm : N * q + m = a * f := by rw [hq, hmm]; exact Int.mul_ediv_add_emod _ _
    rw [← hq] at hw2 hq0 hq1
    rw [drop_step z81 xs i h0 hlt, show xs.getD i.toNat z81 = rd_T81 xs i from rfl] at hinv
    simp only [fsM, ← hf, Int.mul_add] at hinv
    have hfs : 0 ≤ a * fsM (xs.drop (i + 1).toNat) := by
      refine Int.mul_nonneg ha ?_
      have := (fsM_bound (xs.drop (i + 1).toNat) (fun y hy => hfit y (List.mem_of_mem_drop hy))).1
      omega
    have hinv' : N * (x - q) = a * fsM (xs.drop (i + 1).toNat) + (R + m) := by rw [Int.mul_sub]; omega
    have hx' : 0 ≤ x - q := by
      have h1 : N * 0 ≤ N * (x - q) := by rw [hinv']; omega
      exact Int.le_of_mul_le_mul_left h1 (by omega)
    have hw3 : wrap64 (x - q) = x - q := by unfold wrap64; omega
    have hR3 : R + m ≤ (N - 1) * (i + 1) := by rw [Int.mul_add]; omega
    obtain ⟨r, hr, hk2⟩ := ih (i + 1) (x - q) (R + m) (acc ++ [q]) (by omega) (by omega) (by simp; omega) hx' (by omega) (by omega) hR3 hinv'
    refine ⟨r, hr, fun k hk => ?_⟩
    obtain ⟨k, rfl⟩ : ∃ m, k = m + 1 := ⟨k - 1, by omega⟩
    obtain ⟨n1, n2⟩ := hneed k (by omega)
    have hNz : ¬ N = 0 := by omega
    have hal : acc.length < 17592186044416 := by omega
    have hya : i < ((acc ++ [q]).length : Int) := by simp; omega
    have hrd : rd (acc ++ [q]) i = q := by
      have e : i.toNat = acc.length := by omega
      unfold rd; rw [e]; simp [List.getD_eq_getElem?_getD]
    simp only [impl_ShareFood.l0, spec_ShareFood.l0, if_pos hlt, if_pos h0, n1, n2, Option.bind_some, if_neg hNz, if_pos hal, ← hf, hw1, hw2, if_pos hya, hrd, hw3, wrap_small (n := xs.length) h0 hlt (by omega)]
    exact hk2 k (by omega)
theorem shareFood_ev (xs : List S81) (a : Int) (hn : xs.length ≤ 1048576) : ∃ r, r.length ≤ xs.length ∧ ∀ k, 3 * xs.length + 24 < k → impl_ShareFood.f k xs a = some r ∧ spec_ShareFood.f k xs a = some r := by
  obtain ⟨b, N, hb, ht, hz, hneed⟩ := needOf_ev xs hn
  cases b with
  | true =>
    obtain ⟨hN, h1, h8, hfit, hN1, hN2⟩ := ht rfl
    by_cases hin : 0 ≤ a ∧ a ≤ 10000
    · obtain ⟨r, hr, hk2⟩ := food_loop xs a N h8 h1 hfit hin.1 hin.2 hN1 hN2 hneed xs.length 0 a 0 [] (by omega) (by omega) (by simp) hin.1 hin.2 (by omega) (by simp) (by rw [Int.toNat_zero, List.drop_zero, ← hN, Int.add_zero, Int.mul_comm])
      refine ⟨r, by omega, fun k hk => ?_⟩
      obtain ⟨k, rfl⟩ : ∃ m, k = m + 1 := ⟨k - 1, by omega⟩
      obtain ⟨r1, r2⟩ := hk2 k (by omega)
      unfold impl_ShareFood.f spec_ShareFood.f
      simp only [(hb (k + 1) (by omega)).1, (hb (k + 1) (by omega)).2, Option.bind_some, if_true, l1In_eq, inRange_eq, impl_ShareFood.j0, spec_ShareFood.j0, hin, and_self, decide_true, Bool.not_true, Bool.false_eq_true, if_false]
      exact ⟨r1, r2⟩
    · refine ⟨[], by simp, fun k hk => ?_⟩
      obtain ⟨k, rfl⟩ : ∃ m, k = m + 1 := ⟨k - 1, by omega⟩
      unfold impl_ShareFood.f spec_ShareFood.f
      simp only [(hb (k + 1) (by omega)).1, (hb (k + 1) (by omega)).2, Option.bind_some, if_true, l1In_eq, inRange_eq, impl_ShareFood.j0, spec_ShareFood.j0, hin, decide_false, Bool.not_false, and_self]
  | false =>
    refine ⟨[], by simp, fun k hk => ?_⟩
    obtain ⟨k, rfl⟩ : ∃ m, k = m + 1 := ⟨k - 1, by omega⟩
    unfold impl_ShareFood.f spec_ShareFood.f
    simp only [(hb (k + 1) (by omega)).1, (hb (k + 1) (by omega)).2, Option.bind_some, Bool.false_eq_true, if_false, impl_ShareFood.j0, spec_ShareFood.j0, if_true, and_self]

theorem FnExactShareFood : laws_FnExactShareFood.Stmt := by
  intro xs n hxs _
  obtain ⟨z, hz, hz2⟩ := szMemberS_ev xs hxs.1
  by_cases hneg : z < 0
  · exact ⟨0, by unfold laws_FnExactShareFood.f; rw [hz]; simp only [Option.bind_some]; rw [if_pos hneg]⟩
  have hn : xs.length ≤ 1048576 := hz2.resolve_left hneg
  have hn2 : (xs.map cMember).length ≤ 1048576 := by simpa using hn
  have hlen : (xs.map cMember).length = xs.length := by simp
  obtain ⟨r, hrl, hr⟩ := shareFood_ev (xs.map cMember) n hn2
  obtain ⟨k, hk⟩ : ∃ k, k = 3 * xs.length + 40 := ⟨_, rfl⟩
  obtain ⟨h1, h2⟩ := hr (k + 1) (by omega)
  obtain ⟨h1', _⟩ := hr k (by omega)
  have q := eqIntS_ev r (by omega) (k + 1) (by omega)
  have q' := eqIntS_ev r (by omega) k (by omega)
  obtain ⟨m0, hm0⟩ := markMemberS_ev (xs.map cMember) hn2 (k + 1) (by omega)
  obtain ⟨m, hm, hml, hmj⟩ := markIntS_ev r (by omega) 1 (by omega) (by omega) k (by omega)
  have hh := heldIntS_ev m (by omega) 1 (by omega) (by omega) k (by omega) (fun j hj => hmj j (by omega))
  rw [hml] at hh
  have e1 : ¬ (1 + 4 * ((xs.map cMember).length : Int) < 0) := by omega
  have e2 : ¬ (1 + (r.length : Int) < 0) := by omega
  refine ⟨k + 1, ?_⟩
  unfold laws_FnExactShareFood.f
  rw [hz]; simp only [Option.bind_some]; rw [if_neg hneg]
  simp only [toMemberS_ev xs hn (k + 1) (by omega), toMemberS_ev xs hn k (by omega), eqMemberS_ev (xs.map cMember) hn2 (k + 1) (by omega), h1, h2, h1', q, q', hm0, hm, hh, Option.bind_some, if_true, if_neg e1, if_neg e2, laws_FnExactShareFood.j0, Bool.not_true, Bool.false_eq_true, if_false]

end Go.Proofs.Ytcokbhkjfdddkaa.Pure
