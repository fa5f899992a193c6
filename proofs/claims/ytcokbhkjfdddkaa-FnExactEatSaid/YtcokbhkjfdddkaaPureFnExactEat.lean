/- The program's Eat returns what the reference's Eat returns, for every party whose crew and list of those lost are together no longer than 2^20, leaves it as it was, and hands out a party that shares no memory with it. No further condition. -/
import Derived.Test.YtcokbhkjfdddkaaSFnExactEat
namespace Go.Proofs.Ytcokbhkjfdddkaa.Pure
open Go.RowKit Go.Proofs.Ytcokbhkjfdddkaa.Q Go.Proofs.YtcokbhkjfdddkaaW.PrintWords Go.Proofs.YtcokbhkjfdddkaaW.PrintLast Go.Proofs.YtcokbhkjfdddkaaW.PrintMore
set_option linter.unusedVariables false
set_option linter.unusedSimpArgs false

theorem ext_getD {α : Type} {d : α} {a b : List α} (h : a.length = b.length) (hj : ∀ j, j < a.length → a.getD j d = b.getD j d) : a = b := by
  apply List.ext_getElem h
  intro j h1 h2
  have := hj j h1
  simpa [List.getD_eq_getElem?_getD, List.getElem?_eq_getElem h1, List.getElem?_eq_getElem h2] using this

theorem getD_set {α : Type} {d : α} (a : List α) (i j : Nat) (v : α) (h : i < a.length) : (a.set i v).getD j d = if i = j then v else a.getD j d := by
  simp only [List.getD_eq_getElem?_getD, List.getElem?_set]
  by_cases e : i = j
  · subst e; simp [h]
  · simp [e]

theorem wrap_small {i : Int} {n : Nat} (h0 : 0 ≤ i) (h : i < (n : Int)) (hn : n ≤ 1048576) : wrap64 (i + 1) = i + 1 := by
  unfold wrap64; omega

theorem drop_step {α : Type} (d : α) (l : List α) (i : Int) (h0 : 0 ≤ i) (h : i < (l.length : Int)) : l.drop i.toNat = l.getD i.toNat d :: l.drop (i + 1).toNat := by
  have h1 : i.toNat < l.length := by omega
  rw [List.drop_eq_getElem_cons h1, show (i + 1).toNat = i.toNat + 1 by omega]
  congr 1
  simp [List.getD_eq_getElem?_getD, List.getElem?_eq_getElem h1]

def cMember (x : S113) : S81 := ⟨x.f0, x.f1, x.f2, x.f3⟩
theorem toMember_ev (x : S113) : laws_toMember.f x.f0 x.f1 x.f2 x.f3 = some (x.f0, x.f1, x.f2, x.f3) := rfl
theorem toMemberS_loop (xs : List S113) (hn : xs.length ≤ 1048576) : ∀ (d k : Nat) (acc : List S81) (i : Int), acc.length = xs.length → 0 ≤ i → (xs.length : Int) - i = d → d < k →
    (∀ j : Nat, (j : Int) < i → acc.getD j z81 = (xs.map cMember).getD j z81) → laws_toMemberS.l0 k xs acc i = some (xs.map cMember) := by
  intro d
  induction d with
  | zero =>
    intro k acc i hl h0 hd hk hj
    obtain ⟨k, rfl⟩ : ∃ m, k = m + 1 := ⟨k - 1, by omega⟩
    simp only [laws_toMemberS.l0]
    rw [if_neg (by omega)]
    exact congrArg some (ext_getD (by rw [List.length_map]; exact hl) (fun j h => hj j (by omega)))
  | succ d ih =>
    intro k acc i hl h0 hd hk hj
    obtain ⟨k, rfl⟩ : ∃ m, k = m + 1 := ⟨k - 1, by omega⟩
    simp only [laws_toMemberS.l0, toMember_ev, Option.bind_some]
    rw [if_pos (by omega), if_pos h0, if_pos (by omega), wrap_small (n := xs.length) h0 (by omega) hn]
    refine ih k _ _ (by simpa using hl) (by omega) (by omega) (by omega) ?_
    intro j hj'
    rw [getD_set _ _ _ _ (by omega)]
    by_cases e : i.toNat = j
    · rw [if_pos e]
      have h1 : j < xs.length := by omega
      unfold rd_T113
      rw [e]
      simp [List.getD_eq_getElem?_getD, List.getElem?_eq_getElem h1, cMember]
    · rw [if_neg e]; exact hj j (by omega)
theorem toMemberS_ev (xs : List S113) (hn : xs.length ≤ 1048576) (k : Nat) (hk : xs.length < k) : laws_toMemberS.f k xs = some (xs.map cMember) := by
  unfold laws_toMemberS.f
  rw [if_pos (by omega), if_pos (by omega)]
  exact toMemberS_loop xs hn xs.length k _ 0 (by simp) (by omega) (by omega) hk (fun j hj => by omega)

theorem eqMember_ev (x : S81) : laws_eqMember.f x.f0 x.f1 x.f2 x.f3 x.f0 x.f1 x.f2 x.f3 = some true := by simp [laws_eqMember.f]
theorem eqMemberS_loop (xs : List S81) (hn : xs.length ≤ 1048576) : ∀ (d k : Nat) (i : Int), 0 ≤ i → (xs.length : Int) - i = d → d < k → laws_eqMemberS.l0 k xs xs i = some true := by
  intro d
  induction d with
  | zero =>
    intro k i h0 hd hk
    obtain ⟨k, rfl⟩ : ∃ m, k = m + 1 := ⟨k - 1, by omega⟩
    simp only [laws_eqMemberS.l0]
    rw [if_neg (by omega)]
  | succ d ih =>
    intro k i h0 hd hk
    obtain ⟨k, rfl⟩ : ∃ m, k = m + 1 := ⟨k - 1, by omega⟩
    simp only [laws_eqMemberS.l0, eqMember_ev, Option.bind_some, if_true]
    rw [if_pos (by omega), if_pos h0, if_pos (by omega), wrap_small (n := xs.length) h0 (by omega) hn]
    exact ih k _ (by omega) (by omega) (by omega)
theorem eqMemberS_ev (xs : List S81) (hn : xs.length ≤ 1048576) (k : Nat) (hk : xs.length < k) : laws_eqMemberS.f k xs xs = some true := by
  unfold laws_eqMemberS.f
  rw [if_pos rfl]
  exact eqMemberS_loop xs hn xs.length k 0 (by omega) (by omega) hk

theorem toBoolS_loop (xs : List Bool) (hn : xs.length ≤ 1048576) : ∀ (d k : Nat) (acc : List Bool) (i : Int), acc.length = xs.length → 0 ≤ i → (xs.length : Int) - i = d → d < k →
    (∀ j : Nat, (j : Int) < i → acc.getD j false = xs.getD j false) → laws_toBoolS.l0 k xs acc i = some xs := by
  intro d
  induction d with
  | zero =>
    intro k acc i hl h0 hd hk hj
    obtain ⟨k, rfl⟩ : ∃ m, k = m + 1 := ⟨k - 1, by omega⟩
    simp only [laws_toBoolS.l0]
    rw [if_neg (by omega)]
    exact congrArg some (ext_getD hl (fun j h => hj j (by omega)))
  | succ d ih =>
    intro k acc i hl h0 hd hk hj
    obtain ⟨k, rfl⟩ : ∃ m, k = m + 1 := ⟨k - 1, by omega⟩
    simp only [laws_toBoolS.l0]
    rw [if_pos (by omega), if_pos h0, if_pos (by omega), wrap_small (n := xs.length) h0 (by omega) hn]
    refine ih k _ _ (by simpa using hl) (by omega) (by omega) (by omega) ?_
    intro j hj'
    rw [getD_set _ _ _ _ (by omega)]
    by_cases e : i.toNat = j
    · rw [if_pos e]; unfold rdOf; rw [e]
    · rw [if_neg e]; exact hj j (by omega)

theorem toBoolS_ev (xs : List Bool) (hn : xs.length ≤ 1048576) (k : Nat) (hk : xs.length < k) : laws_toBoolS.f k xs = some xs := by
  unfold laws_toBoolS.f
  rw [if_pos (by omega), if_pos (by omega)]
  exact toBoolS_loop xs hn xs.length k _ 0 (by simp) (by omega) (by omega) hk (fun j hj => by omega)

theorem eqBoolS_loop (xs : List Bool) (hn : xs.length ≤ 1048576) : ∀ (d k : Nat) (i : Int), 0 ≤ i → (xs.length : Int) - i = d → d < k → laws_eqBoolS.l0 k xs xs i = some true := by
  intro d
  induction d with
  | zero =>
    intro k i h0 hd hk
    obtain ⟨k, rfl⟩ : ∃ m, k = m + 1 := ⟨k - 1, by omega⟩
    simp only [laws_eqBoolS.l0]
    rw [if_neg (by omega)]
  | succ d ih =>
    intro k i h0 hd hk
    obtain ⟨k, rfl⟩ : ∃ m, k = m + 1 := ⟨k - 1, by omega⟩
    simp only [laws_eqBoolS.l0]
    rw [if_pos (by omega), if_pos h0, if_pos (by omega), if_neg (by simp), wrap_small (n := xs.length) h0 (by omega) hn]
    exact ih k _ (by omega) (by omega) (by omega)

theorem eqBoolS_ev (xs : List Bool) (hn : xs.length ≤ 1048576) (k : Nat) (hk : xs.length < k) : laws_eqBoolS.f k xs xs = some true := by
  unfold laws_eqBoolS.f
  rw [if_pos rfl]
  exact eqBoolS_loop xs hn xs.length k 0 (by omega) (by omega) hk

theorem l1In_eq (a b c : Int) : spec_l1In.f a b c = some (decide (b ≤ a ∧ a ≤ c)) := by
  unfold spec_l1In.f
  by_cases h : a ≥ b
  · rw [if_pos h]; congr 1; have : b ≤ a := h; simp [this]
  · rw [if_neg h]; have : ¬ b ≤ a := h; simp [this]
theorem inRange_eq (a b c : Int) : impl_InRange.f a b c = some (decide (b ≤ a ∧ a ≤ c)) := by
  unfold impl_InRange.f
  by_cases h : b ≤ a
  · rw [if_pos h]; simp [h]
  · rw [if_neg h]; simp [h]

def fitM (m : S81) : Prop := 1 ≤ m.f0 ∧ m.f0 ≤ 99 ∧ 0 ≤ m.f1 ∧ m.f1 ≤ 100 ∧ 1 ≤ m.f2 ∧ m.f2 ≤ 10
theorem areCrew_loop (xs : List S81) (hn : xs.length ≤ 1048576) : ∀ (d : Nat) (i : Int), 0 ≤ i → (xs.length : Int) - i = d →
    ∃ b, (∀ k, d < k → impl_AreCrew.l0 k xs xs (xs.length : Int) i = some b ∧ spec_AreCrew.l0 k xs i = some b) ∧ (b = true → (1 ≤ xs.length ∧ xs.length ≤ 8) ∧ ∀ j : Int, i ≤ j → j < (xs.length : Int) → fitM (rd_T81 xs j)) := by
  intro d
  induction d with
  | zero =>
    intro i h0 hd
    have hlt : ¬ i < (xs.length : Int) := by omega
    refine ⟨decide (1 ≤ (xs.length : Int) ∧ (xs.length : Int) ≤ 8), fun k hk => ?_, fun hb => ?_⟩
    · obtain ⟨k, rfl⟩ : ∃ m, k = m + 1 := ⟨k - 1, by omega⟩
      simp only [impl_AreCrew.l0, spec_AreCrew.l0, if_neg hlt, l1In_eq, inRange_eq, Option.bind_some, and_self]
    · have := of_decide_eq_true hb
      exact ⟨by omega, fun j h1 h2 => by omega⟩
  | succ d ih =>
    intro i h0 hd
    have hlt : i < (xs.length : Int) := by omega
    obtain ⟨b, hb, hp⟩ := ih (i + 1) (by omega) (by omega)
    have hw : wrap64 (i - 1) = i - 1 := by unfold wrap64; omega
    by_cases ok : (1 ≤ (rd_T81 xs i).f0 ∧ (rd_T81 xs i).f0 ≤ 99 ∧ 0 ≤ (rd_T81 xs i).f1 ∧ (rd_T81 xs i).f1 ≤ 100 ∧ 1 ≤ (rd_T81 xs i).f2 ∧ (rd_T81 xs i).f2 ≤ 10) ∧ (i > 0 → (rd_T81 xs (i - 1)).f0 < (rd_T81 xs i).f0)
    · refine ⟨b, fun k hk => ?_, fun e => ⟨(hp e).1, fun j h1 h2 => ?_⟩⟩
      · obtain ⟨k, rfl⟩ : ∃ m, k = m + 1 := ⟨k - 1, by omega⟩
        obtain ⟨b1, b2⟩ := hb k (by omega)
        have e1 : 1 ≤ (rd_T81 xs i).f0 ∧ (rd_T81 xs i).f0 ≤ 99 := ⟨ok.1.1, ok.1.2.1⟩
        have e2 : 0 ≤ (rd_T81 xs i).f1 ∧ (rd_T81 xs i).f1 ≤ 100 := ⟨ok.1.2.2.1, ok.1.2.2.2.1⟩
        have e3 : 1 ≤ (rd_T81 xs i).f2 ∧ (rd_T81 xs i).f2 ≤ 10 := ok.1.2.2.2.2
        simp only [impl_AreCrew.l0, spec_AreCrew.l0, if_pos hlt, if_pos h0, l1In_eq, inRange_eq, Option.bind_some, decide_eq_true_eq, if_pos e1, if_pos e2, if_pos e3, hw, wrap_small (n := xs.length) h0 hlt hn]
        by_cases hi : i > 0
        · have h1 : 0 ≤ i - 1 := by omega
          have h2 : i - 1 < (xs.length : Int) := by omega
          have h3 := ok.2 hi
          have h4 : ¬ (rd_T81 xs i).f0 ≤ (rd_T81 xs (i - 1)).f0 := by omega
          have h5 : ¬ (rd_T81 xs (i - 1)).f0 ≥ (rd_T81 xs i).f0 := by omega
          simp only [if_pos hi, if_pos h1, if_pos h2, if_neg h4, if_neg h5]
          exact ⟨b1, b2⟩
        · simp only [if_neg hi]
          exact ⟨b1, b2⟩
      · by_cases e2 : j = i
        · subst e2; exact ok.1
        · exact (hp e).2 j (by omega) h2
    · refine ⟨false, fun k hk => ?_, fun e => by cases e⟩
      obtain ⟨k, rfl⟩ : ∃ m, k = m + 1 := ⟨k - 1, by omega⟩
      simp only [impl_AreCrew.l0, spec_AreCrew.l0, if_pos hlt, if_pos h0, l1In_eq, inRange_eq, Option.bind_some, decide_eq_true_eq, hw]
      constructor
      · repeat' split
        all_goals first | rfl | (exfalso; omega)
      · repeat' split
        all_goals first | rfl | (exfalso; omega)
theorem areCrew_ev (xs : List S81) (hn : xs.length ≤ 1048576) : ∃ b, (∀ k, xs.length < k → impl_AreCrew.f k xs = some b ∧ spec_AreCrew.f k xs = some b) ∧ (b = true → (1 ≤ xs.length ∧ xs.length ≤ 8) ∧ ∀ j : Int, 0 ≤ j → j < (xs.length : Int) → fitM (rd_T81 xs j)) := by
  obtain ⟨b, h, hp⟩ := areCrew_loop xs hn xs.length 0 (by omega) (by omega)
  exact ⟨b, h, hp⟩

def fsM : List S81 → Int
  | [] => 0
  | m :: ms => m.f2 + fsM ms
theorem fsM_bound : ∀ l : List S81, (∀ m ∈ l, fitM m) → (l.length : Int) ≤ fsM l ∧ fsM l ≤ 10 * (l.length : Int)
  | [], _ => by simp [fsM]
  | m :: ms, h => by
    have h1 := fsM_bound ms (fun x hx => h x (List.mem_cons_of_mem _ hx))
    have h2 := h m (List.mem_cons_self)
    unfold fitM at h2
    simp only [fsM, List.length_cons]
    omega
theorem fit_mem {xs : List S81} (h : ∀ j : Int, 0 ≤ j → j < (xs.length : Int) → fitM (rd_T81 xs j)) : ∀ m ∈ xs, fitM m := by
  intro m hm
  obtain ⟨j, hj, rfl⟩ := List.mem_iff_getElem.mp hm
  have := h (j : Int) (by omega) (by omega)
  unfold rd_T81 at this
  simpa [List.getD_eq_getElem?_getD, List.getElem?_eq_getElem hj] using this
theorem needOf_loop (xs : List S81) (hn : xs.length ≤ 8) (hfit : ∀ m ∈ xs, fitM m) (hc : ∀ k, xs.length < k → spec_AreCrew.f k xs = some true) : ∀ (d : Nat) (i a : Int), 0 ≤ i → (xs.length : Int) - i = d → 0 ≤ a → a ≤ 1000 - 10 * d →
    ∀ k, xs.length + d + 2 < k → impl_NeedOf.l0 k a xs (xs.length : Int) i = some (a + fsM (xs.drop i.toNat)) ∧ spec_NeedOf.l0 k xs a i = some (a + fsM (xs.drop i.toNat)) := by
  intro d
  induction d with
  | zero =>
    intro i a h0 hd _ _ k hk
    obtain ⟨k, rfl⟩ : ∃ m, k = m + 1 := ⟨k - 1, by omega⟩
    have hlt : ¬ i < (xs.length : Int) := by omega
    simp only [impl_NeedOf.l0, spec_NeedOf.l0, if_neg hlt, List.drop_eq_nil_of_le (show xs.length ≤ i.toNat by omega), fsM, Int.add_zero, and_self]
  | succ d ih =>
    intro i a h0 hd ha hb k hk
    obtain ⟨k, rfl⟩ : ∃ m, k = m + 1 := ⟨k - 1, by omega⟩
    have hlt : i < (xs.length : Int) := by omega
    have hm : fitM (rd_T81 xs i) := hfit _ (by
      unfold rd_T81
      have h1 : i.toNat < xs.length := by omega
      simp [List.getD_eq_getElem?_getD, List.getElem?_eq_getElem h1])
    unfold fitM at hm
    have hw : wrap64 (a + (rd_T81 xs i).f2) = a + (rd_T81 xs i).f2 := by unfold wrap64; omega
    obtain ⟨h1, h2⟩ := ih (i + 1) (a + (rd_T81 xs i).f2) (by omega) (by omega) (by omega) (by omega) k (by omega)
    rw [drop_step z81 xs i h0 hlt, show xs.getD i.toNat z81 = rd_T81 xs i from rfl]
    simp only [impl_NeedOf.l0, spec_NeedOf.l0, if_pos hlt, if_pos h0, hc k (by omega), Option.bind_some, if_true, hw, wrap_small (n := xs.length) h0 hlt (by omega), fsM, h1, h2, Int.add_assoc, and_self]
theorem needOf_ev (xs : List S81) (hn : xs.length ≤ 1048576) : ∃ b c, (∀ k, xs.length < k → impl_AreCrew.f k xs = some b ∧ spec_AreCrew.f k xs = some b) ∧
    (b = true → c = fsM xs ∧ 1 ≤ xs.length ∧ xs.length ≤ 8 ∧ (∀ m ∈ xs, fitM m) ∧ 1 ≤ c ∧ c ≤ 80) ∧ (b = false → c = 0) ∧
    ∀ k, 2 * xs.length + 3 < k → impl_NeedOf.f k xs = some c ∧ spec_NeedOf.f k xs = some c := by
  obtain ⟨b, hb, hp⟩ := areCrew_ev xs hn
  cases b with
  | true =>
    obtain ⟨⟨h1, h8⟩, hf⟩ := hp rfl
    have hm := fit_mem hf
    have hbd := fsM_bound xs hm
    refine ⟨true, fsM xs, hb, fun _ => ⟨rfl, h1, h8, hm, by omega, by omega⟩, (fun e => by cases e), fun k hk => ?_⟩
    obtain ⟨h3, h4⟩ := needOf_loop xs h8 hm (fun k hk => (hb k hk).2) xs.length 0 0 (by omega) (by omega) (by omega) (by omega) k (by omega)
    rw [Int.toNat_zero, List.drop_zero, Int.zero_add] at h3 h4
    unfold impl_NeedOf.f spec_NeedOf.f
    simp only [(hb k (by omega)).1, Option.bind_some, if_true]
    exact ⟨h3, h4⟩
  | false =>
    refine ⟨false, 0, hb, fun e => (by cases e), fun _ => rfl, fun k hk => ?_⟩
    obtain ⟨k, rfl⟩ : ∃ m, k = m + 1 := ⟨k - 1, by omega⟩
    unfold impl_NeedOf.f spec_NeedOf.f
    simp only [(hb (k + 1) (by omega)).1, Option.bind_some, Bool.false_eq_true, if_false, spec_NeedOf.l0, (hb k (by omega)).2, ite_self, and_self]

def mk4 (c : Int) : S81 := ⟨c, c + 1, c + 2, (Int.tmod (c + 3) 3 == 0)⟩
theorem rdM_set (l : List S81) (i : Int) (h0 : 0 ≤ i) (h : i < (l.length : Int)) (a : S81) : rd_T81 (l.set i.toNat a) i = a := by
  unfold rd_T81; rw [getD_set _ _ _ _ (by omega), if_pos rfl]
theorem markMemberS_loop2 (n : Nat) (hn : n ≤ 1048576) : ∀ (d k : Nat) (acc : List S81) (c i : Int), acc.length = n → 0 ≤ i → (n : Int) - i = d → 0 ≤ c → c + 4 * d ≤ 1000000000 → d < k →
    ∃ r, laws_markMemberS.l0 k acc c i = some (c + 4 * d, r) ∧ r.length = n ∧ ∀ j : Nat, j < n → r.getD j z81 = if (j : Int) < i then acc.getD j z81 else mk4 (c + 4 * (j - i)) := by
  intro d
  induction d with
  | zero =>
    intro k acc c i hl h0 hd hc hb hk
    obtain ⟨k, rfl⟩ : ∃ m, k = m + 1 := ⟨k - 1, by omega⟩
    simp only [laws_markMemberS.l0]
    rw [if_neg (by omega)]
    exact ⟨acc, by simp, hl, fun j hj => by rw [if_pos (by omega)]⟩
  | succ d ih =>
    intro k acc c i hl h0 hd hc hb hk
    obtain ⟨k, rfl⟩ : ∃ m, k = m + 1 := ⟨k - 1, by omega⟩
    have w1 : wrap64 (c + 1) = c + 1 := by unfold wrap64; omega
    have w2 : wrap64 (c + 1 + 1) = c + 2 := by unfold wrap64; omega
    have w3 : wrap64 (c + 2 + 1) = c + 3 := by unfold wrap64; omega
    have w4 : wrap64 (c + 3 + 1) = c + 4 := by unfold wrap64; omega
    have hi : i < (acc.length : Int) := by omega
    obtain ⟨r, hr, hrl, hrj⟩ := ih k (acc.set i.toNat (mk4 c)) (c + 4) (i + 1) (by simpa using hl) (by omega) (by omega) (by omega) (by omega) (by omega)
    refine ⟨r, ?_, hrl, fun j hj => ?_⟩
    · simp only [laws_markMemberS.l0, Option.bind_some, w1, w2, w3, w4, rdM_set acc i h0 hi, List.set_set]
      rw [if_pos (by omega), if_pos h0, wrap_small (n := n) h0 (by omega) hn]
      rw [show (⟨c, c + 1, c + 2, (Int.tmod (c + 3) 3 == 0)⟩ : S81) = mk4 c from rfl, hr]
      congr 2; omega
    · rw [hrj j hj, getD_set _ _ _ _ (by omega)]
      by_cases h1 : (j : Int) < i
      · rw [if_pos (by omega), if_neg (by omega), if_pos h1]
      · rw [if_neg h1]
        by_cases h2 : (j : Int) = i
        · rw [if_pos (by omega), if_pos (by omega), show c + 4 * ((j : Int) - i) = c by omega]
        · rw [if_neg (by omega), show c + 4 + 4 * ((j : Int) - (i + 1)) = c + 4 * ((j : Int) - i) by omega]
theorem markMemberS_ev2 (l : List S81) (hn : l.length ≤ 1048576) (k : Nat) (hk : l.length < k) :
    ∃ r, laws_markMemberS.f k l 1 = some (1 + 4 * (l.length : Int), r) ∧ r.length = l.length ∧ ∀ j : Nat, j < l.length → r.getD j z81 = mk4 (1 + 4 * j) := by
  obtain ⟨r, h1, h2, h3⟩ := markMemberS_loop2 l.length hn l.length k l 1 0 rfl (by omega) (by omega) (by omega) (by omega) hk
  refine ⟨r, h1, h2, fun j hj => ?_⟩
  rw [h3 j hj, if_neg (by omega), show (1 : Int) + 4 * ((j : Int) - 0) = 1 + 4 * j by omega]
theorem heldMemberS_loop (l : List S81) (hn : l.length ≤ 1048576) (hj : ∀ j : Nat, j < l.length → l.getD j z81 = mk4 (1 + 4 * j)) : ∀ (d k : Nat) (i : Int), 0 ≤ i → (l.length : Int) - i = d → d < k →
    laws_heldMemberS.l0 k l (1 + 4 * i) i = some (1 + 4 * (l.length : Int)) := by
  intro d
  induction d with
  | zero =>
    intro k i h0 hd hk
    obtain ⟨k, rfl⟩ : ∃ m, k = m + 1 := ⟨k - 1, by omega⟩
    simp only [laws_heldMemberS.l0]
    rw [if_neg (by omega)]; congr 1; omega
  | succ d ih =>
    intro k i h0 hd hk
    obtain ⟨k, rfl⟩ : ∃ m, k = m + 1 := ⟨k - 1, by omega⟩
    have h1 : rd_T81 l i = mk4 (1 + 4 * i) := by
      have := hj i.toNat (by omega)
      unfold rd_T81; rw [this]; congr 1; omega
    have w1 : wrap64 (1 + 4 * i + 1) = 1 + 4 * i + 1 := by unfold wrap64; omega
    have w2 : wrap64 (1 + 4 * i + 1 + 1) = 1 + 4 * i + 2 := by unfold wrap64; omega
    have w3 : wrap64 (1 + 4 * i + 2 + 1) = 1 + 4 * i + 3 := by unfold wrap64; omega
    have w4 : wrap64 (1 + 4 * i + 3 + 1) = 1 + 4 * (i + 1) := by unfold wrap64; omega
    simp only [laws_heldMemberS.l0, h1, w1, w2, w3, w4, mk4, if_true, bne_self_eq_false, Bool.false_eq_true, if_false]
    rw [if_pos (by omega), if_pos h0, wrap_small (n := l.length) h0 (by omega) hn]
    exact ih k (i + 1) (by omega) (by omega) (by omega)
theorem heldMemberS_ev (l : List S81) (hn : l.length ≤ 1048576) (hj : ∀ j : Nat, j < l.length → l.getD j z81 = mk4 (1 + 4 * j)) (k : Nat) (hk : l.length < k) : laws_heldMemberS.f k l 1 = some (1 + 4 * (l.length : Int)) := by
  have := heldMemberS_loop l hn hj l.length k 0 (by omega) (by omega) hk
  rw [Int.mul_zero, Int.add_zero] at this
  exact this

theorem markBoolS_loop (n : Nat) (hn : n ≤ 1048576) : ∀ (d k : Nat) (acc : List Bool) (c i : Int), acc.length = n → 0 ≤ i → (n : Int) - i = d → 0 ≤ c → c + d ≤ 1000000000 → d < k →
    ∃ r, laws_markBoolS.l0 k acc c i = some (c + d, r) ∧ r.length = n ∧ ∀ j : Nat, j < n → r.getD j false = if (j : Int) < i then acc.getD j false else (Int.tmod (c + (j - i)) 3 == 0) := by
  intro d
  induction d with
  | zero =>
    intro k acc c i hl h0 hd hc hb hk
    obtain ⟨k, rfl⟩ : ∃ m, k = m + 1 := ⟨k - 1, by omega⟩
    simp only [laws_markBoolS.l0]
    rw [if_neg (by omega)]
    exact ⟨acc, by simp, hl, fun j hj => by rw [if_pos (by omega)]⟩
  | succ d ih =>
    intro k acc c i hl h0 hd hc hb hk
    obtain ⟨k, rfl⟩ : ∃ m, k = m + 1 := ⟨k - 1, by omega⟩
    simp only [laws_markBoolS.l0]
    rw [if_pos (by omega), if_pos h0, wrap_small (n := n) h0 (by omega) hn, show wrap64 (c + 1) = c + 1 by unfold wrap64; omega]
    obtain ⟨r, hr, hrl, hrj⟩ := ih k (acc.set i.toNat (Int.tmod c 3 == 0)) (c + 1) (i + 1) (by simpa using hl) (by omega) (by omega) (by omega) (by omega) (by omega)
    refine ⟨r, by rw [hr]; congr 2; omega, hrl, fun j hj => ?_⟩
    rw [hrj j hj, getD_set _ _ _ _ (by omega)]
    by_cases h1 : (j : Int) < i
    · rw [if_pos (by omega), if_neg (by omega), if_pos h1]
    · rw [if_neg h1]
      by_cases h2 : (j : Int) = i
      · rw [if_pos (by omega), if_pos (by omega), show c + ((j : Int) - i) = c by omega]
      · rw [if_neg (by omega), show c + 1 + ((j : Int) - (i + 1)) = c + ((j : Int) - i) by omega]
theorem markBoolS_ev (l : List Bool) (hn : l.length ≤ 1048576) (c : Int) (hc : 0 ≤ c) (hb : c + l.length ≤ 1000000000) (k : Nat) (hk : l.length < k) :
    ∃ r, laws_markBoolS.f k l c = some (c + l.length, r) ∧ r.length = l.length ∧ ∀ j : Nat, j < l.length → r.getD j false = (Int.tmod (c + j) 3 == 0) := by
  obtain ⟨r, h1, h2, h3⟩ := markBoolS_loop l.length hn l.length k l c 0 rfl (by omega) (by omega) hc hb hk
  refine ⟨r, h1, h2, fun j hj => ?_⟩
  rw [h3 j hj, if_neg (by omega), show c + ((j : Int) - 0) = c + j by omega]
theorem heldBoolS_loop (l : List Bool) (hn : l.length ≤ 1048576) : ∀ (d k : Nat) (c i : Int), 0 ≤ i → (l.length : Int) - i = d → 0 ≤ c → c + d ≤ 1000000000 → d < k →
    (∀ j : Nat, i ≤ j → j < l.length → l.getD j false = (Int.tmod (c + (j - i)) 3 == 0)) → laws_heldBoolS.l0 k l c i = some (c + d) := by
  intro d
  induction d with
  | zero =>
    intro k c i h0 hd hc hb hk hj
    obtain ⟨k, rfl⟩ : ∃ m, k = m + 1 := ⟨k - 1, by omega⟩
    simp only [laws_heldBoolS.l0]
    rw [if_neg (by omega)]; simp
  | succ d ih =>
    intro k c i h0 hd hc hb hk hj
    obtain ⟨k, rfl⟩ : ∃ m, k = m + 1 := ⟨k - 1, by omega⟩
    have h1 : rdOf false l i = (Int.tmod c 3 == 0) := by
      have := hj i.toNat (by omega) (by omega)
      unfold rdOf; rw [this, show c + ((i.toNat : Int) - i) = c by omega]
    simp only [laws_heldBoolS.l0, h1, bne_self_eq_false, Bool.false_eq_true, if_false]
    rw [if_pos (by omega), if_pos h0, wrap_small (n := l.length) h0 (by omega) hn, show wrap64 (c + 1) = c + 1 by unfold wrap64; omega]
    rw [ih k (c + 1) (i + 1) (by omega) (by omega) (by omega) (by omega) (by omega) (fun j h2 h3 => by rw [hj j (by omega) h3, show c + 1 + ((j : Int) - (i + 1)) = c + ((j : Int) - i) by omega])]
    congr 1; omega
theorem heldBoolS_ev (l : List Bool) (hn : l.length ≤ 1048576) (c : Int) (hc : 0 ≤ c) (hb : c + l.length ≤ 1000000000) (k : Nat) (hk : l.length < k) (hj : ∀ j : Nat, j < l.length → l.getD j false = (Int.tmod (c + j) 3 == 0)) :
    laws_heldBoolS.f k l c = some (c + l.length) :=
  heldBoolS_loop l hn l.length k c 0 (by omega) (by omega) hc hb hk (fun j _ h => by rw [hj j h, show c + ((j : Int) - 0) = c + j by omega])

theorem szParty_ev (a b : Int) (l : List S113) (h : List Bool) (hl : l.length ≤ maxLen) (hh : h.length ≤ maxLen) : ∃ r, laws_szParty.f a b l h 1048576 = some r ∧ (r < 0 ∨ (l.length ≤ 1048576 ∧ h.length ≤ 1048576)) := by
  unfold maxLen at hl hh
  unfold laws_szParty.f laws_szMemberS.f laws_szBoolS.f
  rw [show wrap64 (1048576 - (l.length : Int)) = 1048576 - (l.length : Int) by unfold wrap64; omega]
  by_cases h1 : (1048576 - (l.length : Int)) < 0
  · rw [if_pos h1]; exact ⟨_, rfl, .inl (by omega)⟩
  · rw [if_neg h1, Option.bind_some, if_neg h1]
    rw [show wrap64 (1048576 - (l.length : Int) - (h.length : Int)) = 1048576 - (l.length : Int) - (h.length : Int) by unfold wrap64; omega]
    by_cases h2 : (1048576 - (l.length : Int) - (h.length : Int)) < 0
    · rw [if_pos h2]; exact ⟨_, rfl, .inl (by omega)⟩
    · rw [if_neg h2, Option.bind_some, if_neg h2]; exact ⟨_, rfl, .inr (by omega)⟩
theorem toParty_ev (a b : Int) (l : List S113) (h : List Bool) (hl : l.length ≤ 1048576) (hh : h.length ≤ 1048576) (k : Nat) (hk : l.length + h.length < k) : laws_toParty.f k a b l h = some (a, b, l.map cMember, h) := by
  unfold laws_toParty.f
  rw [toMemberS_ev l hl k (by omega), Option.bind_some, toBoolS_ev h hh k (by omega), Option.bind_some]
theorem eqParty_ev (a b : Int) (l : List S81) (h : List Bool) (hl : l.length ≤ 1048576) (hh : h.length ≤ 1048576) (k : Nat) (hk : l.length + h.length < k) : laws_eqParty.f k a b l h a b l h = some true := by
  unfold laws_eqParty.f
  rw [if_pos rfl, if_pos rfl, eqMemberS_ev l hl k (by omega), Option.bind_some, if_pos rfl, eqBoolS_ev h hh k (by omega), Option.bind_some, if_pos rfl]
theorem markParty_ev (a b : Int) (l : List S81) (h : List Bool) (hl : l.length ≤ 1048576) (hh : h.length ≤ 1048576) :
    ∃ l' h', ∀ k, l.length + h.length < k → laws_markParty.f k a b l h 1 = some (1 + 4 * (l.length : Int) + (h.length : Int), l', h') ∧ laws_heldParty.f k a b l' h' 1 = some (1 + 4 * (l.length : Int) + (h.length : Int)) := by
  obtain ⟨l', m0, m2, m3⟩ := markMemberS_ev2 l hl (l.length + 1) (by omega)
  obtain ⟨h', n0, n2, n3⟩ := markBoolS_ev h hh (1 + 4 * (l.length : Int)) (by omega) (by omega) (h.length + 1) (by omega)
  refine ⟨l', h', fun k hk => ?_⟩
  have m1 : laws_markMemberS.f k l 1 = some (1 + 4 * (l.length : Int), l') := by
    obtain ⟨l2, q1, q2, q3⟩ := markMemberS_ev2 l hl k (by omega)
    have e : l2 = l' := ext_getD (d := z81) (by omega) (fun j hj => by rw [q3 j (by omega), m3 j (by omega)])
    rw [q1, e]
  have n1 : laws_markBoolS.f k h (1 + 4 * (l.length : Int)) = some (1 + 4 * (l.length : Int) + h.length, h') := by
    obtain ⟨h2, q1, q2, q3⟩ := markBoolS_ev h hh (1 + 4 * (l.length : Int)) (by omega) (by omega) k (by omega)
    have e : h2 = h' := ext_getD (d := false) (by omega) (fun j hj => by rw [q3 j (by omega), n3 j (by omega)])
    rw [q1, e]
  have e1 := heldMemberS_ev l' (by omega) (fun j hj => m3 j (by omega)) k (by omega)
  have e2 := heldBoolS_ev h' (by omega) (1 + 4 * (l.length : Int)) (by omega) (by omega) k (by omega) (fun j hj => n3 j (by omega))
  rw [m2] at e1
  rw [n2] at e2
  constructor
  · unfold laws_markParty.f
    rw [m1, Option.bind_some]
    simp only []
    rw [n1, Option.bind_some]
  · unfold laws_heldParty.f
    rw [e1, Option.bind_some, if_neg (by omega), e2, Option.bind_some, if_neg (by omega)]

theorem copied_ev (a b : Int) (l : List S81) (h : List Bool) (hl : l.length ≤ 1048576) (hh : h.length ≤ 1048576) : impl_Party_copied.f a b l h = some (a, b, l, h) ∧ spec_l9Copy.f a b l h = some (a, b, l, h) := by
  have e1 : ([] : List S81).length + l.length < 4398046511104 := by simp; omega
  have e2 : ([] : List Bool).length + h.length < 140737488355328 := by simp; omega
  unfold impl_Party_copied.f spec_l9Copy.f impl_copyCrew.f
  simp only [Option.bind_some, if_pos e1, if_pos e2, List.nil_append, and_self]
theorem eat_ev (a b : Int) (l : List S81) (h : List Bool) (hl : l.length ≤ 1048576) (hh : h.length ≤ 1048576) : ∃ b' o, ∀ k, 2 * l.length + 3 < k → impl_Eat.f k a b l h = some (a, b', l, h, o) ∧ spec_Eat.f k a b l h = some (a, b', l, h, o) := by
  obtain ⟨c, N, hc, ht, hz, hneed⟩ := needOf_ev l hl
  obtain ⟨c1, c2⟩ := copied_ev a b l h hl hh
  cases c with
  | true =>
    obtain ⟨_, _, _, _, hN1, _⟩ := ht rfl
    have hNz : ¬ N = 0 := by omega
    by_cases hb : b < N
    · refine ⟨b, false, fun k hk => ?_⟩
      unfold impl_Eat.f spec_Eat.f
      simp only [c1, c2, Option.bind_some, (hc k (by omega)).1, (hneed k hk).1, (hneed k hk).2, if_true, if_neg hNz, if_pos hb, and_self]
    · refine ⟨wrap64 (b - N), true, fun k hk => ?_⟩
      unfold impl_Eat.f spec_Eat.f
      simp only [c1, c2, Option.bind_some, (hc k (by omega)).1, (hneed k hk).1, (hneed k hk).2, if_true, if_neg hNz, if_neg hb, and_self]
  | false =>
    have hN : N = 0 := hz rfl
    subst hN
    refine ⟨b, false, fun k hk => ?_⟩
    unfold impl_Eat.f spec_Eat.f
    simp only [c1, c2, Option.bind_some, (hc k (by omega)).1, (hneed k hk).2, if_true, Bool.false_eq_true, if_false, and_self]

theorem FnExactEat : laws_FnExactEat.Stmt := by
  intro x hx
  obtain ⟨z, hz, hz2⟩ := szParty_ev x.f0 x.f1 x.f2 x.f3 hx.2.2.1.1 hx.2.2.2.1
  by_cases hneg : z < 0
  · exact ⟨0, by unfold laws_FnExactEat.f; rw [hz]; simp only [Option.bind_some]; rw [if_pos hneg]⟩
  obtain ⟨hl, hh⟩ := hz2.resolve_left hneg
  have hl2 : (x.f2.map cMember).length ≤ 1048576 := by simpa using hl
  have hlen : (x.f2.map cMember).length = x.f2.length := by simp
  obtain ⟨b', o, he⟩ := eat_ev x.f0 x.f1 (x.f2.map cMember) x.f3 hl2 hh
  obtain ⟨k, hk⟩ : ∃ k, k = 2 * x.f2.length + x.f3.length + 20 := ⟨_, rfl⟩
  obtain ⟨a1, a2⟩ := he (k + 3) (by omega)
  obtain ⟨b1, _⟩ := he (k + 1) (by omega)
  obtain ⟨l0, h0, m0⟩ := markParty_ev x.f0 x.f1 (x.f2.map cMember) x.f3 hl2 hh
  obtain ⟨l1, h1, m1⟩ := markParty_ev x.f0 b' (x.f2.map cMember) x.f3 hl2 hh
  have e1 : ¬ (1 + 4 * ((x.f2.map cMember).length : Int) + (x.f3.length : Int) < 0) := by omega
  refine ⟨k + 3, ?_⟩
  unfold laws_FnExactEat.f
  rw [hz]; simp only [Option.bind_some]; rw [if_neg hneg]
  simp only [toParty_ev x.f0 x.f1 x.f2 x.f3 hl hh (k + 3) (by omega), toParty_ev x.f0 x.f1 x.f2 x.f3 hl hh (k + 2) (by omega), toParty_ev x.f0 x.f1 x.f2 x.f3 hl hh (k + 1) (by omega), a1, a2, b1, Option.bind_some, eqParty_ev x.f0 b' _ x.f3 hl2 hh (k + 3) (by omega), eqParty_ev x.f0 b' _ x.f3 hl2 hh (k + 2) (by omega), eqParty_ev x.f0 x.f1 _ x.f3 hl2 hh (k + 2) (by omega), eqParty_ev x.f0 b' _ x.f3 hl2 hh (k + 1) (by omega), if_true, laws_FnExactEat.j0, laws_FnExactEat.j1, laws_FnExactEat.j2, bne_self_eq_false, Bool.false_eq_true, if_false, (m0 (k + 2) (by omega)).1, (m1 (k + 1) (by omega)).1, (m1 (k + 1) (by omega)).2, (m1 k (by omega)).2, if_neg e1]

end Go.Proofs.Ytcokbhkjfdddkaa.Pure
