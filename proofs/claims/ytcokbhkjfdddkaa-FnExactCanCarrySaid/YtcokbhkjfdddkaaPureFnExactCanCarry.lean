/- The program's CanCarry returns what the reference's CanCarry returns, for every list of members no longer than 2^20 and every number, and leaves the members as they were. No further condition. -/
import Derived.Test.YtcokbhkjfdddkaaSFnExactCanCarry
namespace Go.Proofs.Ytcokbhkjfdddkaa.Pure
open Go.RowKit Go.Proofs.Ytcokbhkjfdddkaa.Q Go.Proofs.YtcokbhkjfdddkaaW.PrintWords Go.Proofs.YtcokbhkjfdddkaaW.PrintLast Go.Proofs.YtcokbhkjfdddkaaW.PrintMore
set_option linter.unusedVariables false
set_option linter.unusedSimpArgs false

theorem ext_getD {α : Type} {d : α} {a b : List α} (h : a.length = b.length) (hj : ∀ j, j < a.length → a.getD j d = b.getD j d) : a = b := by
  apply List.ext_getElem h
  intro j h1 h2
  have := hj j h1
  simpa [List.getD_eq_getElem?_getD, List.getElem?_eq_getElem h1, List.getElem?_eq_getElem h2] using this

theorem getD_set {α : Type} {d : α} (a : List α) (i j : Nat) (v : α) (h : i < a.length) : (a.set i v).getD j d = if i = j then v else a.getD j d := by
  simp only [List.getD_eq_getElem?_getD, List.getElem?_set]
  by_cases e : i = j
  · subst e; simp [h]
  · simp [e]

theorem wrap_small {i : Int} {n : Nat} (h0 : 0 ≤ i) (h : i < (n : Int)) (hn : n ≤ 1048576) : wrap64 (i + 1) = i + 1 := by
  unfold wrap64; omega

def cMember (x : S113) : S81 := ⟨x.f0, x.f1, x.f2, x.f3⟩
theorem toMember_ev (x : S113) : laws_toMember.f x.f0 x.f1 x.f2 x.f3 = some (x.f0, x.f1, x.f2, x.f3) := rfl
theorem toMemberS_loop (xs : List S113) (hn : xs.length ≤ 1048576) : ∀ (d k : Nat) (acc : List S81) (i : Int), acc.length = xs.length → 0 ≤ i → (xs.length : Int) - i = d → d < k →
    (∀ j : Nat, (j : Int) < i → acc.getD j z81 = (xs.map cMember).getD j z81) → laws_toMemberS.l0 k xs acc i = some (xs.map cMember) := by
  intro d
  induction d with
  | zero =>
    intro k acc i hl h0 hd hk hj
    obtain ⟨k, rfl⟩ : ∃ m, k = m + 1 := ⟨k - 1, by omega⟩
    simp only [laws_toMemberS.l0]
    rw [if_neg (by omega)]
    exact congrArg some (ext_getD (by rw [List.length_map]; exact hl) (fun j h => hj j (by omega)))
  | succ d ih =>
    intro k acc i hl h0 hd hk hj
    obtain ⟨k, rfl⟩ : ∃ m, k = m + 1 := ⟨k - 1, by omega⟩
    simp only [laws_toMemberS.l0, toMember_ev, Option.bind_some]
    rw [if_pos (by omega), if_pos h0, if_pos (by omega), wrap_small (n := xs.length) h0 (by omega) hn]
    refine ih k _ _ (by simpa using hl) (by omega) (by omega) (by omega) ?_
    intro j hj'
    rw [getD_set _ _ _ _ (by omega)]
    by_cases e : i.toNat = j
    · rw [if_pos e]
      have h1 : j < xs.length := by omega
      unfold rd_T113
      rw [e]
      simp [List.getD_eq_getElem?_getD, List.getElem?_eq_getElem h1, cMember]
    · rw [if_neg e]; exact hj j (by omega)
theorem toMemberS_ev (xs : List S113) (hn : xs.length ≤ 1048576) (k : Nat) (hk : xs.length < k) : laws_toMemberS.f k xs = some (xs.map cMember) := by
  unfold laws_toMemberS.f
  rw [if_pos (by omega), if_pos (by omega)]
  exact toMemberS_loop xs hn xs.length k _ 0 (by simp) (by omega) (by omega) hk (fun j hj => by omega)

theorem eqMember_ev (x : S81) : laws_eqMember.f x.f0 x.f1 x.f2 x.f3 x.f0 x.f1 x.f2 x.f3 = some true := by simp [laws_eqMember.f]
theorem eqMemberS_loop (xs : List S81) (hn : xs.length ≤ 1048576) : ∀ (d k : Nat) (i : Int), 0 ≤ i → (xs.length : Int) - i = d → d < k → laws_eqMemberS.l0 k xs xs i = some true := by
  intro d
  induction d with
  | zero =>
    intro k i h0 hd hk
    obtain ⟨k, rfl⟩ : ∃ m, k = m + 1 := ⟨k - 1, by omega⟩
    simp only [laws_eqMemberS.l0]
    rw [if_neg (by omega)]
  | succ d ih =>
    intro k i h0 hd hk
    obtain ⟨k, rfl⟩ : ∃ m, k = m + 1 := ⟨k - 1, by omega⟩
    simp only [laws_eqMemberS.l0, eqMember_ev, Option.bind_some, if_true]
    rw [if_pos (by omega), if_pos h0, if_pos (by omega), wrap_small (n := xs.length) h0 (by omega) hn]
    exact ih k _ (by omega) (by omega) (by omega)
theorem eqMemberS_ev (xs : List S81) (hn : xs.length ≤ 1048576) (k : Nat) (hk : xs.length < k) : laws_eqMemberS.f k xs xs = some true := by
  unfold laws_eqMemberS.f
  rw [if_pos rfl]
  exact eqMemberS_loop xs hn xs.length k 0 (by omega) (by omega) hk

theorem szMemberS_ev (l : List S113) (hm : l.length ≤ maxLen) : ∃ r, laws_szMemberS.f l 1048576 = some r ∧ (r < 0 ∨ l.length ≤ 1048576) := by
  unfold maxLen at hm
  have hw : wrap64 (1048576 - (l.length : Int)) = 1048576 - (l.length : Int) := by unfold wrap64; omega
  unfold laws_szMemberS.f
  rw [hw]
  by_cases h : (1048576 - (l.length : Int)) < 0
  · rw [if_pos h]; exact ⟨_, rfl, .inl (by omega)⟩
  · rw [if_neg h]; exact ⟨_, rfl, .inr (by omega)⟩

theorem l1In_eq (a b c : Int) : spec_l1In.f a b c = some (decide (b ≤ a ∧ a ≤ c)) := by
  unfold spec_l1In.f
  by_cases h : a ≥ b
  · rw [if_pos h]; congr 1; have : b ≤ a := h; simp [this]
  · rw [if_neg h]; have : ¬ b ≤ a := h; simp [this]
theorem inRange_eq (a b c : Int) : impl_InRange.f a b c = some (decide (b ≤ a ∧ a ≤ c)) := by
  unfold impl_InRange.f
  by_cases h : b ≤ a
  · rw [if_pos h]; simp [h]
  · rw [if_neg h]; simp [h]

def fitM (m : S81) : Prop := 1 ≤ m.f0 ∧ m.f0 ≤ 99 ∧ 0 ≤ m.f1 ∧ m.f1 ≤ 100 ∧ 1 ≤ m.f2 ∧ m.f2 ≤ 10
theorem areCrew_loop (xs : List S81) (hn : xs.length ≤ 1048576) : ∀ (d : Nat) (i : Int), 0 ≤ i → (xs.length : Int) - i = d →
    ∃ b, (∀ k, d < k → impl_AreCrew.l0 k xs xs (xs.length : Int) i = some b ∧ spec_AreCrew.l0 k xs i = some b) ∧ (b = true → (1 ≤ xs.length ∧ xs.length ≤ 8) ∧ ∀ j : Int, i ≤ j → j < (xs.length : Int) → fitM (rd_T81 xs j)) := by
  intro d
  induction d with
  | zero =>
    intro i h0 hd
    have hlt : ¬ i < (xs.length : Int) := by omega
    refine ⟨decide (1 ≤ (xs.length : Int) ∧ (xs.length : Int) ≤ 8), fun k hk => ?_, fun hb => ?_⟩
    · obtain ⟨k, rfl⟩ : ∃ m, k = m + 1 := ⟨k - 1, by omega⟩
      simp only [impl_AreCrew.l0, spec_AreCrew.l0, if_neg hlt, l1In_eq, inRange_eq, Option.bind_some, and_self]
    · have := of_decide_eq_true hb
      exact ⟨by omega, fun j h1 h2 => by omega⟩
  | succ d ih =>
    intro i h0 hd
    have hlt : i < (xs.length : Int) := by omega
    obtain ⟨b, hb, hp⟩ := ih (i + 1) (by omega) (by omega)
    have hw : wrap64 (i - 1) = i - 1 := by unfold wrap64; omega
    by_cases ok : (1 ≤ (rd_T81 xs i).f0 ∧ (rd_T81 xs i).f0 ≤ 99 ∧ 0 ≤ (rd_T81 xs i).f1 ∧ (rd_T81 xs i).f1 ≤ 100 ∧ 1 ≤ (rd_T81 xs i).f2 ∧ (rd_T81 xs i).f2 ≤ 10) ∧ (i > 0 → (rd_T81 xs (i - 1)).f0 < (rd_T81 xs i).f0)
    · refine ⟨b, fun k hk => ?_, fun e => ⟨(hp e).1, fun j h1 h2 => ?_⟩⟩
      · obtain ⟨k, rfl⟩ : ∃ m, k = m + 1 := ⟨k - 1, by omega⟩
        obtain ⟨b1, b2⟩ := hb k (by omega)
        have e1 : 1 ≤ (rd_T81 xs i).f0 ∧ (rd_T81 xs i).f0 ≤ 99 := ⟨ok.1.1, ok.1.2.1⟩
        have e2 : 0 ≤ (rd_T81 xs i).f1 ∧ (rd_T81 xs i).f1 ≤ 100 := ⟨ok.1.2.2.1, ok.1.2.2.2.1⟩
        have e3 : 1 ≤ (rd_T81 xs i).f2 ∧ (rd_T81 xs i).f2 ≤ 10 := ok.1.2.2.2.2
        simp only [impl_AreCrew.l0, spec_AreCrew.l0, if_pos hlt, if_pos h0, l1In_eq, inRange_eq, Option.bind_some, decide_eq_true_eq, if_pos e1, if_pos e2, if_pos e3, hw, wrap_small (n := xs.length) h0 hlt hn]
        by_cases hi : i > 0
        · have h1 : 0 ≤ i - 1 := by omega
          have h2 : i - 1 < (xs.length : Int) := by omega
          have h3 := ok.2 hi
          have h4 : ¬ (rd_T81 xs i).f0 ≤ (rd_T81 xs (i - 1)).f0 := by omega
          have h5 : ¬ (rd_T81 xs (i - 1)).f0 ≥ (rd_T81 xs i).f0 := by omega
          simp only [if_pos hi, if_pos h1, if_pos h2, if_neg h4, if_neg h5]
          exact ⟨b1, b2⟩
        · simp only [if_neg hi]
          exact ⟨b1, b2⟩
      · by_cases e2 : j = i
        · subst e2; exact ok.1
        · exact (hp e).2 j (by omega) h2
    · refine ⟨false, fun k hk => ?_, fun e => by cases e⟩
      obtain ⟨k, rfl⟩ : ∃ m, k = m + 1 := ⟨k - 1, by omega⟩
      simp only [impl_AreCrew.l0, spec_AreCrew.l0, if_pos hlt, if_pos h0, l1In_eq, inRange_eq, Option.bind_some, decide_eq_true_eq, hw]
      constructor
      · repeat' split
        all_goals first | rfl | (exfalso; omega)
      · repeat' split
        all_goals first | rfl | (exfalso; omega)
theorem areCrew_ev (xs : List S81) (hn : xs.length ≤ 1048576) : ∃ b, (∀ k, xs.length < k → impl_AreCrew.f k xs = some b ∧ spec_AreCrew.f k xs = some b) ∧ (b = true → (1 ≤ xs.length ∧ xs.length ≤ 8) ∧ ∀ j : Int, 0 ≤ j → j < (xs.length : Int) → fitM (rd_T81 xs j)) := by
  obtain ⟨b, h, hp⟩ := areCrew_loop xs hn xs.length 0 (by omega) (by omega)
  exact ⟨b, h, hp⟩
theorem specMin_eq (a b : Int) : spec_Min.f a b = some (mn a b) := by
  unfold spec_Min.f mn; split <;> rfl

theorem capOf_loop (xs : List S81) (hn : xs.length ≤ 1048576) (hc : ∀ k, xs.length < k → spec_AreCrew.f k xs = some true) : ∀ (d : Nat) (i a : Int), 0 ≤ i → (xs.length : Int) - i = d →
    ∃ c, ∀ k, xs.length + 2 * d + 2 < k → impl_CapOf.l0 k a xs (xs.length : Int) i = some c ∧ spec_CapOf.l0 k xs a i = some c := by
  intro d
  induction d with
  | zero =>
    intro i a h0 hd
    have hlt : ¬ i < (xs.length : Int) := by omega
    refine ⟨a, fun k hk => ?_⟩
    obtain ⟨k, rfl⟩ : ∃ m, k = m + 2 := ⟨k - 2, by omega⟩
    simp only [impl_CapOf.l0, spec_CapOf.l0, spec_CapOf.j1, if_neg hlt, Bool.false_eq_true, if_false, and_self]
  | succ d ih =>
    intro i a h0 hd
    have hlt : i < (xs.length : Int) := by omega
    by_cases hf : (rd_T81 xs i).f3 = true
    · obtain ⟨c, hk2⟩ := ih (i + 1) a (by omega) (by omega)
      refine ⟨c, fun k hk => ?_⟩
      obtain ⟨k, rfl⟩ : ∃ m, k = m + 2 := ⟨k - 2, by omega⟩
      have h1 := (hk2 (k + 1) (by omega)).1
      have h2 := (hk2 k (by omega)).2
      simp only [impl_CapOf.l0, spec_CapOf.l0, spec_CapOf.j1, if_pos hlt, if_pos h0, if_pos hf, hc (k + 1) (by omega), Option.bind_some, if_true, wrap_small (n := xs.length) h0 hlt hn] at h1 h2 ⊢
      exact ⟨h1, h2⟩
    · obtain ⟨c, hk2⟩ := ih (i + 1) (wrap64 (a + (rd_T81 xs i).f1)) (by omega) (by omega)
      refine ⟨c, fun k hk => ?_⟩
      obtain ⟨k, rfl⟩ : ∃ m, k = m + 2 := ⟨k - 2, by omega⟩
      have h1 := (hk2 (k + 1) (by omega)).1
      have h2 := (hk2 k (by omega)).2
      constructor
      · rw [impl_CapOf.l0]
        simp only [if_pos hlt, if_pos h0, if_neg hf, wrap_small (n := xs.length) h0 hlt hn]
        exact h1
      · rw [spec_CapOf.l0]
        simp only [spec_CapOf.j1, if_pos hlt, if_pos h0, if_neg hf, hc (k + 1) (by omega), Option.bind_some, if_true, wrap_small (n := xs.length) h0 hlt hn]
        exact h2
theorem capOf_ev (xs : List S81) (hn : xs.length ≤ 1048576) : ∃ c, ∀ k, 3 * xs.length + 3 < k → impl_CapOf.f k xs = some c ∧ spec_CapOf.f k xs = some c := by
  obtain ⟨b, hb, _⟩ := areCrew_ev xs hn
  cases b with
  | true =>
    obtain ⟨c, hc⟩ := capOf_loop xs hn (fun k hk => (hb k hk).2) xs.length 0 0 (by omega) (by omega)
    refine ⟨c, fun k hk => ?_⟩
    unfold impl_CapOf.f spec_CapOf.f
    simp only [(hb k (by omega)).1, Option.bind_some, if_true]
    exact hc k (by omega)
  | false =>
    refine ⟨0, fun k hk => ?_⟩
    obtain ⟨k, rfl⟩ : ∃ m, k = m + 2 := ⟨k - 2, by omega⟩
    unfold impl_CapOf.f spec_CapOf.f
    simp only [(hb (k + 2) (by omega)).1, Option.bind_some, Bool.false_eq_true, if_false, spec_CapOf.l0, (hb (k + 1) (by omega)).2, spec_CapOf.j1, ite_self, and_self]

theorem shareLoad_loop (xs : List S81) (hn : xs.length ≤ 1048576) : ∀ (d : Nat) (i n : Int) (acc : List Int), 0 ≤ i → (xs.length : Int) - i = d → acc.length + d ≤ 1048576 →
    ∃ r, r.length = acc.length + d ∧ ∀ k, d < k → impl_ShareLoad.l0 k n acc xs (xs.length : Int) i = some r ∧ spec_ShareLoad.l0 k xs n acc i = some r := by
  intro d
  induction d with
  | zero =>
    intro i n acc h0 hd hl
    have hlt : ¬ i < (xs.length : Int) := by omega
    refine ⟨acc, rfl, fun k hk => ?_⟩
    obtain ⟨k, rfl⟩ : ∃ m, k = m + 1 := ⟨k - 1, by omega⟩
    simp only [impl_ShareLoad.l0, spec_ShareLoad.l0, if_neg hlt, and_self]
  | succ d ih =>
    intro i n acc h0 hd hl
    have hlt : i < (xs.length : Int) := by omega
    have hx : acc.length < 17592186044416 := by omega
    by_cases hf : (rd_T81 xs i).f3 = true
    · obtain ⟨r, hr, hk2⟩ := ih (i + 1) (wrap64 (n - 0)) (acc ++ [0]) (by omega) (by omega) (by simp; omega)
      refine ⟨r, by simp at hr; omega, fun k hk => ?_⟩
      obtain ⟨k, rfl⟩ : ∃ m, k = m + 1 := ⟨k - 1, by omega⟩
      simp only [impl_ShareLoad.l0, spec_ShareLoad.l0, if_pos hlt, if_pos h0, if_pos hf, if_pos hx, wrap_small (n := xs.length) h0 hlt hn]
      exact hk2 k (by omega)
    · obtain ⟨r, hr, hk2⟩ := ih (i + 1) (wrap64 (n - mn ((rd_T81 xs i).f1) n)) (acc ++ [mn ((rd_T81 xs i).f1) n]) (by omega) (by omega) (by simp; omega)
      refine ⟨r, by simp at hr; omega, fun k hk => ?_⟩
      obtain ⟨k, rfl⟩ : ∃ m, k = m + 1 := ⟨k - 1, by omega⟩
      simp only [impl_ShareLoad.l0, spec_ShareLoad.l0, if_pos hlt, if_pos h0, if_neg hf, if_pos hx, specMin_eq, Option.bind_some, wrap_small (n := xs.length) h0 hlt hn]
      exact hk2 k (by omega)
theorem shareLoad_ev (xs : List S81) (n : Int) (hn : xs.length ≤ 1048576) : ∃ r, r.length ≤ xs.length ∧ ∀ k, 3 * xs.length + 4 < k → impl_ShareLoad.f k xs n = some r ∧ spec_ShareLoad.f k xs n = some r := by
  obtain ⟨b, hb, _⟩ := areCrew_ev xs hn
  obtain ⟨c, hc⟩ := capOf_ev xs hn
  obtain ⟨r, hl, hr⟩ := shareLoad_loop xs hn xs.length 0 n [] (by omega) (by omega) (by simpa using hn)
  by_cases hb2 : b = true
  · subst hb2
    by_cases hin : 0 ≤ n ∧ n ≤ c
    · refine ⟨r, by simp at hl; omega, fun k hk => ?_⟩
      obtain ⟨k, rfl⟩ : ∃ m, k = m + 1 := ⟨k - 1, by omega⟩
      obtain ⟨r1, r2⟩ := hr k (by omega)
      unfold impl_ShareLoad.f spec_ShareLoad.f
      simp only [(hb (k + 1) (by omega)).1, (hb (k + 1) (by omega)).2, (hc (k + 1) (by omega)).1, (hc (k + 1) (by omega)).2, Option.bind_some, if_true, l1In_eq, inRange_eq, impl_ShareLoad.j0, spec_ShareLoad.j0, hin, and_self, decide_true, Bool.not_true, Bool.false_eq_true, if_false]
      exact ⟨r1, r2⟩
    · refine ⟨[], by simp, fun k hk => ?_⟩
      obtain ⟨k, rfl⟩ : ∃ m, k = m + 1 := ⟨k - 1, by omega⟩
      unfold impl_ShareLoad.f spec_ShareLoad.f
      simp only [(hb (k + 1) (by omega)).1, (hb (k + 1) (by omega)).2, (hc (k + 1) (by omega)).1, (hc (k + 1) (by omega)).2, Option.bind_some, if_true, l1In_eq, inRange_eq, impl_ShareLoad.j0, spec_ShareLoad.j0, hin, decide_false, Bool.not_false, and_self]
  · have hb3 : b = false := by cases b; rfl; exact absurd rfl hb2
    subst hb3
    refine ⟨[], by simp, fun k hk => ?_⟩
    obtain ⟨k, rfl⟩ : ∃ m, k = m + 1 := ⟨k - 1, by omega⟩
    unfold impl_ShareLoad.f spec_ShareLoad.f
    simp only [(hb (k + 1) (by omega)).1, (hb (k + 1) (by omega)).2, Option.bind_some, Bool.false_eq_true, if_false, impl_ShareLoad.j0, spec_ShareLoad.j0, if_true, and_self]

theorem FnExactCanCarry : laws_FnExactCanCarry.Stmt := by
  intro xs n hxs _
  obtain ⟨z, hz, hz2⟩ := szMemberS_ev xs hxs.1
  by_cases hneg : z < 0
  · exact ⟨0, by unfold laws_FnExactCanCarry.f; rw [hz]; simp only [Option.bind_some]; rw [if_pos hneg]⟩
  have hn : xs.length ≤ 1048576 := hz2.resolve_left hneg
  have hn2 : (xs.map cMember).length ≤ 1048576 := by simpa using hn
  have hlen : (xs.map cMember).length = xs.length := by simp
  obtain ⟨r, hrl, hr⟩ := shareLoad_ev (xs.map cMember) n hn2
  obtain ⟨k, hk⟩ : ∃ k, k = 3 * xs.length + 20 := ⟨_, rfl⟩
  obtain ⟨h1, h2⟩ := hr k (by omega)
  refine ⟨k, ?_⟩
  unfold laws_FnExactCanCarry.f
  rw [hz]; simp only [Option.bind_some]; rw [if_neg hneg]
  simp only [toMemberS_ev xs hn k (by omega), eqMemberS_ev (xs.map cMember) hn2 k (by omega), impl_CanCarry.f, spec_CanCarry.f, h1, h2, Option.bind_some, if_true, bne_self_eq_false, Bool.false_eq_true, if_false]

end Go.Proofs.Ytcokbhkjfdddkaa.Pure
