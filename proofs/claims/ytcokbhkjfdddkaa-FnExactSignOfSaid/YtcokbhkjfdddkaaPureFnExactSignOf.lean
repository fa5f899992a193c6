/- The program's SignOf returns what the reference's SignOf returns, for every integer; each result is new memory. No further condition. -/
import Derived.Test.YtcokbhkjfdddkaaSFnExactSignOf
namespace Go.Proofs.Ytcokbhkjfdddkaa.Pure
open Go.RowKit Go.Proofs.Ytcokbhkjfdddkaa.Q Go.Proofs.YtcokbhkjfdddkaaW.PrintWords Go.Proofs.YtcokbhkjfdddkaaW.PrintLast Go.Proofs.YtcokbhkjfdddkaaW.PrintMore
set_option linter.unusedVariables false
set_option linter.unusedSimpArgs false

theorem ext_getD {α : Type} {d : α} {a b : List α} (h : a.length = b.length) (hj : ∀ j, j < a.length → a.getD j d = b.getD j d) : a = b := by
  apply List.ext_getElem h
  intro j h1 h2
  have := hj j h1
  simpa [List.getD_eq_getElem?_getD, List.getElem?_eq_getElem h1, List.getElem?_eq_getElem h2] using this

theorem getD_set {α : Type} {d : α} (a : List α) (i j : Nat) (v : α) (h : i < a.length) : (a.set i v).getD j d = if i = j then v else a.getD j d := by
  simp only [List.getD_eq_getElem?_getD, List.getElem?_set]
  by_cases e : i = j
  · subst e; simp [h]
  · simp [e]

theorem wrap_small {i : Int} {n : Nat} (h0 : 0 ≤ i) (h : i < (n : Int)) (hn : n ≤ 1048576) : wrap64 (i + 1) = i + 1 := by
  unfold wrap64; omega

theorem drop_step {α : Type} (d : α) (l : List α) (i : Int) (h0 : 0 ≤ i) (h : i < (l.length : Int)) : l.drop i.toNat = l.getD i.toNat d :: l.drop (i + 1).toNat := by
  have h1 : i.toNat < l.length := by omega
  rw [List.drop_eq_getElem_cons h1, show (i + 1).toNat = i.toNat + 1 by omega]
  congr 1
  simp [List.getD_eq_getElem?_getD, List.getElem?_eq_getElem h1]

theorem eqIntS_loop (xs : List Int) (hn : xs.length ≤ 1048576) : ∀ (d k : Nat) (i : Int), 0 ≤ i → (xs.length : Int) - i = d → d < k → laws_eqIntS.l0 k xs xs i = some true := by
  intro d
  induction d with
  | zero =>
    intro k i h0 hd hk
    obtain ⟨k, rfl⟩ : ∃ m, k = m + 1 := ⟨k - 1, by omega⟩
    simp only [laws_eqIntS.l0]
    rw [if_neg (by omega)]
  | succ d ih =>
    intro k i h0 hd hk
    obtain ⟨k, rfl⟩ : ∃ m, k = m + 1 := ⟨k - 1, by omega⟩
    simp only [laws_eqIntS.l0]
    rw [if_pos (by omega), if_pos h0, if_pos (by omega), if_pos trivial, wrap_small (n := xs.length) h0 (by omega) hn]
    exact ih k _ (by omega) (by omega) (by omega)

theorem eqIntS_ev (xs : List Int) (hn : xs.length ≤ 1048576) (k : Nat) (hk : xs.length < k) : laws_eqIntS.f k xs xs = some true := by
  unfold laws_eqIntS.f
  rw [if_pos rfl]
  exact eqIntS_loop xs hn xs.length k 0 (by omega) (by omega) hk

theorem markIntS_loop (n : Nat) (hn : n ≤ 1048576) : ∀ (d k : Nat) (acc : List Int) (c i : Int), acc.length = n → 0 ≤ i → (n : Int) - i = d → 0 ≤ c → c + d ≤ 4611686018427387904 → d < k →
    ∃ r, laws_markIntS.l0 k acc c i = some (c + d, r) ∧ r.length = n ∧ ∀ j : Nat, j < n → r.getD j 0 = if (j : Int) < i then acc.getD j 0 else c + (j - i) := by
  intro d
  induction d with
  | zero =>
    intro k acc c i hl h0 hd hc hb hk
    obtain ⟨k, rfl⟩ : ∃ m, k = m + 1 := ⟨k - 1, by omega⟩
    simp only [laws_markIntS.l0]
    rw [if_neg (by omega)]
    exact ⟨acc, by simp, hl, fun j hj => by rw [if_pos (by omega)]⟩
  | succ d ih =>
    intro k acc c i hl h0 hd hc hb hk
    obtain ⟨k, rfl⟩ : ∃ m, k = m + 1 := ⟨k - 1, by omega⟩
    simp only [laws_markIntS.l0]
    rw [if_pos (by omega), if_pos h0, wrap_small (n := n) h0 (by omega) hn, show wrap64 (c + 1) = c + 1 by unfold wrap64; omega]
    obtain ⟨r, hr, hrl, hrj⟩ := ih k (acc.set i.toNat c) (c + 1) (i + 1) (by simpa using hl) (by omega) (by omega) (by omega) (by omega) (by omega)
    refine ⟨r, by rw [hr]; congr 2; omega, hrl, fun j hj => ?_⟩
    rw [hrj j hj, getD_set _ _ _ _ (by omega)]
    by_cases h1 : (j : Int) < i
    · rw [if_pos (by omega), if_neg (by omega), if_pos h1]
    · rw [if_neg h1]
      by_cases h2 : (j : Int) = i
      · rw [if_pos (by omega), if_pos (by omega)]; omega
      · rw [if_neg (by omega)]; omega

theorem markIntS_ev (l : List Int) (hn : l.length ≤ 1048576) (c : Int) (hc : 0 ≤ c) (hb : c + l.length ≤ 4611686018427387904) (k : Nat) (hk : l.length < k) :
    ∃ r, laws_markIntS.f k l c = some (c + l.length, r) ∧ r.length = l.length ∧ ∀ j : Nat, j < l.length → r.getD j 0 = c + j := by
  obtain ⟨r, h1, h2, h3⟩ := markIntS_loop l.length hn l.length k l c 0 rfl (by omega) (by omega) hc hb hk
  refine ⟨r, h1, h2, fun j hj => ?_⟩
  rw [h3 j hj, if_neg (by omega)]; omega

theorem heldIntS_loop (l : List Int) (hn : l.length ≤ 1048576) : ∀ (d k : Nat) (c i : Int), 0 ≤ i → (l.length : Int) - i = d → 0 ≤ c → c + d ≤ 4611686018427387904 → d < k →
    (∀ j : Nat, i ≤ j → j < l.length → l.getD j 0 = c + (j - i)) → laws_heldIntS.l0 k l c i = some (c + d) := by
  intro d
  induction d with
  | zero =>
    intro k c i h0 hd hc hb hk hj
    obtain ⟨k, rfl⟩ : ∃ m, k = m + 1 := ⟨k - 1, by omega⟩
    simp only [laws_heldIntS.l0]
    rw [if_neg (by omega)]; simp
  | succ d ih =>
    intro k c i h0 hd hc hb hk hj
    obtain ⟨k, rfl⟩ : ∃ m, k = m + 1 := ⟨k - 1, by omega⟩
    have h1 : rd l i = c := by
      have := hj i.toNat (by omega) (by omega)
      unfold rd; rw [this]; omega
    simp only [laws_heldIntS.l0]
    rw [if_pos (by omega), if_pos h0, if_pos h1, wrap_small (n := l.length) h0 (by omega) hn, show wrap64 (c + 1) = c + 1 by unfold wrap64; omega]
    rw [ih k (c + 1) (i + 1) (by omega) (by omega) (by omega) (by omega) (by omega) (fun j h2 h3 => by rw [hj j (by omega) h3]; omega)]
    congr 1; omega

theorem heldIntS_ev (l : List Int) (hn : l.length ≤ 1048576) (c : Int) (hc : 0 ≤ c) (hb : c + l.length ≤ 4611686018427387904) (k : Nat) (hk : l.length < k) (hj : ∀ j : Nat, j < l.length → l.getD j 0 = c + j) :
    laws_heldIntS.f k l c = some (c + l.length) :=
  heldIntS_loop l hn l.length k c 0 (by omega) (by omega) hc hb hk (fun j _ h => by rw [hj j h]; omega)

theorem l1In_eq (a b c : Int) : spec_l1In.f a b c = some (decide (b ≤ a ∧ a ≤ c)) := by
  unfold spec_l1In.f
  by_cases h : a ≥ b
  · rw [if_pos h]; congr 1; have : b ≤ a := h; simp [this]
  · rw [if_neg h]; have : ¬ b ≤ a := h; simp [this]
theorem inRange_eq (a b c : Int) : impl_InRange.f a b c = some (decide (b ≤ a ∧ a ≤ c)) := by
  unfold impl_InRange.f
  by_cases h : b ≤ a
  · rw [if_pos h]; simp [h]
  · rw [if_neg h]; simp [h]

def cnt2 : Int → List Int → Int
  | c, [] => c
  | c, v :: vs => if v = 2 then cnt2 (wrap64 (c + 1)) vs else cnt2 c vs
theorem count_loop (l : List Int) (hn : l.length ≤ 1048576) : ∀ (d k : Nat) (c i : Int), 0 ≤ i → (l.length : Int) - i = d → d < k →
    spec_CountLong.l0 k l c i = some (cnt2 c (l.drop i.toNat)) ∧ impl_CountLong.l0 k c l (l.length : Int) i = some (cnt2 c (l.drop i.toNat)) := by
  intro d
  induction d with
  | zero =>
    intro k c i h0 hd hk
    obtain ⟨k, rfl⟩ : ∃ m, k = m + 1 := ⟨k - 1, by omega⟩
    simp only [spec_CountLong.l0, impl_CountLong.l0]
    rw [if_neg (by omega), if_neg (by omega), List.drop_eq_nil_of_le (by omega)]
    exact ⟨rfl, rfl⟩
  | succ d ih =>
    intro k c i h0 hd hk
    obtain ⟨k, rfl⟩ : ∃ m, k = m + 1 := ⟨k - 1, by omega⟩
    have hlt : i < (l.length : Int) := by omega
    simp only [spec_CountLong.l0, impl_CountLong.l0, if_pos hlt, if_pos h0, wrap_small (n := l.length) h0 hlt hn]
    rw [drop_step 0 l i h0 hlt, show l.getD i.toNat 0 = rd l i from rfl]
    unfold cnt2
    by_cases e : rd l i = 2
    · simp only [if_pos e]; exact ih k _ _ (by omega) (by omega) (by omega)
    · simp only [if_neg e]; exact ih k _ _ (by omega) (by omega) (by omega)
theorem count_ev (l : List Int) (hn : l.length ≤ 1048576) (k : Nat) (hk : l.length < k) : spec_CountLong.f k l = some (cnt2 0 l) ∧ impl_CountLong.f k l = some (cnt2 0 l) := by
  have := count_loop l hn l.length k 0 0 (by omega) (by omega) hk
  rw [Int.toNat_zero, List.drop_zero] at this
  exact this

theorem half_eq {n : Int} (h0 : 0 ≤ n) (h : n ≤ 4611686018427387904) : wrap64 (Int.tdiv n 2) = n / 2 := by
  rw [Int.tdiv_eq_ediv_of_nonneg h0]; unfold wrap64; omega

theorem sign_loop : ∀ (d : Nat) (n : Int) (acc : List Int), 0 ≤ n → n < 2 ^ d → n ≤ 10000 → acc.length + d ≤ 1000 →
    ∃ r, r.length ≤ acc.length + d + 2 ∧ ∀ k, acc.length + 2 * d + 3 < k → impl_SignOf.l0 k n acc = some r ∧ spec_SignOf.l0 k (n / 2) ([wrap64 (1 + Int.tmod n 2)] ++ acc) = some r := by
  intro d
  induction d with
  | zero =>
    intro n acc h0 h1 h2 hl
    obtain rfl : n = 0 := by simp at h1; omega
    refine ⟨([wrap64 (1 + Int.tmod 0 2)] ++ acc) ++ [wrap64 (1 + Int.tmod (cnt2 0 ([wrap64 (1 + Int.tmod 0 2)] ++ acc)) 2)], by simp, fun k hk => ?_⟩
    obtain ⟨k, rfl⟩ : ∃ m, k = m + 1 := ⟨k - 1, by omega⟩
    have hc := count_ev ([wrap64 (1 + Int.tmod 0 2)] ++ acc) (by simp <;> omega) k (by simp <;> omega)
    have hx : ([wrap64 (1 + Int.tmod 0 2)] ++ acc).length < 17592186044416 := by simp; omega
    have hx2 : ([wrap64 (1 + Int.tmod 0 2)] : List Int).length + acc.length < 17592186044416 := by simp; omega
    have hg : ¬ ((0 : Int) / 2 > 0) := by omega
    have hz : (0 : Int) / 2 = 0 := by omega
    constructor
    · simp only [impl_SignOf.l0, half_eq (Int.le_refl 0) (by omega), Int.add_comm (Int.tmod 0 2) 1, Option.bind_some, if_pos hx2, if_pos hz, hc.2, if_pos hx]
      rw [Int.add_comm (Int.tmod _ 2) 1]
    · simp only [spec_SignOf.l0, if_neg hg, hc.1, Option.bind_some, if_pos hx]
  | succ d ih =>
    intro n acc h0 h1 h2 hl
    have hx : ([wrap64 (1 + Int.tmod n 2)] ++ acc).length < 17592186044416 := by simp; omega
    have hx2 : ([wrap64 (1 + Int.tmod n 2)] : List Int).length + acc.length < 17592186044416 := by simp; omega
    by_cases hz : n / 2 = 0
    · have hg : ¬ (n / 2 > 0) := by omega
      refine ⟨([wrap64 (1 + Int.tmod n 2)] ++ acc) ++ [wrap64 (1 + Int.tmod (cnt2 0 ([wrap64 (1 + Int.tmod n 2)] ++ acc)) 2)], by simp <;> omega, fun k hk => ?_⟩
      obtain ⟨k, rfl⟩ : ∃ m, k = m + 1 := ⟨k - 1, by omega⟩
      have hc := count_ev ([wrap64 (1 + Int.tmod n 2)] ++ acc) (by simp <;> omega) k (by simp <;> omega)
      constructor
      · simp only [impl_SignOf.l0, half_eq h0 (by omega), Int.add_comm (Int.tmod n 2) 1, Option.bind_some, if_pos hx2, if_pos hz, hc.2, if_pos hx]
        rw [Int.add_comm (Int.tmod (cnt2 _ _) 2) 1]
      · simp only [spec_SignOf.l0, if_neg hg, hc.1, Option.bind_some, if_pos hx]
    · have hg : n / 2 > 0 := by omega
      have h3 : n / 2 < 2 ^ d := by rw [Int.pow_succ] at h1; omega
      obtain ⟨r, hrl, hk2⟩ := ih (n / 2) ([wrap64 (1 + Int.tmod n 2)] ++ acc) (by omega) h3 (by omega) (by simp <;> omega)
      have hx3 : ([wrap64 (1 + Int.tmod (n / 2) 2)] : List Int).length + ([wrap64 (1 + Int.tmod n 2)] ++ acc).length < 17592186044416 := by simp; omega
      refine ⟨r, by simp at hrl ⊢; omega, fun k hk => ?_⟩
      obtain ⟨k, rfl⟩ : ∃ m, k = m + 1 := ⟨k - 1, by omega⟩
      obtain ⟨hr, hs⟩ := hk2 k (by simp <;> omega)
      constructor
      · simp only [impl_SignOf.l0, half_eq h0 (by omega), Int.add_comm (Int.tmod n 2) 1, Option.bind_some, if_pos hx2, if_neg hz]
        exact hr
      · simp only [spec_SignOf.l0, half_eq (show 0 ≤ n / 2 by omega) (by omega), Option.bind_some, if_pos hx3, if_pos hg]
        exact hs

theorem signOf_ev (n : Int) : ∃ r, r.length ≤ 16 ∧ ∀ k, 40 < k → spec_SignOf.f k n = some r ∧ impl_SignOf.f k n = some r := by
  by_cases hin : 0 ≤ n ∧ n ≤ 9999
  · obtain ⟨r, hl, hk⟩ := sign_loop 14 n [] hin.1 (by omega) (by omega) (by simp)
    refine ⟨r, by simpa using hl, fun k h => ?_⟩
    obtain ⟨hr, hs⟩ := hk k (by simp <;> omega)
    unfold spec_SignOf.f impl_SignOf.f
    simp only [l1In_eq, inRange_eq, hin, and_self, decide_true, Option.bind_some, if_true, half_eq hin.1 (by omega)]
    exact ⟨by simpa using hs, hr⟩
  · refine ⟨[], by simp, fun k hk => ?_⟩
    unfold spec_SignOf.f impl_SignOf.f
    simp only [l1In_eq, inRange_eq, hin, decide_false, Option.bind_some, Bool.false_eq_true, if_false]
    exact ⟨trivial, trivial⟩

theorem FnExactSignOf : laws_FnExactSignOf.Stmt := by
  intro n _
  obtain ⟨r, hl, hr⟩ := signOf_ev n
  obtain ⟨h1, h2⟩ := hr 100 (by omega)
  have q := eqIntS_ev r (by omega) 100 (by omega)
  obtain ⟨m, hm, hml, hmj⟩ := markIntS_ev r (by omega) 1 (by omega) (by omega) 100 (by omega)
  have hh := heldIntS_ev m (by omega) 1 (by omega) (by omega) 100 (by omega) (fun j hj => hmj j (by omega))
  rw [hml] at hh
  refine ⟨100, ?_⟩
  unfold laws_FnExactSignOf.f
  simp only [h1, h2, q, hm, hh, Option.bind_some, if_true]
  rw [if_neg (by omega), if_neg (by omega)]

end Go.Proofs.Ytcokbhkjfdddkaa.Pure
