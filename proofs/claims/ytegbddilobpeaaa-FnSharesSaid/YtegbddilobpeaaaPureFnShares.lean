/- For every text of at most 2^20 bytes from which a crew and a number are drawn (longer ones the statement lets pass): food is shared exactly when the crew is one and the number lies in 0..10000, the shares' sum is the number and they are fair; a load is shared exactly when it can be carried, the parts' sum is the load, and nobody carries more than his strength, the ill nothing. No further condition. -/
import Derived.Test.YtegbddilobpeaaaSFnShares
namespace Go.Proofs.Ytegbddilobpeaaa.Pure
open Go.RowKit Go.Proofs.Ytegbddilobpeaaa.Q Go.Proofs.YtegbddilobpeaaaW.PrintWords Go.Proofs.YtegbddilobpeaaaW.PrintLast Go.Proofs.YtegbddilobpeaaaW.PrintMore
set_option linter.unusedVariables false
set_option linter.unusedSimpArgs false

theorem ext_getD {α : Type} {d : α} {a b : List α} (h : a.length = b.length) (hj : ∀ j, j < a.length → a.getD j d = b.getD j d) : a = b := by
  apply List.ext_getElem h
  intro j h1 h2
  have := hj j h1
  simpa [List.getD_eq_getElem?_getD, List.getElem?_eq_getElem h1, List.getElem?_eq_getElem h2] using this

theorem getD_set {α : Type} {d : α} (a : List α) (i j : Nat) (v : α) (h : i < a.length) : (a.set i v).getD j d = if i = j then v else a.getD j d := by
  simp only [List.getD_eq_getElem?_getD, List.getElem?_set]
  by_cases e : i = j
  · subst e; simp [h]
  · simp [e]

theorem wrap_small {i : Int} {n : Nat} (h0 : 0 ≤ i) (h : i < (n : Int)) (hn : n ≤ 1048576) : wrap64 (i + 1) = i + 1 := by
  unfold wrap64; omega

theorem drop_step {α : Type} (d : α) (l : List α) (i : Int) (h0 : 0 ≤ i) (h : i < (l.length : Int)) : l.drop i.toNat = l.getD i.toNat d :: l.drop (i + 1).toNat := by
  have h1 : i.toNat < l.length := by omega
  rw [List.drop_eq_getElem_cons h1, show (i + 1).toNat = i.toNat + 1 by omega]
  congr 1
  simp [List.getD_eq_getElem?_getD, List.getElem?_eq_getElem h1]

theorem l1In_eq (a b c : Int) : spec_l1In.f a b c = some (decide (b ≤ a ∧ a ≤ c)) := by
  unfold spec_l1In.f
  by_cases h : a ≥ b
  · rw [if_pos h]; congr 1; have : b ≤ a := h; simp [this]
  · rw [if_neg h]; have : ¬ b ≤ a := h; simp [this]
theorem inRange_eq (a b c : Int) : impl_InRange.f a b c = some (decide (b ≤ a ∧ a ≤ c)) := by
  unfold impl_InRange.f
  by_cases h : b ≤ a
  · rw [if_pos h]; simp [h]
  · rw [if_neg h]; simp [h]

def fitM (m : S58) : Prop := 1 ≤ m.f0 ∧ m.f0 ≤ 99 ∧ 0 ≤ m.f1 ∧ m.f1 ≤ 100 ∧ 1 ≤ m.f2 ∧ m.f2 ≤ 10
theorem areCrew_loop (xs : List S58) (hn : xs.length ≤ 1048576) : ∀ (d : Nat) (i : Int), 0 ≤ i → (xs.length : Int) - i = d →
    ∃ b, (∀ k, d < k → impl_AreCrew.l0 k xs xs (xs.length : Int) i = some b ∧ spec_AreCrew.l0 k xs i = some b) ∧ (b = true → (1 ≤ xs.length ∧ xs.length ≤ 8) ∧ ∀ j : Int, i ≤ j → j < (xs.length : Int) → fitM (rd_T58 xs j)) := by
  intro d
  induction d with
  | zero =>
    intro i h0 hd
    have hlt : ¬ i < (xs.length : Int) := by omega
    refine ⟨decide (1 ≤ (xs.length : Int) ∧ (xs.length : Int) ≤ 8), fun k hk => ?_, fun hb => ?_⟩
    · obtain ⟨k, rfl⟩ : ∃ m, k = m + 1 := ⟨k - 1, by omega⟩
      simp only [impl_AreCrew.l0, spec_AreCrew.l0, if_neg hlt, l1In_eq, inRange_eq, Option.bind_some, and_self]
    · have := of_decide_eq_true hb
      exact ⟨by omega, fun j h1 h2 => by omega⟩
  | succ d ih =>
    intro i h0 hd
    have hlt : i < (xs.length : Int) := by omega
    obtain ⟨b, hb, hp⟩ := ih (i + 1) (by omega) (by omega)
    have hw : wrap64 (i - 1) = i - 1 := by unfold wrap64; omega
    by_cases ok : (1 ≤ (rd_T58 xs i).f0 ∧ (rd_T58 xs i).f0 ≤ 99 ∧ 0 ≤ (rd_T58 xs i).f1 ∧ (rd_T58 xs i).f1 ≤ 100 ∧ 1 ≤ (rd_T58 xs i).f2 ∧ (rd_T58 xs i).f2 ≤ 10) ∧ (i > 0 → (rd_T58 xs (i - 1)).f0 < (rd_T58 xs i).f0)
    · refine ⟨b, fun k hk => ?_, fun e => ⟨(hp e).1, fun j h1 h2 => ?_⟩⟩
      · obtain ⟨k, rfl⟩ : ∃ m, k = m + 1 := ⟨k - 1, by omega⟩
        obtain ⟨b1, b2⟩ := hb k (by omega)
        have e1 : 1 ≤ (rd_T58 xs i).f0 ∧ (rd_T58 xs i).f0 ≤ 99 := ⟨ok.1.1, ok.1.2.1⟩
        have e2 : 0 ≤ (rd_T58 xs i).f1 ∧ (rd_T58 xs i).f1 ≤ 100 := ⟨ok.1.2.2.1, ok.1.2.2.2.1⟩
        have e3 : 1 ≤ (rd_T58 xs i).f2 ∧ (rd_T58 xs i).f2 ≤ 10 := ok.1.2.2.2.2
        simp only [impl_AreCrew.l0, spec_AreCrew.l0, if_pos hlt, if_pos h0, l1In_eq, inRange_eq, Option.bind_some, decide_eq_true_eq, if_pos e1, if_pos e2, if_pos e3, hw, wrap_small (n := xs.length) h0 hlt hn]
        by_cases hi : i > 0
        · have h1 : 0 ≤ i - 1 := by omega
          have h2 : i - 1 < (xs.length : Int) := by omega
          have h3 := ok.2 hi
          have h4 : ¬ (rd_T58 xs i).f0 ≤ (rd_T58 xs (i - 1)).f0 := by omega
          have h5 : ¬ (rd_T58 xs (i - 1)).f0 ≥ (rd_T58 xs i).f0 := by omega
          simp only [if_pos hi, if_pos h1, if_pos h2, if_neg h4, if_neg h5]
          exact ⟨b1, b2⟩
        · simp only [if_neg hi]
          exact ⟨b1, b2⟩
      · by_cases e2 : j = i
        · subst e2; exact ok.1
        · exact (hp e).2 j (by omega) h2
    · refine ⟨false, fun k hk => ?_, fun e => by cases e⟩
      obtain ⟨k, rfl⟩ : ∃ m, k = m + 1 := ⟨k - 1, by omega⟩
      simp only [impl_AreCrew.l0, spec_AreCrew.l0, if_pos hlt, if_pos h0, l1In_eq, inRange_eq, Option.bind_some, decide_eq_true_eq, hw]
      constructor
      · repeat' split
        all_goals first | rfl | (exfalso; omega)
      · repeat' split
        all_goals first | rfl | (exfalso; omega)
theorem areCrew_ev (xs : List S58) (hn : xs.length ≤ 1048576) : ∃ b, (∀ k, xs.length < k → impl_AreCrew.f k xs = some b ∧ spec_AreCrew.f k xs = some b) ∧ (b = true → (1 ≤ xs.length ∧ xs.length ≤ 8) ∧ ∀ j : Int, 0 ≤ j → j < (xs.length : Int) → fitM (rd_T58 xs j)) := by
  obtain ⟨b, h, hp⟩ := areCrew_loop xs hn xs.length 0 (by omega) (by omega)
  exact ⟨b, h, hp⟩

def fsM : List S58 → Int
  | [] => 0
  | m :: ms => m.f2 + fsM ms
theorem fsM_bound : ∀ l : List S58, (∀ m ∈ l, fitM m) → (l.length : Int) ≤ fsM l ∧ fsM l ≤ 10 * (l.length : Int)
  | [], _ => by simp [fsM]
  | m :: ms, h => by
    have h1 := fsM_bound ms (fun x hx => h x (List.mem_cons_of_mem _ hx))
    have h2 := h m (List.mem_cons_self)
    unfold fitM at h2
    simp only [fsM, List.length_cons]
    omega
theorem fit_mem {xs : List S58} (h : ∀ j : Int, 0 ≤ j → j < (xs.length : Int) → fitM (rd_T58 xs j)) : ∀ m ∈ xs, fitM m := by
  intro m hm
  obtain ⟨j, hj, rfl⟩ := List.mem_iff_getElem.mp hm
  have := h (j : Int) (by omega) (by omega)
  unfold rd_T58 at this
  simpa [List.getD_eq_getElem?_getD, List.getElem?_eq_getElem hj] using this
theorem needOf_loop (xs : List S58) (hn : xs.length ≤ 8) (hfit : ∀ m ∈ xs, fitM m) (hc : ∀ k, xs.length < k → spec_AreCrew.f k xs = some true) : ∀ (d : Nat) (i a : Int), 0 ≤ i → (xs.length : Int) - i = d → 0 ≤ a → a ≤ 1000 - 10 * d →
    ∀ k, xs.length + d + 2 < k → impl_NeedOf.l0 k a xs (xs.length : Int) i = some (a + fsM (xs.drop i.toNat)) ∧ spec_NeedOf.l0 k xs a i = some (a + fsM (xs.drop i.toNat)) := by
  intro d
  induction d with
  | zero =>
    intro i a h0 hd _ _ k hk
    obtain ⟨k, rfl⟩ : ∃ m, k = m + 1 := ⟨k - 1, by omega⟩
    have hlt : ¬ i < (xs.length : Int) := by omega
    simp only [impl_NeedOf.l0, spec_NeedOf.l0, if_neg hlt, List.drop_eq_nil_of_le (show xs.length ≤ i.toNat by omega), fsM, Int.add_zero, and_self]
  | succ d ih =>
    intro i a h0 hd ha hb k hk
    obtain ⟨k, rfl⟩ : ∃ m, k = m + 1 := ⟨k - 1, by omega⟩
    have hlt : i < (xs.length : Int) := by omega
    have hm : fitM (rd_T58 xs i) := hfit _ (by
      unfold rd_T58
      have h1 : i.toNat < xs.length := by omega
      simp [List.getD_eq_getElem?_getD, List.getElem?_eq_getElem h1])
    unfold fitM at hm
    have hw : wrap64 (a + (rd_T58 xs i).f2) = a + (rd_T58 xs i).f2 := by unfold wrap64; omega
    obtain ⟨h1, h2⟩ := ih (i + 1) (a + (rd_T58 xs i).f2) (by omega) (by omega) (by omega) (by omega) k (by omega)
    rw [drop_step z58 xs i h0 hlt, show xs.getD i.toNat z58 = rd_T58 xs i from rfl]
    simp only [impl_NeedOf.l0, spec_NeedOf.l0, if_pos hlt, if_pos h0, hc k (by omega), Option.bind_some, if_true, hw, wrap_small (n := xs.length) h0 hlt (by omega), fsM, h1, h2, Int.add_assoc, and_self]
theorem needOf_ev (xs : List S58) (hn : xs.length ≤ 1048576) : ∃ b c, (∀ k, xs.length < k → impl_AreCrew.f k xs = some b ∧ spec_AreCrew.f k xs = some b) ∧
    (b = true → c = fsM xs ∧ 1 ≤ xs.length ∧ xs.length ≤ 8 ∧ (∀ m ∈ xs, fitM m) ∧ 1 ≤ c ∧ c ≤ 80) ∧ (b = false → c = 0) ∧
    ∀ k, 2 * xs.length + 3 < k → impl_NeedOf.f k xs = some c ∧ spec_NeedOf.f k xs = some c := by
  obtain ⟨b, hb, hp⟩ := areCrew_ev xs hn
  cases b with
  | true =>
    obtain ⟨⟨h1, h8⟩, hf⟩ := hp rfl
    have hm := fit_mem hf
    have hbd := fsM_bound xs hm
    refine ⟨true, fsM xs, hb, fun _ => ⟨rfl, h1, h8, hm, by omega, by omega⟩, (fun e => by cases e), fun k hk => ?_⟩
    obtain ⟨h3, h4⟩ := needOf_loop xs h8 hm (fun k hk => (hb k hk).2) xs.length 0 0 (by omega) (by omega) (by omega) (by omega) k (by omega)
    rw [Int.toNat_zero, List.drop_zero, Int.zero_add] at h3 h4
    unfold impl_NeedOf.f spec_NeedOf.f
    simp only [(hb k (by omega)).1, Option.bind_some, if_true]
    exact ⟨h3, h4⟩
  | false =>
    refine ⟨false, 0, hb, fun e => (by cases e), fun _ => rfl, fun k hk => ?_⟩
    obtain ⟨k, rfl⟩ : ∃ m, k = m + 1 := ⟨k - 1, by omega⟩
    unfold impl_NeedOf.f spec_NeedOf.f
    simp only [(hb (k + 1) (by omega)).1, Option.bind_some, Bool.false_eq_true, if_false, spec_NeedOf.l0, (hb k (by omega)).2, ite_self, and_self]

theorem foodRest_loop (X : Int) : ∀ (e : Nat) (acc : List Int) (x : Int), 0 ≤ x → X - x ≤ e → X ≤ (acc.length : Int) → acc.length ≤ 8 →
    ∃ r, r.length = acc.length ∧ ∀ k, e < k → impl_ShareFood.l1 k acc (X - x) x = some r ∧ spec_ShareFood.l1 k acc X x = some r := by
  intro e
  induction e with
  | zero =>
    intro acc x h0 he hX hl
    refine ⟨acc, rfl, fun k hk => ?_⟩
    obtain ⟨k, rfl⟩ : ∃ m, k = m + 1 := ⟨k - 1, by omega⟩
    have h1 : ¬ X - x > 0 := by omega
    have h2 : ¬ x < X := by omega
    simp only [impl_ShareFood.l1, spec_ShareFood.l1, if_neg h1, if_neg h2, and_self]
  | succ e ih =>
    intro acc x h0 he hX hl
    by_cases h2 : x < X
    · have h1 : X - x > 0 := by omega
      have hne : ¬ (acc.length : Int) = 0 := by omega
      have ht : Int.tmod x (acc.length : Int) = x := by
        rw [Int.tmod_eq_emod_of_nonneg h0]; exact Int.emod_eq_of_lt h0 (by omega)
      have hlt : x < (acc.length : Int) := by omega
      obtain ⟨r, hr, hk2⟩ := ih (acc.set x.toNat (wrap64 (rd acc x + 1))) (x + 1) (by omega) (by omega) (by simp; omega) (by simp; omega)
      refine ⟨r, by simpa using hr, fun k hk => ?_⟩
      obtain ⟨k, rfl⟩ : ∃ m, k = m + 1 := ⟨k - 1, by omega⟩
      have hw : wrap64 (X - x - 1) = X - (x + 1) := by unfold wrap64; omega
      have hw2 : wrap64 (x + 1) = x + 1 := by unfold wrap64; omega
      simp only [impl_ShareFood.l1, spec_ShareFood.l1, if_pos h1, if_pos h2, if_neg hne, ht, if_pos h0, if_pos hlt, hw, hw2]
      exact hk2 k (by omega)
    · have h1 : ¬ X - x > 0 := by omega
      refine ⟨acc, rfl, fun k hk => ?_⟩
      obtain ⟨k, rfl⟩ : ∃ m, k = m + 1 := ⟨k - 1, by omega⟩
      simp only [impl_ShareFood.l1, spec_ShareFood.l1, if_neg h1, if_neg h2, and_self]
theorem food_loop (xs : List S58) (a N : Int) (hn : xs.length ≤ 8) (hn1 : 1 ≤ xs.length) (hfit : ∀ m ∈ xs, fitM m) (ha : 0 ≤ a) (ha2 : a ≤ 10000) (hN : 1 ≤ N) (hN2 : N ≤ 80)
    (hneed : ∀ k, 2 * xs.length + 3 < k → impl_NeedOf.f k xs = some N ∧ spec_NeedOf.f k xs = some N) :
    ∀ (d : Nat) (i x R : Int) (acc : List Int), 0 ≤ i → (xs.length : Int) - i = d → (acc.length : Int) = i → 0 ≤ x → x ≤ 10000 → 0 ≤ R → R ≤ (N - 1) * i → N * x = a * fsM (xs.drop i.toNat) + R →
      ∃ r, r.length = xs.length ∧ ∀ k, 2 * xs.length + d + 20 < k → impl_ShareFood.l0 k xs a acc x xs (xs.length : Int) i = some r ∧ spec_ShareFood.l0 k xs a acc x i = some r := by
  intro d
  induction d with
  | zero =>
    intro i x R acc h0 hd hl hx hx2 hR hR2 hinv
    have hlt : ¬ i < (xs.length : Int) := by omega
    rw [List.drop_eq_nil_of_le (show xs.length ≤ i.toNat by omega)] at hinv
    simp only [fsM, Int.mul_zero, Int.zero_add] at hinv
    have hin : i = (xs.length : Int) := by omega
    have hxl : x < (xs.length : Int) := by
      have h1 : (N - 1) * i < N * i := Int.mul_lt_mul_of_pos_right (by omega) (by omega)
      have h2 : N * x < N * i := by omega
      have h3 := Int.lt_of_mul_lt_mul_left h2 (by omega)
      omega
    obtain ⟨r, hr, hk2⟩ := foodRest_loop x 8 acc 0 (by omega) (by omega) (by omega) (by omega)
    refine ⟨r, by omega, fun k hk => ?_⟩
    obtain ⟨k, rfl⟩ : ∃ m, k = m + 1 := ⟨k - 1, by omega⟩
    have := hk2 k (by omega)
    rw [Int.sub_zero] at this
    simp only [impl_ShareFood.l0, spec_ShareFood.l0, if_neg hlt]
    exact this
  | succ d ih =>
    intro i x R acc h0 hd hl hx hx2 hR hR2 hinv
    have hlt : i < (xs.length : Int) := by omega
    have hm : fitM (rd_T58 xs i) := hfit _ (by
      unfold rd_T58
      have h1 : i.toNat < xs.length := by omega
      simp [List.getD_eq_getElem?_getD, List.getElem?_eq_getElem h1])
    unfold fitM at hm
    obtain ⟨f, hf⟩ : ∃ f, f = (rd_T58 xs i).f2 := ⟨_, rfl⟩
    rw [← hf] at hm
    have haf0 : 0 ≤ a * f := Int.mul_nonneg ha (by omega)
    have haf1 : a * f ≤ 100000 := by
      have h1 : a * f ≤ a * 10 := Int.mul_le_mul_of_nonneg_left (by omega) ha
      omega
    have hw1 : wrap64 (a * f) = a * f := by unfold wrap64; omega
    have hq0 : 0 ≤ a * f / N := Int.ediv_nonneg haf0 (by omega)
    have hq1 : a * f / N ≤ 100000 := by
      have := Int.ediv_le_self N haf0
      omega
    have hw2 : wrap64 (Int.tdiv (a * f) N) = a * f / N := by
      rw [Int.tdiv_eq_ediv_of_nonneg haf0]; unfold wrap64; omega
    obtain ⟨q, hq⟩ : ∃ q, q = a * f / N := ⟨_, rfl⟩
    obtain ⟨m, hmm⟩ : ∃ m, m = a * f % N := ⟨_, rfl⟩
    have hm0 : 0 ≤ m := by rw [hmm]; exact Int.emod_nonneg _ (by omega)
    have hm1 : m < N := by rw [hmm]; exact Int.emod_lt_of_pos _ (by omega)
    have hqm : N * q + m = a * f := by rw [hq, hmm]; exact Int.mul_ediv_add_emod _ _
    rw [← hq] at hw2 hq0 hq1
    rw [drop_step z58 xs i h0 hlt, show xs.getD i.toNat z58 = rd_T58 xs i from rfl] at hinv
    simp only [fsM, ← hf, Int.mul_add] at hinv
    have hfs : 0 ≤ a * fsM (xs.drop (i + 1).toNat) := by
      refine Int.mul_nonneg ha ?_
      have := (fsM_bound (xs.drop (i + 1).toNat) (fun y hy => hfit y (List.mem_of_mem_drop hy))).1
      omega
    have hinv' : N * (x - q) = a * fsM (xs.drop (i + 1).toNat) + (R + m) := by rw [Int.mul_sub]; omega
    have hx' : 0 ≤ x - q := by
      have h1 : N * 0 ≤ N * (x - q) := by rw [hinv']; omega
      exact Int.le_of_mul_le_mul_left h1 (by omega)
    have hw3 : wrap64 (x - q) = x - q := by unfold wrap64; omega
    have hR3 : R + m ≤ (N - 1) * (i + 1) := by rw [Int.mul_add]; omega
    obtain ⟨r, hr, hk2⟩ := ih (i + 1) (x - q) (R + m) (acc ++ [q]) (by omega) (by omega) (by simp; omega) hx' (by omega) (by omega) hR3 hinv'
    refine ⟨r, hr, fun k hk => ?_⟩
    obtain ⟨k, rfl⟩ : ∃ m, k = m + 1 := ⟨k - 1, by omega⟩
    obtain ⟨n1, n2⟩ := hneed k (by omega)
    have hNz : ¬ N = 0 := by omega
    have hal : acc.length < 17592186044416 := by omega
    have hya : i < ((acc ++ [q]).length : Int) := by simp; omega
    have hrd : rd (acc ++ [q]) i = q := by
      have e : i.toNat = acc.length := by omega
      unfold rd; rw [e]; simp [List.getD_eq_getElem?_getD]
    simp only [impl_ShareFood.l0, spec_ShareFood.l0, if_pos hlt, if_pos h0, n1, n2, Option.bind_some, if_neg hNz, if_pos hal, ← hf, hw1, hw2, if_pos hya, hrd, hw3, wrap_small (n := xs.length) h0 hlt (by omega)]
    exact hk2 k (by omega)
theorem shareFood_ev (xs : List S58) (a : Int) (hn : xs.length ≤ 1048576) : ∃ r, r.length ≤ xs.length ∧ ∀ k, 3 * xs.length + 24 < k → impl_ShareFood.f k xs a = some r ∧ spec_ShareFood.f k xs a = some r := by
  obtain ⟨b, N, hb, ht, hz, hneed⟩ := needOf_ev xs hn
  cases b with
  | true =>
    obtain ⟨hN, h1, h8, hfit, hN1, hN2⟩ := ht rfl
    by_cases hin : 0 ≤ a ∧ a ≤ 10000
    · obtain ⟨r, hr, hk2⟩ := food_loop xs a N h8 h1 hfit hin.1 hin.2 hN1 hN2 hneed xs.length 0 a 0 [] (by omega) (by omega) (by simp) hin.1 hin.2 (by omega) (by simp) (by rw [Int.toNat_zero, List.drop_zero, ← hN, Int.add_zero, Int.mul_comm])
      refine ⟨r, by omega, fun k hk => ?_⟩
      obtain ⟨k, rfl⟩ : ∃ m, k = m + 1 := ⟨k - 1, by omega⟩
      obtain ⟨r1, r2⟩ := hk2 k (by omega)
      unfold impl_ShareFood.f spec_ShareFood.f
      simp only [(hb (k + 1) (by omega)).1, (hb (k + 1) (by omega)).2, Option.bind_some, if_true, l1In_eq, inRange_eq, impl_ShareFood.j0, spec_ShareFood.j0, hin, and_self, decide_true, Bool.not_true, Bool.false_eq_true, if_false]
      exact ⟨r1, r2⟩
    · refine ⟨[], by simp, fun k hk => ?_⟩
      obtain ⟨k, rfl⟩ : ∃ m, k = m + 1 := ⟨k - 1, by omega⟩
      unfold impl_ShareFood.f spec_ShareFood.f
      simp only [(hb (k + 1) (by omega)).1, (hb (k + 1) (by omega)).2, Option.bind_some, if_true, l1In_eq, inRange_eq, impl_ShareFood.j0, spec_ShareFood.j0, hin, decide_false, Bool.not_false, and_self]
  | false =>
    refine ⟨[], by simp, fun k hk => ?_⟩
    obtain ⟨k, rfl⟩ : ∃ m, k = m + 1 := ⟨k - 1, by omega⟩
    unfold impl_ShareFood.f spec_ShareFood.f
    simp only [(hb (k + 1) (by omega)).1, (hb (k + 1) (by omega)).2, Option.bind_some, Bool.false_eq_true, if_false, impl_ShareFood.j0, spec_ShareFood.j0, if_true, and_self]

theorem wrapNat (n : Nat) (h : n ≤ 1073741823) : Go.IntKind.wrap .i64 (n : Int) = (n : Int) := by
  have e1 : (Go.IntKind.i64).bits = 64 := rfl
  have e2 : (Go.IntKind.i64).signed = true := rfl
  unfold Go.IntKind.wrap
  simp only [e1, e2, Bool.true_and, decide_eq_true_eq]
  have e3 : (2 : Int) ^ 64 = 18446744073709551616 := by decide
  have e4 : (2 : Int) ^ (64 - 1) = 9223372036854775808 := by decide
  rw [e3, e4, if_neg (by omega)]; omega
theorem and255 (x : Int) : 0 ≤ Go.bits .and .i64 x 255 ∧ Go.bits .and .i64 x 255 ≤ 255 := by
  have h : (BitVec.ofInt 64 x &&& BitVec.ofInt 64 255).toNat ≤ 255 := by
    rw [BitVec.toNat_and]; exact Nat.le_trans Nat.and_le_right (by decide)
  show 0 ≤ Go.IntKind.wrap .i64 ((BitVec.ofInt 64 x &&& BitVec.ofInt 64 255).toNat : Int) ∧ Go.IntKind.wrap .i64 ((BitVec.ofInt 64 x &&& BitVec.ofInt 64 255).toNat : Int) ≤ 255
  generalize (BitVec.ofInt 64 x &&& BitVec.ofInt 64 255).toNat = n at h ⊢
  rw [wrapNat n (by omega)]; omega
/-- A draw's state: its place is none below nought. -/
theorem byte_ev (d : List Int) (p s : Int) (hd : d.length ≤ 1048576) (hp : 0 ≤ p) (hp2 : p ≤ d.length) : ∃ v p' s', spec_l1Byte.f d p s = some (v, p', s') ∧ (0 ≤ v ∧ v ≤ 255) ∧ 0 ≤ p' ∧ p' ≤ d.length := by
  unfold spec_l1Byte.f
  by_cases h : p < (d.length : Int)
  · rw [if_pos h, if_pos hp]
    exact ⟨_, _, _, rfl, and255 _, by unfold wrap64; omega, by unfold wrap64; omega⟩
  · rw [if_neg h]
    exact ⟨_, _, _, rfl, and255 _, hp, hp2⟩
theorem tmod_range (x n : Int) (hx : 0 ≤ x) (hn : 0 < n) : 0 ≤ Int.tmod x n ∧ Int.tmod x n < n := by
  rw [Int.tmod_eq_emod_of_nonneg hx]
  exact ⟨Int.emod_nonneg _ (by omega), Int.emod_lt_of_pos _ hn⟩
theorem below_ev (d : List Int) (p s n : Int) (hd : d.length ≤ 1048576) (hp : 0 ≤ p) (hp2 : p ≤ d.length) : ∃ v p' s', spec_l1Below.f d p s n = some (v, p', s') ∧ (0 ≤ v ∧ (0 < n → v < n) ∧ (n ≤ 0 → v = 0)) ∧ 0 ≤ p' ∧ p' ≤ d.length := by
  unfold spec_l1Below.f
  by_cases h : n ≤ 0
  · rw [if_pos h]; exact ⟨0, p, s, rfl, ⟨by omega, by omega, by omega⟩, hp, hp2⟩
  · have hz : ¬ n = 0 := by omega
    rw [if_neg h]
    by_cases h2 : n ≤ 256
    · rw [if_pos h2]
      obtain ⟨v, p', s', hb, hv, hp', hp2'⟩ := byte_ev d p s hd hp hp2
      rw [hb]; simp only [Option.bind_some, if_neg hz]
      have := tmod_range v n hv.1 (by omega)
      exact ⟨_, _, _, rfl, ⟨this.1, fun _ => this.2, by omega⟩, hp', hp2'⟩
    · rw [if_neg h2]
      obtain ⟨v, p', s', hb, hv, hp', hp2'⟩ := byte_ev d p s hd hp hp2
      rw [hb]; simp only [Option.bind_some]
      obtain ⟨v2, p2, s2, hb2, hv2, hq, hq2⟩ := byte_ev d p' s' hd hp' hp2'
      rw [hb2]; simp only [Option.bind_some]
      obtain ⟨v3, p3, s3, hb3, hv3, hr, hr2⟩ := byte_ev d p2 s2 hd hq hq2
      rw [hb3]; simp only [Option.bind_some, if_neg hz]
      have := tmod_range (wrap64 (wrap64 (wrap64 (v * 65536) + wrap64 (v2 * 256)) + v3)) n (by unfold wrap64; omega) (by omega)
      exact ⟨_, _, _, rfl, ⟨this.1, fun _ => this.2, by omega⟩, hr, hr2⟩
theorem int_ev (d : List Int) (p s : Int) (l : List Int) (hl : 0 < l.length) (hd : d.length ≤ 1048576) (hp : 0 ≤ p) (hp2 : p ≤ d.length) : ∃ v p' s', spec_l1Int.f d p s l = some (v, p', s') ∧ v ∈ l ∧ 0 ≤ p' ∧ p' ≤ d.length := by
  unfold spec_l1Int.f
  obtain ⟨v, p', s', hb, hv, hp', hp2'⟩ := below_ev d p s (l.length : Int) hd hp hp2
  have h2 := hv.2.1 (by omega)
  rw [hb]; simp only [Option.bind_some, if_pos hv.1, if_pos h2]
  refine ⟨_, _, _, rfl, ?_, hp', hp2'⟩
  have h3 : v.toNat < l.length := by omega
  unfold rd
  simp [List.getD_eq_getElem?_getD, List.getElem?_eq_getElem h3]
theorem new_loop (d : List Int) (hd : d.length ≤ 1048576) : ∀ (e : Nat) (s i : Int), 0 ≤ i → (d.length : Int) - i ≤ e → ∃ s', ∀ k, e < k → spec_l1New.l0 k d s i = some (d, 0, s') := by
  intro e
  induction e with
  | zero =>
    intro s i h0 he
    refine ⟨s, fun k hk => ?_⟩
    obtain ⟨k, rfl⟩ : ∃ m, k = m + 1 := ⟨k - 1, by omega⟩
    simp only [spec_l1New.l0]
    rw [if_neg (by omega)]
  | succ e ih =>
    intro s i h0 he
    by_cases h : i < (d.length : Int) ∧ i < 4000
    · obtain ⟨s', hs⟩ := ih (Go.bits .and .i64 (wrap64 ((wrap64 ((wrap64 (s * 137)) + (wrap64 (rd d i)))) + 11)) 1073741823) (i + 1) (by omega) (by omega)
      refine ⟨s', fun k hk => ?_⟩
      obtain ⟨k, rfl⟩ : ∃ m, k = m + 1 := ⟨k - 1, by omega⟩
      simp only [spec_l1New.l0, if_pos h.1, if_pos h.2, if_pos h0, wrap_small (n := d.length) h0 h.1 hd]
      exact hs k (by omega)
    · refine ⟨s, fun k hk => ?_⟩
      obtain ⟨k, rfl⟩ : ∃ m, k = m + 1 := ⟨k - 1, by omega⟩
      simp only [spec_l1New.l0]
      by_cases h1 : i < (d.length : Int)
      · rw [if_pos h1, if_neg (fun h2 => h ⟨h1, h2⟩)]
      · rw [if_neg h1]
theorem new_ev (d : List Int) (hd : d.length ≤ 1048576) : ∃ s, ∀ k, d.length < k → spec_l1New.f k d = some (d, 0, s) :=
  new_loop d hd d.length _ 0 (by omega) (by omega)

abbrev MM := S58
def sumL : List Int → Int
  | [] => 0
  | v :: vs => v + sumL vs
theorem sumL_append (a b : List Int) : sumL (a ++ b) = sumL a + sumL b := by
  induction a with
  | nil => simp [sumL]
  | cons v vs ih => simp only [List.cons_append, sumL, ih]; omega
theorem sumL_set : ∀ (l : List Int) (i : Nat) (v : Int), i < l.length → sumL (l.set i v) = sumL l - l.getD i 0 + v
  | x :: xs, 0, v, _ => by simp only [List.set_cons_zero, sumL, List.getD_cons_zero]; omega
  | x :: xs, i + 1, v, h => by
    have := sumL_set xs i v (by simpa using h)
    simp only [List.set_cons_succ, sumL, List.getD_cons_succ, this]; omega
theorem le_sumL : ∀ l : List Int, (∀ v ∈ l, 0 ≤ v) → 0 ≤ sumL l ∧ ∀ v ∈ l, v ≤ sumL l
  | [], _ => ⟨by simp [sumL], by intro v h; cases h⟩
  | x :: xs, h => by
    obtain ⟨h1, h2⟩ := le_sumL xs (fun v hv => h v (List.mem_cons_of_mem _ hv))
    have hx := h x (List.mem_cons_self)
    refine ⟨by simp only [sumL]; omega, fun v hv => ?_⟩
    simp only [sumL]
    rcases List.mem_cons.mp hv with h3 | h3
    · omega
    · have := h2 v h3; omega
theorem rd_seti (l : List Int) (x j v : Int) (hx : 0 ≤ x) (hx2 : x < (l.length : Int)) (hj : 0 ≤ j) : rd (l.set x.toNat v) j = if j = x then v else rd l j := by
  unfold rd
  rw [getD_set _ _ _ _ (by omega)]
  by_cases e : j = x
  · subst e; rw [if_pos rfl, if_pos rfl]
  · rw [if_neg e, if_neg (by omega)]
theorem rd_app (l : List Int) (v j : Int) (hj : 0 ≤ j) (h : j < (l.length : Int)) : rd (l ++ [v]) j = rd l j := by
  unfold rd
  have h2 : j.toNat < l.length := by omega
  simp [List.getD_eq_getElem?_getD, List.getElem?_append_left h2]
theorem rd_last (l : List Int) (v : Int) : rd (l ++ [v]) (l.length : Int) = v := by
  unfold rd; simp [List.getD_eq_getElem?_getD]
theorem rd_mem (l : List Int) (v : Int) (h : v ∈ l) : ∃ j : Int, 0 ≤ j ∧ j < (l.length : Int) ∧ rd l j = v := by
  obtain ⟨j, hj, rfl⟩ := List.mem_iff_getElem.mp h
  exact ⟨(j : Int), by omega, by omega, by unfold rd; simp [List.getD_eq_getElem?_getD, List.getElem?_eq_getElem hj]⟩
theorem foodRest_val (X : Int) : ∀ (e : Nat) (acc : List Int) (x : Int), 0 ≤ x → X - x = e → X ≤ (acc.length : Int) → acc.length ≤ 8 → (∀ j : Int, x ≤ j → j < acc.length → 0 ≤ rd acc j ∧ rd acc j ≤ 200000) →
    ∃ r, r.length = acc.length ∧ sumL r = sumL acc + (X - x) ∧ (∀ j : Int, 0 ≤ j → j < acc.length → (rd acc j ≤ rd r j ∧ rd r j ≤ rd acc j + 1) ∧ (j < x → rd r j = rd acc j)) ∧ ∀ k, e < k → impl_ShareFood.l1 k acc (X - x) x = some r := by
  intro e
  induction e with
  | zero =>
    intro acc x h0 he hX hl hb
    refine ⟨acc, rfl, by omega, fun j _ _ => ⟨by omega, fun _ => rfl⟩, fun k hk => ?_⟩
    obtain ⟨k, rfl⟩ : ∃ m, k = m + 1 := ⟨k - 1, by omega⟩
    have h1 : ¬ X - x > 0 := by omega
    simp only [impl_ShareFood.l1, if_neg h1]
  | succ e ih =>
    intro acc x h0 he hX hl hb
    have h1 : X - x > 0 := by omega
    have hne : ¬ (acc.length : Int) = 0 := by omega
    have hlt : x < (acc.length : Int) := by omega
    have ht : Int.tmod x (acc.length : Int) = x := by
      rw [Int.tmod_eq_emod_of_nonneg h0]; exact Int.emod_eq_of_lt h0 hlt
    have hbx := hb x (by omega) hlt
    have hw0 : wrap64 (rd acc x + 1) = rd acc x + 1 := by unfold wrap64; omega
    obtain ⟨r, hr, hs, hj, hk2⟩ := ih (acc.set x.toNat (rd acc x + 1)) (x + 1) (by omega) (by omega) (by simp; omega) (by simp; omega) (fun j h2 h3 => by
      rw [rd_seti acc x j _ h0 hlt (by omega), if_neg (by omega)]
      exact hb j (by omega) (by simpa using h3))
    rw [List.length_set] at hr
    refine ⟨r, hr, ?_, fun j hj0 hjl => ?_, fun k hk => ?_⟩
    · rw [hs, sumL_set _ _ _ (by omega), show acc.getD x.toNat 0 = rd acc x from rfl]; omega
    · have := hj j hj0 (by rw [List.length_set]; exact hjl)
      rw [rd_seti acc x j _ h0 hlt hj0] at this
      by_cases e1 : j = x
      · subst e1
        rw [if_pos rfl] at this
        have h4 := this.2 (by omega)
        exact ⟨by omega, fun h => by omega⟩
      · rw [if_neg e1] at this
        exact ⟨this.1, fun h => this.2 (by omega)⟩
    · obtain ⟨k, rfl⟩ : ∃ m, k = m + 1 := ⟨k - 1, by omega⟩
      have hw : wrap64 (X - x - 1) = X - (x + 1) := by unfold wrap64; omega
      have hw2 : wrap64 (x + 1) = x + 1 := by unfold wrap64; omega
      simp only [impl_ShareFood.l1, if_pos h1, if_neg hne, ht, if_pos h0, if_pos hlt, hw, hw2, hw0]
      exact hk2 k (by omega)
theorem fit_rd {xs : List MM} (hfit : ∀ m ∈ xs, fitM m) (i : Int) (h0 : 0 ≤ i) (hlt : i < (xs.length : Int)) : fitM (rd_T58 xs i) := hfit _ (by
  unfold rd_T58
  have h1 : i.toNat < xs.length := by omega
  simp [List.getD_eq_getElem?_getD, List.getElem?_eq_getElem h1])
theorem quo_bound (a f N : Int) (ha : 0 ≤ a) (ha2 : a ≤ 10000) (hf : 1 ≤ f) (hf2 : f ≤ 10) (hN : 1 ≤ N) : 0 ≤ a * f ∧ a * f ≤ 100000 ∧ 0 ≤ a * f / N ∧ a * f / N ≤ 100000 := by
  have haf0 : 0 ≤ a * f := Int.mul_nonneg ha (by omega)
  have haf1 : a * f ≤ 100000 := by
    have h1 : a * f ≤ a * 10 := Int.mul_le_mul_of_nonneg_left (by omega) ha
    omega
  have hq0 : 0 ≤ a * f / N := Int.ediv_nonneg haf0 (by omega)
  have hq1 := Int.ediv_le_self N haf0
  omega
theorem food_val (xs : List MM) (a N : Int) (hn : xs.length ≤ 8) (hn1 : 1 ≤ xs.length) (hfit : ∀ m ∈ xs, fitM m) (ha : 0 ≤ a) (ha2 : a ≤ 10000) (hN : 1 ≤ N) (hN2 : N ≤ 80)
    (hneed : ∀ k, 2 * xs.length + 3 < k → impl_NeedOf.f k xs = some N) :
    ∀ (d : Nat) (i x R : Int) (acc : List Int), 0 ≤ i → (xs.length : Int) - i = d → (acc.length : Int) = i → 0 ≤ x → x ≤ 10000 → 0 ≤ R → R ≤ (N - 1) * i → N * x = a * fsM (xs.drop i.toNat) + R → sumL acc + x = a →
      (∀ j : Int, 0 ≤ j → j < i → rd acc j = a * (rd_T58 xs j).f2 / N) →
      ∃ r, r.length = xs.length ∧ sumL r = a ∧ (∀ j : Int, 0 ≤ j → j < (xs.length : Int) → a * (rd_T58 xs j).f2 / N ≤ rd r j ∧ rd r j ≤ a * (rd_T58 xs j).f2 / N + 1) ∧ ∀ k, 2 * xs.length + d + 20 < k → impl_ShareFood.l0 k xs a acc x xs (xs.length : Int) i = some r := by
  intro d
  induction d with
  | zero =>
    intro i x R acc h0 hd hl hx hx2 hR hR2 hinv hsum hacc
    have hlt : ¬ i < (xs.length : Int) := by omega
    rw [List.drop_eq_nil_of_le (show xs.length ≤ i.toNat by omega)] at hinv
    simp only [fsM, Int.mul_zero, Int.zero_add] at hinv
    have hin : i = (xs.length : Int) := by omega
    have hxl : x < (xs.length : Int) := by
      have h1 : (N - 1) * i < N * i := Int.mul_lt_mul_of_pos_right (by omega) (by omega)
      have h2 : N * x < N * i := by omega
      have h3 := Int.lt_of_mul_lt_mul_left h2 (by omega)
      omega
    obtain ⟨r, hr, hs, hj, hk2⟩ := foodRest_val x x.toNat acc 0 (by omega) (by omega) (by omega) (by omega) (fun j h1 h2 => by
      have hm := fit_rd hfit j h1 (by omega)
      unfold fitM at hm
      have := quo_bound a (rd_T58 xs j).f2 N ha ha2 (by omega) (by omega) hN
      rw [hacc j h1 (by omega)]; omega)
    refine ⟨r, by omega, by omega, fun j h1 h2 => ?_, fun k hk => ?_⟩
    · have := (hj j h1 (by omega)).1
      rw [hacc j h1 (by omega)] at this
      exact this
    · obtain ⟨k, rfl⟩ : ∃ m, k = m + 1 := ⟨k - 1, by omega⟩
      have := hk2 k (by omega)
      rw [Int.sub_zero] at this
      simp only [impl_ShareFood.l0, if_neg hlt]
      exact this
  | succ d ih =>
    intro i x R acc h0 hd hl hx hx2 hR hR2 hinv hsum hacc
    have hlt : i < (xs.length : Int) := by omega
    have hm := fit_rd hfit i h0 hlt
    unfold fitM at hm
    obtain ⟨f, hf⟩ : ∃ f, f = (rd_T58 xs i).f2 := ⟨_, rfl⟩
    rw [← hf] at hm
    obtain ⟨haf0, haf1, hq0, hq1⟩ := quo_bound a f N ha ha2 (by omega) (by omega) hN
    have hw1 : wrap64 (a * f) = a * f := by unfold wrap64; omega
    have hw2 : wrap64 (Int.tdiv (a * f) N) = a * f / N := by
      rw [Int.tdiv_eq_ediv_of_nonneg haf0]; unfold wrap64; omega
    obtain ⟨q, hq⟩ : ∃ q, q = a * f / N := ⟨_, rfl⟩
    obtain ⟨m, hmm⟩ : ∃ m, m = a * f % N := ⟨_, rfl⟩
    have hm0 : 0 ≤ m := by rw [hmm]; exact Int.emod_nonneg _ (by omega)
    have hm1 : m < N := by rw [hmm]; exact Int.emod_lt_of_pos _ (by omega)
    have hqm : N * q + m = a * f := by rw [hq, hmm]; exact Int.mul_ediv_add_emod _ _
    rw [← hq] at hw2 hq0 hq1
    rw [drop_step z58 xs i h0 hlt, show xs.getD i.toNat z58 = rd_T58 xs i from rfl] at hinv
    simp only [fsM, ← hf, Int.mul_add] at hinv
    have hfs : 0 ≤ a * fsM (xs.drop (i + 1).toNat) := by
      refine Int.mul_nonneg ha ?_
      have := (fsM_bound (xs.drop (i + 1).toNat) (fun y hy => hfit y (List.mem_of_mem_drop hy))).1
      omega
    have hinv' : N * (x - q) = a * fsM (xs.drop (i + 1).toNat) + (R + m) := by rw [Int.mul_sub]; omega
    have hx' : 0 ≤ x - q := by
      have h1 : N * 0 ≤ N * (x - q) := by rw [hinv']; omega
      exact Int.le_of_mul_le_mul_left h1 (by omega)
    have hw3 : wrap64 (x - q) = x - q := by unfold wrap64; omega
    have hR3 : R + m ≤ (N - 1) * (i + 1) := by rw [Int.mul_add]; omega
    obtain ⟨r, hr, hs, hj, hk2⟩ := ih (i + 1) (x - q) (R + m) (acc ++ [q]) (by omega) (by omega) (by simp; omega) hx' (by omega) (by omega) hR3 hinv' (by rw [sumL_append]; simp only [sumL]; omega) (fun j h1 h2 => by
      by_cases e : j = i
      · have e2 : j = (acc.length : Int) := by omega
        rw [e2, rd_last, ← e2, e, ← hf, hq]
      · rw [rd_app acc q j h1 (by omega)]; exact hacc j h1 (by omega))
    refine ⟨r, hr, hs, hj, fun k hk => ?_⟩
    obtain ⟨k, rfl⟩ : ∃ m, k = m + 1 := ⟨k - 1, by omega⟩
    have n1 := hneed k (by omega)
    have hNz : ¬ N = 0 := by omega
    have hal : acc.length < 17592186044416 := by omega
    simp only [impl_ShareFood.l0, if_pos hlt, if_pos h0, n1, Option.bind_some, if_neg hNz, if_pos hal, ← hf, hw1, hw2, hw3, wrap_small (n := xs.length) h0 hlt (by omega)]
    exact hk2 k (by omega)
theorem fair_cond (a N fi fk si sk : Int) (hN : 1 ≤ N) (ha : 0 ≤ a) (hi : 1 ≤ fi) (hk : 1 ≤ fk) (h1 : si ≤ a * fi / N + 1) (h2 : a * fk / N ≤ sk) : si * fk ≤ (sk + 1) * fi + fk := by
  obtain ⟨qi, hqi⟩ : ∃ q, q = a * fi / N := ⟨_, rfl⟩
  obtain ⟨qk, hqk⟩ : ∃ q, q = a * fk / N := ⟨_, rfl⟩
  rw [← hqi] at h1
  rw [← hqk] at h2
  have e1 : N * qi ≤ a * fi := by rw [hqi]; exact Int.mul_ediv_self_le (by omega)
  have e2 : a * fk ≤ N * (qk + 1) := by
    have h3 : N * qk + a * fk % N = a * fk := by rw [hqk]; exact Int.mul_ediv_add_emod _ _
    have h4 : a * fk % N < N := Int.emod_lt_of_pos _ (by omega)
    rw [Int.mul_add]; omega
  have e3 : N * (qi * fk) ≤ N * ((qk + 1) * fi) := by
    have h5 : N * qi * fk ≤ a * fi * fk := Int.mul_le_mul_of_nonneg_right e1 (by omega)
    have h6 : a * fk * fi ≤ N * (qk + 1) * fi := Int.mul_le_mul_of_nonneg_right e2 (by omega)
    have h7 : a * fi * fk = a * fk * fi := by rw [Int.mul_assoc, Int.mul_comm fi fk, Int.mul_assoc]
    have h8 : N * (qi * fk) = N * qi * fk := (Int.mul_assoc _ _ _).symm
    have h9 : N * ((qk + 1) * fi) = N * (qk + 1) * fi := (Int.mul_assoc _ _ _).symm
    rw [h8, h9]
    omega
  have e4 : qi * fk ≤ (qk + 1) * fi := Int.le_of_mul_le_mul_left e3 (by omega)
  have e5 : si * fk ≤ (qi + 1) * fk := Int.mul_le_mul_of_nonneg_right h1 (by omega)
  have e6 : (qk + 1) * fi ≤ (sk + 1) * fi := Int.mul_le_mul_of_nonneg_right (by omega) (by omega)
  rw [Int.add_mul, Int.one_mul] at e5
  omega
theorem fairI_inner (xs : List MM) (sh : List Int) (hn : xs.length ≤ 8) (hl : sh.length = xs.length) (i : Int) (h0 : 0 ≤ i) (hi : i < (xs.length : Int))
    (hc : ∀ j : Int, 0 ≤ j → j < (xs.length : Int) → ¬ wrap64 (rd sh i * (rd_T58 xs j).f2) > wrap64 (wrap64 (wrap64 (rd sh j + 1) * (rd_T58 xs i).f2) + (rd_T58 xs j).f2)) (K : Nat)
    (hout : ∀ k, K < k → impl_IsFair.l0 k xs sh xs (xs.length : Int) (i + 1) = some true) :
    ∀ (d : Nat) (j : Int), 0 ≤ j → (xs.length : Int) - j = d → ∀ k, K + d + 1 < k →
      impl_IsFair.l1 k xs sh i xs (xs.length : Int) i xs (xs.length : Int) j ((rd_T58 xs i).f0) ((rd_T58 xs i).f1) ((rd_T58 xs i).f2) ((rd_T58 xs i).f3) = some true := by
  intro d
  have hi2 : i < (sh.length : Int) := by omega
  induction d with
  | zero =>
    intro j hj hd k hk
    obtain ⟨k, rfl⟩ : ∃ m, k = m + 1 := ⟨k - 1, by omega⟩
    have hlt : ¬ j < (xs.length : Int) := by omega
    simp only [impl_IsFair.l1, if_neg hlt, wrap_small (n := xs.length) h0 hi (by omega)]
    exact hout k (by omega)
  | succ d ih =>
    intro j hj hd k hk
    have hlt : j < (xs.length : Int) := by omega
    have hlt2 : j < (sh.length : Int) := by omega
    have hD := hc j hj hlt
    obtain ⟨k, rfl⟩ : ∃ m, k = m + 1 := ⟨k - 1, by omega⟩
    simp only [impl_IsFair.l1, if_pos hlt, if_pos hlt2, if_pos hj, if_pos h0, if_pos hi2, if_neg hD, wrap_small (n := xs.length) hj hlt (by omega)]
    exact ih (j + 1) (by omega) (by omega) k (by omega)
theorem fairI_outer (xs : List MM) (sh : List Int) (hn : xs.length ≤ 8) (hl : sh.length = xs.length)
    (hc : ∀ i j : Int, 0 ≤ i → i < (xs.length : Int) → 0 ≤ j → j < (xs.length : Int) → ¬ wrap64 (rd sh i * (rd_T58 xs j).f2) > wrap64 (wrap64 (wrap64 (rd sh j + 1) * (rd_T58 xs i).f2) + (rd_T58 xs j).f2)) :
    ∀ (d : Nat) (i : Int), 0 ≤ i → (xs.length : Int) - i = d → ∀ k, 12 * d + 2 < k → impl_IsFair.l0 k xs sh xs (xs.length : Int) i = some true := by
  intro d
  induction d with
  | zero =>
    intro i h0 hd k hk
    obtain ⟨k, rfl⟩ : ∃ m, k = m + 1 := ⟨k - 1, by omega⟩
    have hlt : ¬ i < (xs.length : Int) := by omega
    simp only [impl_IsFair.l0, if_neg hlt]
  | succ d ih =>
    intro i h0 hd k hk
    have hlt : i < (xs.length : Int) := by omega
    obtain ⟨k, rfl⟩ : ∃ m, k = m + 1 := ⟨k - 1, by omega⟩
    simp only [impl_IsFair.l0, if_pos hlt, if_pos h0]
    exact fairI_inner xs sh hn hl i h0 hlt (fun j h1 h2 => hc i j h0 hlt h1 h2) (12 * d + 2) (fun k hk => ih (i + 1) (by omega) (by omega) k hk) xs.length 0 (by omega) (by omega) k (by omega)
theorem sumOf_loop (l : List Int) (hn : l.length ≤ 8) (hb : ∀ v ∈ l, 0 ≤ v ∧ v ≤ 10000) : ∀ (d : Nat) (i a : Int), 0 ≤ i → (l.length : Int) - i = d → 0 ≤ a → a ≤ 10000 * i → ∀ k, d < k → impl_SumOf.l0 k a l (l.length : Int) i = some (a + sumL (l.drop i.toNat)) := by
  intro d
  induction d with
  | zero =>
    intro i a h0 hd ha ha2 k hk
    obtain ⟨k, rfl⟩ : ∃ m, k = m + 1 := ⟨k - 1, by omega⟩
    have hlt : ¬ i < (l.length : Int) := by omega
    rw [List.drop_eq_nil_of_le (by omega)]
    simp only [impl_SumOf.l0, if_neg hlt, sumL, Int.add_zero]
  | succ d ih =>
    intro i a h0 hd ha ha2 k hk
    obtain ⟨k, rfl⟩ : ∃ m, k = m + 1 := ⟨k - 1, by omega⟩
    have hlt : i < (l.length : Int) := by omega
    have hv := hb (rd l i) (by
      unfold rd
      have h1 : i.toNat < l.length := by omega
      simp [List.getD_eq_getElem?_getD, List.getElem?_eq_getElem h1])
    have hm : mn (mx (rd l i) (-10000)) 10000 = rd l i := by
      unfold mn mx
      rw [if_neg (by omega), if_neg (by omega)]
    have hw : wrap64 (a + rd l i) = a + rd l i := by unfold wrap64; omega
    rw [drop_step 0 l i h0 hlt, show l.getD i.toNat 0 = rd l i from rfl]
    simp only [impl_SumOf.l0, if_pos hlt, if_pos h0, hm, hw, wrap_small (n := l.length) h0 hlt (by omega), sumL]
    rw [ih (i + 1) (a + rd l i) (by omega) (by omega) (by omega) (by omega) k (by omega), Int.add_assoc]
theorem sumOf_val (l : List Int) (hn : l.length ≤ 8) (hb : ∀ v ∈ l, 0 ≤ v ∧ v ≤ 10000) (k : Nat) (hk : l.length < k) : impl_SumOf.f k l = some (sumL l) := by
  have := sumOf_loop l hn hb l.length 0 0 (by omega) (by omega) (by omega) (by omega) k hk
  rw [Int.toNat_zero, List.drop_zero, Int.zero_add] at this
  exact this
def capS : List MM → Int
  | [] => 0
  | m :: ms => (if m.f3 = true then 0 else m.f1) + capS ms
theorem capS_bound : ∀ l : List MM, (∀ m ∈ l, fitM m) → 0 ≤ capS l ∧ capS l ≤ 100 * (l.length : Int)
  | [], _ => by simp [capS]
  | m :: ms, h => by
    have h1 := capS_bound ms (fun x hx => h x (List.mem_cons_of_mem _ hx))
    have h2 := h m (List.mem_cons_self)
    unfold fitM at h2
    simp only [capS, List.length_cons]
    split <;> omega
theorem capOf_loop (xs : List MM) (hn : xs.length ≤ 8) (hfit : ∀ m ∈ xs, fitM m) : ∀ (d : Nat) (i a : Int), 0 ≤ i → (xs.length : Int) - i = d → 0 ≤ a → a ≤ 100 * i → ∀ k, d < k → impl_CapOf.l0 k a xs (xs.length : Int) i = some (a + capS (xs.drop i.toNat)) := by
  intro d
  induction d with
  | zero =>
    intro i a h0 hd ha ha2 k hk
    obtain ⟨k, rfl⟩ : ∃ m, k = m + 1 := ⟨k - 1, by omega⟩
    have hlt : ¬ i < (xs.length : Int) := by omega
    rw [List.drop_eq_nil_of_le (by omega)]
    simp only [impl_CapOf.l0, if_neg hlt, capS, Int.add_zero]
  | succ d ih =>
    intro i a h0 hd ha ha2 k hk
    obtain ⟨k, rfl⟩ : ∃ m, k = m + 1 := ⟨k - 1, by omega⟩
    have hlt : i < (xs.length : Int) := by omega
    have hm := fit_rd hfit i h0 hlt
    unfold fitM at hm
    rw [drop_step z58 xs i h0 hlt, show xs.getD i.toNat z58 = rd_T58 xs i from rfl]
    by_cases hf : (rd_T58 xs i).f3 = true
    · simp only [impl_CapOf.l0, if_pos hlt, if_pos h0, if_pos hf, wrap_small (n := xs.length) h0 hlt (by omega), capS]
      rw [ih (i + 1) a (by omega) (by omega) ha (by omega) k (by omega), Int.zero_add]
    · have hw : wrap64 (a + (rd_T58 xs i).f1) = a + (rd_T58 xs i).f1 := by unfold wrap64; omega
      rw [impl_CapOf.l0]
      simp only [if_pos hlt, if_pos h0, if_neg hf, hw, wrap_small (n := xs.length) h0 hlt (by omega), capS]
      rw [ih (i + 1) (a + (rd_T58 xs i).f1) (by omega) (by omega) (by omega) (by omega) k (by omega), Int.add_assoc]
def okL (m : MM) (v : Int) : Prop := 0 ≤ v ∧ v ≤ m.f1 ∧ (m.f3 = true → v = 0)
theorem load_val (xs : List MM) (hn : xs.length ≤ 8) (hfit : ∀ m ∈ xs, fitM m) : ∀ (d : Nat) (i n : Int) (acc : List Int), 0 ≤ i → (xs.length : Int) - i = d → (acc.length : Int) = i → 0 ≤ n → n ≤ capS (xs.drop i.toNat) → (∀ j : Int, 0 ≤ j → j < i → okL (rd_T58 xs j) (rd acc j)) →
    ∃ r, r.length = xs.length ∧ sumL r = sumL acc + n ∧ (∀ j : Int, 0 ≤ j → j < (xs.length : Int) → okL (rd_T58 xs j) (rd r j)) ∧ ∀ k, d < k → impl_ShareLoad.l0 k n acc xs (xs.length : Int) i = some r := by
  intro d
  induction d with
  | zero =>
    intro i n acc h0 hd hl hn0 hn1 hacc
    have hlt : ¬ i < (xs.length : Int) := by omega
    rw [List.drop_eq_nil_of_le (by omega)] at hn1
    simp only [capS] at hn1
    refine ⟨acc, by omega, by omega, fun j h1 h2 => hacc j h1 (by omega), fun k hk => ?_⟩
    obtain ⟨k, rfl⟩ : ∃ m, k = m + 1 := ⟨k - 1, by omega⟩
    simp only [impl_ShareLoad.l0, if_neg hlt]
  | succ d ih =>
    intro i n acc h0 hd hl hn0 hn1 hacc
    have hlt : i < (xs.length : Int) := by omega
    have hm := fit_rd hfit i h0 hlt
    unfold fitM at hm
    have hx : acc.length < 17592186044416 := by omega
    have hcb2 := capS_bound (xs.drop (i + 1).toNat) (fun y hy => hfit y (List.mem_of_mem_drop hy))
    have hcl2 : ((xs.drop (i + 1).toNat).length : Int) ≤ 8 := by rw [List.length_drop]; omega
    rw [drop_step z58 xs i h0 hlt, show xs.getD i.toNat z58 = rd_T58 xs i from rfl] at hn1
    simp only [capS] at hn1
    by_cases hf : (rd_T58 xs i).f3 = true
    · rw [if_pos hf] at hn1
      obtain ⟨r, hr, hs, hj, hk2⟩ := ih (i + 1) n (acc ++ [0]) (by omega) (by omega) (by simp; omega) hn0 (by omega) (fun j h1 h2 => by
        by_cases e : j = i
        · have e2 : j = (acc.length : Int) := by omega
          rw [e2, rd_last]
          rw [← e2, e]
          exact ⟨by omega, hm.2.2.1, fun _ => rfl⟩
        · rw [rd_app acc 0 j h1 (by omega)]; exact hacc j h1 (by omega))
      refine ⟨r, hr, by rw [hs, sumL_append]; simp only [sumL]; omega, hj, fun k hk => ?_⟩
      obtain ⟨k, rfl⟩ : ∃ m, k = m + 1 := ⟨k - 1, by omega⟩
      have hw : wrap64 (n - 0) = n := by unfold wrap64; omega
      simp only [impl_ShareLoad.l0, if_pos hlt, if_pos h0, if_pos hf, if_pos hx, hw, wrap_small (n := xs.length) h0 hlt (by omega)]
      exact hk2 k (by omega)
    · rw [if_neg hf] at hn1
      obtain ⟨v, hv⟩ : ∃ v, v = mn ((rd_T58 xs i).f1) n := ⟨_, rfl⟩
      have hvb : 0 ≤ v ∧ v ≤ (rd_T58 xs i).f1 ∧ v ≤ n ∧ (v = n ∨ v = (rd_T58 xs i).f1) := by
        rw [hv]; unfold mn; split <;> omega
      obtain ⟨r, hr, hs, hj, hk2⟩ := ih (i + 1) (n - v) (acc ++ [v]) (by omega) (by omega) (by simp; omega) (by omega) (by omega) (fun j h1 h2 => by
        by_cases e : j = i
        · have e2 : j = (acc.length : Int) := by omega
          rw [e2, rd_last]
          rw [← e2, e]
          exact ⟨hvb.1, hvb.2.1, fun h => absurd h hf⟩
        · rw [rd_app acc v j h1 (by omega)]; exact hacc j h1 (by omega))
      refine ⟨r, hr, by rw [hs, sumL_append]; simp only [sumL]; omega, hj, fun k hk => ?_⟩
      obtain ⟨k, rfl⟩ : ∃ m, k = m + 1 := ⟨k - 1, by omega⟩
      have hw : wrap64 (n - v) = n - v := by unfold wrap64; omega
      rw [impl_ShareLoad.l0]
      simp only [if_pos hlt, if_pos h0, if_neg hf, if_pos hx, ← hv, hw, wrap_small (n := xs.length) h0 hlt (by omega)]
      exact hk2 k (by omega)
theorem shareLoad_val (xs : List MM) (n : Int) (hn : xs.length ≤ 1048576) : ∃ r, r.length ≤ 8 ∧ (r ≠ [] → 1 ≤ r.length ∧ r.length = xs.length ∧ sumL r = n ∧ ∀ j : Int, 0 ≤ j → j < (xs.length : Int) → fitM (rd_T58 xs j) ∧ okL (rd_T58 xs j) (rd r j)) ∧ ∀ k, xs.length + 4 < k → impl_ShareLoad.f k xs n = some r := by
  obtain ⟨b, hb, hp⟩ := areCrew_ev xs hn
  cases b with
  | true =>
    obtain ⟨⟨h1, h8⟩, hf⟩ := hp rfl
    have hfit := fit_mem hf
    have hcap : ∀ k, xs.length + 2 < k → impl_CapOf.f k xs = some (capS xs) := fun k hk => by
      unfold impl_CapOf.f
      have := capOf_loop xs h8 hfit xs.length 0 0 (by omega) (by omega) (by omega) (by omega) k (by omega)
      rw [Int.toNat_zero, List.drop_zero, Int.zero_add] at this
      simp only [(hb k (by omega)).1, Option.bind_some, if_true, this]
    by_cases hin : 0 ≤ n ∧ n ≤ capS xs
    · obtain ⟨r, hr, hs, hj, hk2⟩ := load_val xs h8 hfit xs.length 0 n [] (by omega) (by omega) (by simp) hin.1 (by rw [Int.toNat_zero, List.drop_zero]; exact hin.2) (fun j h1 h2 => by omega)
      refine ⟨r, by omega, fun _ => ⟨by omega, hr, by simpa [sumL] using hs, fun j h1 h2 => ⟨hf j h1 h2, hj j h1 h2⟩⟩, fun k hk => ?_⟩
      obtain ⟨k, rfl⟩ : ∃ m, k = m + 1 := ⟨k - 1, by omega⟩
      unfold impl_ShareLoad.f
      simp only [(hb (k + 1) (by omega)).1, hcap (k + 1) (by omega), Option.bind_some, if_true, inRange_eq, impl_ShareLoad.j0, hin, and_self, decide_true, Bool.not_true, Bool.false_eq_true, if_false]
      exact hk2 k (by omega)
    · refine ⟨[], by simp, fun h => absurd rfl h, fun k hk => ?_⟩
      obtain ⟨k, rfl⟩ : ∃ m, k = m + 1 := ⟨k - 1, by omega⟩
      unfold impl_ShareLoad.f
      simp only [(hb (k + 1) (by omega)).1, hcap (k + 1) (by omega), Option.bind_some, if_true, inRange_eq, impl_ShareLoad.j0, hin, decide_false, Bool.not_false]
  | false =>
    refine ⟨[], by simp, fun h => absurd rfl h, fun k hk => ?_⟩
    obtain ⟨k, rfl⟩ : ∃ m, k = m + 1 := ⟨k - 1, by omega⟩
    unfold impl_ShareLoad.f
    simp only [(hb (k + 1) (by omega)).1, Option.bind_some, Bool.false_eq_true, if_false, impl_ShareLoad.j0, if_true]
theorem shareFood_val (xs : List MM) (a : Int) (hn : xs.length ≤ 1048576) : ∃ b r, (∀ k, xs.length < k → impl_AreCrew.f k xs = some b) ∧ r.length ≤ xs.length ∧ (b = true ∧ 0 ≤ a ∧ a ≤ 10000 → 1 ≤ r.length ∧ r.length ≤ 8 ∧ r.length = xs.length ∧ sumL r = a ∧ (∀ v ∈ r, 0 ≤ v ∧ v ≤ 10000) ∧ ∀ k, 200 < k → impl_IsFair.f k xs r = some true) ∧ (¬ (b = true ∧ 0 ≤ a ∧ a ≤ 10000) → r = []) ∧
    ∀ k, 3 * xs.length + 24 < k → impl_ShareFood.f k xs a = some r ∧ spec_ShareFood.f k xs a = some r := by
  obtain ⟨r, hrl, hrk⟩ := shareFood_ev xs a hn
  obtain ⟨b, N, hb, ht, hz, hneed⟩ := needOf_ev xs hn
  refine ⟨b, r, fun k hk => (hb k hk).1, hrl, fun h => ?_, fun h => ?_, hrk⟩
  · obtain ⟨rfl, ha0, ha1⟩ := h
    obtain ⟨hN, h1, h8, hfit, hN1, hN2⟩ := ht rfl
    obtain ⟨r', hr', hs, hj, hk2⟩ := food_val xs a N h8 h1 hfit ha0 ha1 hN1 hN2 (fun k hk => (hneed k hk).1) xs.length 0 a 0 [] (by omega) (by omega) (by simp) ha0 ha1 (by omega) (by simp) (by rw [Int.toNat_zero, List.drop_zero, ← hN, Int.add_zero, Int.mul_comm]) (by simp [sumL]) (fun j h1 h2 => by omega)
    have e : r' = r := by
      have h3 := (hrk (3 * xs.length + 30 + 1) (by omega)).1
      unfold impl_ShareFood.f at h3
      have hin : 0 ≤ a ∧ a ≤ 10000 := ⟨ha0, ha1⟩
      simp only [(hb (3 * xs.length + 30 + 1) (by omega)).1, Option.bind_some, if_true, inRange_eq, impl_ShareFood.j0, hin, and_self, decide_true, Bool.not_true, Bool.false_eq_true, if_false] at h3
      rw [hk2 (3 * xs.length + 30) (by omega)] at h3
      exact Option.some.inj h3
    subst e
    have hnn : ∀ v ∈ r', 0 ≤ v := fun v hv => by
      obtain ⟨j, hj0, hj1, rfl⟩ := rd_mem r' v hv
      have hm := fit_rd hfit j hj0 (by omega)
      unfold fitM at hm
      have := quo_bound a (rd_T58 xs j).f2 N ha0 ha1 (by omega) (by omega) hN1
      have := (hj j hj0 (by omega)).1
      omega
    have hle := le_sumL r' hnn
    refine ⟨by omega, by omega, hr', hs, fun v hv => ⟨hnn v hv, by have := hle.2 v hv; omega⟩, fun k hk => ?_⟩
    unfold impl_IsFair.f
    rw [if_pos (by omega)]
    refine fairI_outer xs r' h8 hr' (fun i j hi0 hi1 hj0 hj1 => ?_) xs.length 0 (by omega) (by omega) k (by omega)
    have hmi := fit_rd hfit i hi0 hi1
    have hmj := fit_rd hfit j hj0 hj1
    unfold fitM at hmi hmj
    have hvi : 0 ≤ rd r' i ∧ rd r' i ≤ 10000 := by
      have : rd r' i ∈ r' := by
        unfold rd
        have h1 : i.toNat < r'.length := by omega
        simp [List.getD_eq_getElem?_getD, List.getElem?_eq_getElem h1]
      have h2 := hnn _ this
      have h3 := hle.2 _ this
      omega
    have hvj : 0 ≤ rd r' j ∧ rd r' j ≤ 10000 := by
      have : rd r' j ∈ r' := by
        unfold rd
        have h1 : j.toNat < r'.length := by omega
        simp [List.getD_eq_getElem?_getD, List.getElem?_eq_getElem h1]
      have h2 := hnn _ this
      have h3 := hle.2 _ this
      omega
    have hcond := fair_cond a N (rd_T58 xs i).f2 (rd_T58 xs j).f2 (rd r' i) (rd r' j) hN1 ha0 (by omega) (by omega) (hj i hi0 hi1).2 (hj j hj0 hj1).1
    have p1 : 0 ≤ rd r' i * (rd_T58 xs j).f2 := Int.mul_nonneg hvi.1 (by omega)
    have p2 : rd r' i * (rd_T58 xs j).f2 ≤ rd r' i * 10 := Int.mul_le_mul_of_nonneg_left (by omega) hvi.1
    have w0 : wrap64 (rd r' j + 1) = rd r' j + 1 := by unfold wrap64; omega
    have p3 : 0 ≤ (rd r' j + 1) * (rd_T58 xs i).f2 := Int.mul_nonneg (by omega) (by omega)
    have p4 : (rd r' j + 1) * (rd_T58 xs i).f2 ≤ (rd r' j + 1) * 10 := Int.mul_le_mul_of_nonneg_left (by omega) (by omega)
    have w1 : wrap64 (rd r' i * (rd_T58 xs j).f2) = rd r' i * (rd_T58 xs j).f2 := by unfold wrap64; omega
    have w2 : wrap64 ((rd r' j + 1) * (rd_T58 xs i).f2) = (rd r' j + 1) * (rd_T58 xs i).f2 := by unfold wrap64; omega
    have w3 : wrap64 ((rd r' j + 1) * (rd_T58 xs i).f2 + (rd_T58 xs j).f2) = (rd r' j + 1) * (rd_T58 xs i).f2 + (rd_T58 xs j).f2 := by unfold wrap64; omega
    rw [w0, w1, w2, w3]
    omega
  · have h3 := (hrk (3 * xs.length + 30 + 1) (by omega)).1
    unfold impl_ShareFood.f at h3
    cases b with
    | true =>
      have hin : ¬ (0 ≤ a ∧ a ≤ 10000) := fun h2 => h ⟨rfl, h2.1, h2.2⟩
      simp only [(hb (3 * xs.length + 30 + 1) (by omega)).1, Option.bind_some, if_true, inRange_eq, impl_ShareFood.j0, hin, decide_false, Bool.not_false] at h3
      exact (Option.some.inj h3).symm
    | false =>
      simp only [(hb (3 * xs.length + 30 + 1) (by omega)).1, Option.bind_some, Bool.false_eq_true, if_false, impl_ShareFood.j0, if_true] at h3
      exact (Option.some.inj h3).symm

theorem once_ev (d : List Int) (p s n : Int) (hd : d.length ≤ 1048576) (hp : 0 ≤ p) (hp2 : p ≤ d.length) : ∃ v p' s', spec_l1Once.f d p s n = some (v, p', s') ∧ 0 ≤ p' ∧ p' ≤ d.length := by
  obtain ⟨a, p', s', h, _, h1, h2⟩ := below_ev d p s n hd hp hp2
  exact ⟨a == 0, p', s', by unfold spec_l1Once.f; rw [h]; rfl, h1, h2⟩
theorem crewDraw_loop (d : List Int) (hd : d.length ≤ 1048576) : ∀ (e : Nat) (l : List S58) (i p s : Int), 1 ≤ i → 5 - i ≤ e → (l.length : Int) + 1 = i → i ≤ 6 → 0 ≤ p → p ≤ d.length →
    ∃ q p' s', 1 ≤ q.length ∧ q.length ≤ 6 ∧ 0 ≤ p' ∧ p' ≤ (d.length : Int) ∧ ∀ k, e < k → spec_l7Draw.l0 k l i d p s = some (q, p', s') := by
  intro e
  induction e with
  | zero =>
    intro l i p s h1 he hl h7 hp hp2
    obtain ⟨a, p1, s1, e1, ⟨ha0, ha1, _⟩, hp1, hp1'⟩ := below_ev d p s 4 hd hp hp2
    have := ha1 (by omega)
    have hw : wrap64 (1 + a) = 1 + a := by unfold wrap64; omega
    have hc : ¬ i ≤ 1 + a := by omega
    refine ⟨l, p1, s1, by omega, by omega, hp1, hp1', fun k hk => ?_⟩
    obtain ⟨k, rfl⟩ : ∃ m, k = m + 1 := ⟨k - 1, by omega⟩
    simp only [spec_l7Draw.l0, e1, Option.bind_some, hw, if_neg hc]
  | succ e ih =>
    intro l i p s h1 he hl h7 hp hp2
    obtain ⟨a, p1, s1, e1, ⟨ha0, ha1, _⟩, hp1, hp1'⟩ := below_ev d p s 4 hd hp hp2
    have := ha1 (by omega)
    have hw : wrap64 (1 + a) = 1 + a := by unfold wrap64; omega
    by_cases hc : i ≤ 1 + a
    · obtain ⟨b, p2, s2, e2, _, hp2a, hp2b⟩ := below_ev d p1 s1 20 hd hp1 hp1'
      obtain ⟨c, p3, s3, e3, _, hp3, hp3'⟩ := below_ev d p2 s2 3 hd hp2a hp2b
      obtain ⟨f, p4, s4, e4, hp4, hp4'⟩ := once_ev d p3 s3 8 hd hp3 hp3'
      obtain ⟨q, p', s', hq1, hq, hp', hp'', hk2⟩ := ih (l ++ [⟨wrap64 (2 * i), wrap64 (5 + b), wrap64 (1 + c), f⟩]) (i + 1) p4 s4 (by omega) (by omega) (by simp; omega) (by omega) hp4 hp4'
      refine ⟨q, p', s', hq1, hq, hp', hp'', fun k hk => ?_⟩
      obtain ⟨k, rfl⟩ : ∃ m, k = m + 1 := ⟨k - 1, by omega⟩
      have hlen : l.length < 4398046511104 := by omega
      have hw2 : wrap64 (i + 1) = i + 1 := by unfold wrap64; omega
      simp only [spec_l7Draw.l0, e1, Option.bind_some, hw, if_pos hc, e2, e3, e4, if_pos hlen, hw2]
      exact hk2 k (by omega)
    · refine ⟨l, p1, s1, by omega, by omega, hp1, hp1', fun k hk => ?_⟩
      obtain ⟨k, rfl⟩ : ∃ m, k = m + 1 := ⟨k - 1, by omega⟩
      simp only [spec_l7Draw.l0, e1, Option.bind_some, hw, if_neg hc]
theorem crewAny_ev (d : List Int) (p s : Int) (hd : d.length ≤ 1048576) (hp : 0 ≤ p) (hp2 : p ≤ d.length) : ∃ q p' s', q.length ≤ 6 ∧ 0 ≤ p' ∧ p' ≤ (d.length : Int) ∧ ∀ k, 20 < k → spec_l7Any.f k d p s = some (q, p', s') := by
  obtain ⟨l, p1, s1, hl1, hl, hp1, hp1', hk1⟩ := crewDraw_loop d hd 5 [] 1 p s (by omega) (by omega) (by simp) (by omega) hp hp2
  obtain ⟨b, p2, s2, e2, ⟨hb0, hb1, _⟩, hp2a, hp2b⟩ := below_ev d p1 s1 (l.length : Int) hd hp1 hp1'
  have hb := hb1 (by omega)
  obtain ⟨c, p3, s3, e3, _, hp3, hp3'⟩ := below_ev d p2 s2 12 hd hp2a hp2b
  have h1 : ∀ k, 20 < k → spec_l7Draw.f k d p s = some (l, p1, s1) := fun k hk => hk1 k (by omega)
  unfold spec_l7Any.f
  by_cases c0 : c = 0
  · obtain ⟨v, p4, s4, e4, _, hp4, hp4'⟩ := int_ev d p3 s3 [0, 2, 99, 100] (by simp) hd hp3 hp3'
    refine ⟨l.set b.toNat ⟨v, (rd_T58 l b).f1, (rd_T58 l b).f2, (rd_T58 l b).f3⟩, p4, s4, by rw [List.length_set]; omega, hp4, hp4', fun k hk => ?_⟩
    simp only [h1 k hk, Option.bind_some, e2, e3, if_pos c0, e4, if_pos hb0, if_pos hb]
  · by_cases c1 : c = 1
    · obtain ⟨v, p4, s4, e4, _, hp4, hp4'⟩ := int_ev d p3 s3 [(-1), 100, 101] (by simp) hd hp3 hp3'
      refine ⟨l.set b.toNat ⟨(rd_T58 l b).f0, v, (rd_T58 l b).f2, (rd_T58 l b).f3⟩, p4, s4, by rw [List.length_set]; omega, hp4, hp4', fun k hk => ?_⟩
      simp only [h1 k hk, Option.bind_some, e2, e3, if_neg c0, if_pos c1, e4, if_pos hb0, if_pos hb]
    · by_cases c2 : c = 2
      · obtain ⟨v, p4, s4, e4, _, hp4, hp4'⟩ := int_ev d p3 s3 [0, 10, 11] (by simp) hd hp3 hp3'
        refine ⟨l.set b.toNat ⟨(rd_T58 l b).f0, (rd_T58 l b).f1, v, (rd_T58 l b).f3⟩, p4, s4, by rw [List.length_set]; omega, hp4, hp4', fun k hk => ?_⟩
        simp only [h1 k hk, Option.bind_some, e2, e3, if_neg c0, if_neg c1, if_pos c2, e4, if_pos hb0, if_pos hb]
      · by_cases c3 : c = 3
        · refine ⟨[], p3, s3, by simp, hp3, hp3', fun k hk => ?_⟩
          simp only [h1 k hk, Option.bind_some, e2, e3, if_neg c0, if_neg c1, if_neg c2, if_pos c3]
        · refine ⟨l, p3, s3, hl, hp3, hp3', fun k hk => ?_⟩
          simp only [h1 k hk, Option.bind_some, e2, e3, if_neg c0, if_neg c1, if_neg c2, if_neg c3]

theorem drawShare_ev (d : List Int) (hd : d.length ≤ 1048576) : ∃ l n, l.length ≤ 6 ∧ ∀ k, d.length + 60 < k → spec_DrawShareFood.f k d = some (l, n) ∧ spec_DrawShareLoad.f k d = some (l, n) := by
  obtain ⟨s, hs⟩ := new_ev d hd
  obtain ⟨q, p1, s1, hq, hp1, hp1', hk1⟩ := crewAny_ev d 0 s hd (by omega) (by omega)
  obtain ⟨v, p2, s2, e2, _, _, _⟩ := int_ev d p1 s1 [0, 1, 7, 20, 33, 100, 10000, 10001, (-1)] (by simp) hd hp1 hp1'
  have h0 : ∀ k, d.length + 60 < k → spec_DrawShareFood.f k d = some (q, v) := fun k hk => by
    unfold spec_DrawShareFood.f spec_l28N.f
    simp only [hs k (by omega), Option.bind_some, hk1 k (by omega), e2]
  refine ⟨q, v, hq, fun k hk => ⟨h0 k hk, ?_⟩⟩
  unfold spec_DrawShareLoad.f
  simp only [h0 k hk, Option.bind_some]

theorem shares_loop (xs : List MM) (r : List Int) (hl : r.length ≤ xs.length) (h8 : r.length ≤ 8) (hok : ∀ j : Int, 0 ≤ j → j < (r.length : Int) → okL (rd_T58 xs j) (rd r j)) : ∀ (e : Nat) (i : Int), 0 ≤ i → (r.length : Int) - i = e → ∀ k, e < k → laws_FnShares.l0 k xs r i = some true := by
  intro e
  induction e with
  | zero =>
    intro i h0 hd k hk
    obtain ⟨k, rfl⟩ : ∃ m, k = m + 1 := ⟨k - 1, by omega⟩
    have hlt : ¬ i < (r.length : Int) := by omega
    simp only [laws_FnShares.l0, if_neg hlt]
  | succ e ih =>
    intro i h0 hd k hk
    obtain ⟨k, rfl⟩ : ∃ m, k = m + 1 := ⟨k - 1, by omega⟩
    have hlt : i < (r.length : Int) := by omega
    have hlt2 : i < (xs.length : Int) := by omega
    obtain ⟨h1, h2, h3⟩ := hok i h0 hlt
    have c1 : ¬ rd r i > (rd_T58 xs i).f1 := by omega
    have c2 : ¬ rd r i < 0 := by omega
    have hih := ih (i + 1) (by omega) (by omega) k (by omega)
    rw [laws_FnShares.l0]
    simp only [if_pos hlt, if_pos h0, if_pos hlt2, if_neg c1, if_neg c2, wrap_small (n := r.length) h0 hlt (by omega), hih]
    by_cases hf : (rd_T58 xs i).f3 = true
    · rw [if_pos hf, if_pos (h3 hf)]
    · rw [if_neg hf]
theorem shares_j0 (d : List Int) (hd : d.length ≤ 1048576) (k : Nat) (hk : d.length + 300 < k) : laws_FnShares.j0 k d false = some true := by
  obtain ⟨k, rfl⟩ : ∃ m, k = m + 2 := ⟨k - 2, by omega⟩
  obtain ⟨l, n, hl, hdr⟩ := drawShare_ev d hd
  obtain ⟨r, hr8, hrp, hrk⟩ := shareLoad_val l n (by omega)
  have hcan : impl_CanCarry.f (k + 1) l n = some (decide ((r.length : Int) > 0)) := by unfold impl_CanCarry.f; rw [hrk (k + 1) (by omega)]; rfl
  have hself : ((decide ((r.length : Int) > 0)) != decide ((r.length : Int) > 0)) = false := bne_self_eq_false _
  by_cases hz : (r.length : Int) > 0
  · obtain ⟨h1, h2, h3, h4⟩ := hrp (fun e => by rw [e] at hz; simp at hz)
    have hsum : impl_SumOf.f (k + 1) r = some n := by
      rw [← h3]
      refine sumOf_val r hr8 (fun v hv => ?_) (k + 1) (by omega)
      obtain ⟨j, hj0, hj1, rfl⟩ := rd_mem r v hv
      obtain ⟨hm, ho⟩ := h4 j hj0 (by omega)
      unfold fitM at hm
      unfold okL at ho
      omega
    have hlp := shares_loop l r (by omega) hr8 (fun j h5 h6 => (h4 j h5 (by omega)).2) r.length 0 (by omega) (by omega) k (by omega)
    simp only [laws_FnShares.j0, Bool.false_eq_true, if_false, (hdr (k + 1) (by omega)).2, Option.bind_some, hrk (k + 1) (by omega), hcan, hself, if_pos hz, hsum, bne_self_eq_false, laws_FnShares.j1, hlp]
  · have hlp : laws_FnShares.l0 k l r 0 = some true := by
      obtain ⟨k, rfl⟩ : ∃ m, k = m + 1 := ⟨k - 1, by omega⟩
      have hlt : ¬ (0 : Int) < (r.length : Int) := by omega
      simp only [laws_FnShares.l0, if_neg hlt]
    simp only [laws_FnShares.j0, Bool.false_eq_true, if_false, (hdr (k + 1) (by omega)).2, Option.bind_some, hrk (k + 1) (by omega), hcan, hself, if_neg hz, laws_FnShares.j1, hlp]
theorem FnShares : laws_FnShares.Stmt := by
  intro d _
  by_cases hbig : (d.length : Int) > 1048576
  · exact ⟨0, by unfold laws_FnShares.f laws_big.f; simp only [hbig, decide_true, Option.bind_some, if_true]⟩
  have hd : d.length ≤ 1048576 := by omega
  obtain ⟨l, n, hl, hdr⟩ := drawShare_ev d hd
  obtain ⟨b, r, hb, hrl, hyes, hno, hrk⟩ := shareFood_val l n (by omega)
  obtain ⟨k, hk⟩ : ∃ k, k = d.length + 500 := ⟨_, rfl⟩
  refine ⟨k, ?_⟩
  have hj := shares_j0 d hd k (by omega)
  unfold laws_FnShares.f laws_big.f
  by_cases h : b = true ∧ 0 ≤ n ∧ n ≤ 10000
  · obtain ⟨h1, h8, h2, h3, h4, h5⟩ := hyes h
    have hz : (r.length : Int) > 0 := by omega
    have hsum : impl_SumOf.f k r = some n := by rw [← h3]; exact sumOf_val r h8 h4 k (by omega)
    have hge : n ≥ 0 := h.2.1
    have hge2 : n ≤ 10000 := h.2.2
    simp only [hbig, decide_false, Option.bind_some, Bool.false_eq_true, if_false, (hdr k (by omega)).1, (hrk k (by omega)).1, (hrk k (by omega)).2, if_true, if_pos hz, hsum, h5 k (by omega), hb k (by omega), h.1, if_pos hge, hge2, hz, decide_true, bne_self_eq_false, hj]
  · have hr := hno h
    subst hr
    have hz : ¬ ((([] : List Int).length : Int) > 0) := by simp
    cases b with
    | true =>
      by_cases hge : n ≥ 0
      · have hge2 : ¬ n ≤ 10000 := fun h2 => h ⟨rfl, hge, h2⟩
        simp only [hbig, decide_false, Option.bind_some, Bool.false_eq_true, if_false, (hdr k (by omega)).1, (hrk k (by omega)).1, (hrk k (by omega)).2, if_true, hb k (by omega), if_pos hge, hge2, hz, bne_self_eq_false, hj]
      · simp only [hbig, decide_false, Option.bind_some, Bool.false_eq_true, if_false, (hdr k (by omega)).1, (hrk k (by omega)).1, (hrk k (by omega)).2, if_true, hb k (by omega), if_neg hge, hz, bne_self_eq_false, hj]
    | false =>
      simp only [hbig, decide_false, Option.bind_some, Bool.false_eq_true, if_false, (hdr k (by omega)).1, (hrk k (by omega)).1, (hrk k (by omega)).2, if_true, hb k (by omega), hz, bne_self_eq_false, hj]

end Go.Proofs.Ytegbddilobpeaaa.Pure
