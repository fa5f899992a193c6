/- No other way to divide the load onto two sledges is more even: the law FnSledges holds for every code (a code of more than 2^20 bytes the law lets pass). No further condition. -/
import Derived.Test.YtegbddilobpeaaaSFnSledges
import Derived.Test.YtegbddilobpeaaaG12
namespace Go.Proofs.Ytegbddilobpeaaa.Pure
open Go.RowKit Go.Proofs.Ytegbddilobpeaaa.Q Go.Proofs.YtegbddilobpeaaaW.PrintWords Go.Proofs.YtegbddilobpeaaaW.PrintLast Go.Proofs.YtegbddilobpeaaaW.PrintMore
set_option linter.unusedVariables false
set_option linter.unusedSimpArgs false

theorem ext_getD {α : Type} {d : α} {a b : List α} (h : a.length = b.length) (hj : ∀ j, j < a.length → a.getD j d = b.getD j d) : a = b := by
  apply List.ext_getElem h
  intro j h1 h2
  have := hj j h1
  simpa [List.getD_eq_getElem?_getD, List.getElem?_eq_getElem h1, List.getElem?_eq_getElem h2] using this

theorem getD_set {α : Type} {d : α} (a : List α) (i j : Nat) (v : α) (h : i < a.length) : (a.set i v).getD j d = if i = j then v else a.getD j d := by
  simp only [List.getD_eq_getElem?_getD, List.getElem?_set]
  by_cases e : i = j
  · subst e; simp [h]
  · simp [e]

theorem wrap_small {i : Int} {n : Nat} (h0 : 0 ≤ i) (h : i < (n : Int)) (hn : n ≤ 1048576) : wrap64 (i + 1) = i + 1 := by
  unfold wrap64; omega

theorem l1In_eq (a b c : Int) : spec_l1In.f a b c = some (decide (b ≤ a ∧ a ≤ c)) := by
  unfold spec_l1In.f
  by_cases h : a ≥ b
  · rw [if_pos h]; congr 1; have : b ≤ a := h; simp [this]
  · rw [if_neg h]; have : ¬ b ≤ a := h; simp [this]
theorem inRange_eq (a b c : Int) : impl_InRange.f a b c = some (decide (b ≤ a ∧ a ≤ c)) := by
  unfold impl_InRange.f
  by_cases h : b ≤ a
  · rw [if_pos h]; simp [h]
  · rw [if_neg h]; simp [h]

theorem drop_step {α : Type} (d : α) (l : List α) (i : Int) (h0 : 0 ≤ i) (h : i < (l.length : Int)) : l.drop i.toNat = l.getD i.toNat d :: l.drop (i + 1).toNat := by
  have h1 : i.toNat < l.length := by omega
  rw [List.drop_eq_getElem_cons h1, show (i + 1).toNat = i.toNat + 1 by omega]
  congr 1
  simp [List.getD_eq_getElem?_getD, List.getElem?_eq_getElem h1]

theorem weights_loop (xs : List Int) (hn : xs.length ≤ 12) : ∀ (d : Nat) (i : Int), 0 ≤ i → (xs.length : Int) - i = d →
    ∃ b, (∀ k, d < k → impl_allIn.l0 k 1 100 xs (xs.length : Int) i = some b ∧ spec_l29Ok.l0 k xs i = some b) ∧ (b = true → ∀ j : Int, i ≤ j → j < (xs.length : Int) → 1 ≤ rd xs j ∧ rd xs j ≤ 100) := by
  intro d
  induction d with
  | zero =>
    intro i h0 hd
    have hlt : ¬ i < (xs.length : Int) := by omega
    refine ⟨true, fun k hk => ?_, fun _ j h1 h2 => by omega⟩
    obtain ⟨k, rfl⟩ : ∃ m, k = m + 1 := ⟨k - 1, by omega⟩
    have e : (xs.length : Int) ≤ 12 := by omega
    simp only [impl_allIn.l0, spec_l29Ok.l0, if_neg hlt, e, decide_true, and_self]
  | succ d ih =>
    intro i h0 hd
    have hlt : i < (xs.length : Int) := by omega
    obtain ⟨b, hb, hp⟩ := ih (i + 1) (by omega) (by omega)
    have hn' : xs.length ≤ 1048576 := by omega
    by_cases e : 1 ≤ rd xs i ∧ rd xs i ≤ 100
    · refine ⟨b, fun k hk => ?_, fun h j h1 h2 => ?_⟩
      · obtain ⟨k, rfl⟩ : ∃ m, k = m + 1 := ⟨k - 1, by omega⟩
        simp only [impl_allIn.l0, spec_l29Ok.l0, if_pos hlt, if_pos h0, l1In_eq, inRange_eq, e, and_self, decide_true, Option.bind_some, if_true, wrap_small (n := xs.length) h0 hlt hn']
        exact hb k (by omega)
      · by_cases h3 : j = i
        · subst h3; exact e
        · exact hp h j (by omega) h2
    · refine ⟨false, fun k hk => ?_, fun h => by cases h⟩
      obtain ⟨k, rfl⟩ : ∃ m, k = m + 1 := ⟨k - 1, by omega⟩
      simp only [impl_allIn.l0, spec_l29Ok.l0, if_pos hlt, if_pos h0, l1In_eq, inRange_eq, e, decide_false, Option.bind_some, Bool.false_eq_true, if_false, and_self]
theorem l29Ok_big (xs : List Int) (hn : xs.length ≤ 1048576) (hb : 12 < xs.length) : ∀ (d : Nat) (i : Int), 0 ≤ i → (xs.length : Int) - i = d → ∀ k, d < k → spec_l29Ok.l0 k xs i = some false := by
  intro d
  induction d with
  | zero =>
    intro i h0 hd k hk
    obtain ⟨k, rfl⟩ : ∃ m, k = m + 1 := ⟨k - 1, by omega⟩
    have hlt : ¬ i < (xs.length : Int) := by omega
    have e : ¬ (xs.length : Int) ≤ 12 := by omega
    simp only [spec_l29Ok.l0, if_neg hlt, e, decide_false]
  | succ d ih =>
    intro i h0 hd k hk
    obtain ⟨k, rfl⟩ : ∃ m, k = m + 1 := ⟨k - 1, by omega⟩
    have hlt : i < (xs.length : Int) := by omega
    simp only [spec_l29Ok.l0, if_pos hlt, if_pos h0, l1In_eq, Option.bind_some, wrap_small (n := xs.length) h0 hlt hn, ih (i + 1) (by omega) (by omega) k (by omega), ite_self]
theorem weights_ev (xs : List Int) (hn : xs.length ≤ 1048576) : ∃ b, (∀ k, xs.length < k → impl_areWeights.f k xs = some b ∧ spec_l29Ok.f k xs = some b) ∧ (b = true → xs.length ≤ 12 ∧ ∀ j : Int, 0 ≤ j → j < (xs.length : Int) → 1 ≤ rd xs j ∧ rd xs j ≤ 100) := by
  by_cases h : xs.length ≤ 12
  · obtain ⟨b, hb, hp⟩ := weights_loop xs h xs.length 0 (by omega) (by omega)
    refine ⟨b, fun k hk => ?_, fun e => ⟨h, hp e⟩⟩
    obtain ⟨h1, h2⟩ := hb k hk
    unfold impl_areWeights.f
    rw [if_pos (by omega)]
    refine ⟨?_, h2⟩
    unfold impl_allIn.f
    rw [h1]; rfl
  · refine ⟨false, fun k hk => ⟨?_, l29Ok_big xs hn (by omega) xs.length 0 (by omega) (by omega) k hk⟩, fun e => by cases e⟩
    unfold impl_areWeights.f
    rw [if_neg (by omega)]

def msum : List Int → Nat → Int
  | [], _ => 0
  | v :: t, m => ((m % 2 : Nat) : Int) * v + msum t (m / 2)
theorem reachS_iff : ∀ (l : List Int) (S : Int → Bool) (x : Int), reachS S l x = true ↔ ∃ m, m < 2 ^ l.length ∧ S (x - msum l m) = true
  | [], S, x => by
    refine ⟨fun h => ⟨0, by simp, by simpa [msum, reachS] using h⟩, fun ⟨m, _, h⟩ => by simpa [msum, reachS] using h⟩
  | v :: t, S, x => by
    have hp : 2 ^ (v :: t).length = 2 * 2 ^ t.length := by rw [List.length_cons, Nat.pow_succ]; omega
    rw [hp]
    unfold reachS
    rw [reachS_iff t]
    constructor
    · rintro ⟨m, hm, h⟩
      rw [Bool.or_eq_true] at h
      rcases h with h | h
      · refine ⟨2 * m, by omega, ?_⟩
        unfold msum
        rw [show 2 * m % 2 = 0 by omega, show 2 * m / 2 = m by omega, show x - (((0 : Nat) : Int) * v + msum t m) = x - msum t m by simp]; exact h
      · refine ⟨2 * m + 1, by omega, ?_⟩
        unfold msum
        rw [show (2 * m + 1) % 2 = 1 by omega, show (2 * m + 1) / 2 = m by omega, show x - (((1 : Nat) : Int) * v + msum t m) = x - msum t m - v by simp; omega]; exact h
    · rintro ⟨m, hm, h⟩
      refine ⟨m / 2, by omega, ?_⟩
      unfold msum at h
      rw [Bool.or_eq_true]
      rcases Nat.mod_two_eq_zero_or_one m with e | e
      · left; rw [e, show x - (((0 : Nat) : Int) * v + msum t (m / 2)) = x - msum t (m / 2) by simp] at h; exact h
      · right; rw [e, show x - (((1 : Nat) : Int) * v + msum t (m / 2)) = x - msum t (m / 2) - v by simp; omega] at h; exact h
theorem wrapNatR (n : Nat) (h : n ≤ 1073741823) : Go.IntKind.wrap .i64 (n : Int) = (n : Int) := by
  have e1 : (Go.IntKind.i64).bits = 64 := rfl
  have e2 : (Go.IntKind.i64).signed = true := rfl
  unfold Go.IntKind.wrap
  simp only [e1, e2, Bool.true_and, decide_eq_true_eq]
  have e3 : (2 : Int) ^ 64 = 18446744073709551616 := by decide
  have e4 : (2 : Int) ^ (64 - 1) = 9223372036854775808 := by decide
  rw [e3, e4, if_neg (by omega)]; omega
theorem bits_one (x : Int) (h0 : 0 ≤ x) (h1 : x < 9223372036854775808) : Go.bits .and .i64 x 1 = x % 2 := by
  obtain ⟨a, rfl⟩ : ∃ a : Nat, x = a := ⟨x.toNat, by omega⟩
  have h2 : (BitVec.ofInt 64 (a : Int)).toNat = a := by
    rw [BitVec.ofInt_natCast, BitVec.toNat_ofNat]; exact Nat.mod_eq_of_lt (by omega)
  show IntKind.i64.wrap ((BitVec.ofInt 64 (a : Int) &&& BitVec.ofInt 64 1).toNat : Int) = _
  rw [BitVec.toNat_and, h2, show (BitVec.ofInt 64 1).toNat = 1 from rfl, Nat.and_one_is_mod, wrapNatR (a % 2) (by omega)]
  omega
theorem bits_div (m d : Nat) (h : m < 4096) (hd : d ≤ 64) : Go.bits .and .i64 (shr .i64 (m : Int) (d : Int)) 1 = ((m / 2 ^ d % 2 : Nat) : Int) := by
  have hs : shr .i64 (m : Int) (d : Int) = ((m / 2 ^ d : Nat) : Int) := by
    unfold shr; rw [Nat.min_eq_left (by simp only [IntKind.bits]; omega), Int.toNat_natCast]; simp
  have hq := Nat.div_le_self m (2 ^ d)
  rw [hs]
  generalize m / 2 ^ d = q at hq ⊢
  rw [bits_one _ (by omega) (by omega)]; omega
theorem shr_ev (x i : Int) (h0 : 0 ≤ i) (h1 : i ≤ 64) : shr .i64 x i = x / 2 ^ i.toNat := by
  unfold shr; rw [Nat.min_eq_left (by simp only [IntKind.bits]; omega)]
theorem msum_nonneg : ∀ (l : List Int), (∀ v ∈ l, 1 ≤ v ∧ v ≤ 100) → ∀ m, 0 ≤ msum l m ∧ msum l m ≤ 100 * l.length
  | [], _, _ => by simp [msum]
  | v :: t, h, m => by
    have h1 := msum_nonneg t (fun u hu => h u (List.mem_cons_of_mem _ hu)) (m / 2)
    have h2 := h v List.mem_cons_self
    unfold msum
    rw [List.length_cons]
    rcases Nat.mod_two_eq_zero_or_one m with e | e
    · rw [e, show ((0 : Nat) : Int) * v = 0 by simp]; omega
    · rw [e, show ((1 : Nat) : Int) * v = v by simp]; omega

theorem reach_in (xs : List Int) (hn : xs.length ≤ 12) (hv : ∀ v ∈ xs, 0 ≤ v ∧ v ≤ 100) (sum : Int) (m : Nat) (hm : m < 4096) : ∀ (d : Nat) (i n : Int), 0 ≤ i → (xs.length : Int) - i = d → 0 ≤ n → n ≤ 100 * i → ∀ k, spec_CanReach.l1 (k + d) xs sum (m : Int) n i = spec_CanReach.l1 k xs sum (m : Int) (n + msum (xs.drop i.toNat) (m / 2 ^ i.toNat)) (xs.length : Int) := by
  intro d
  induction d with
  | zero => intro i n h0 hd hn0 hn1 k; rw [show i = (xs.length : Int) by omega, List.drop_eq_nil_of_le (by omega), msum, Int.add_zero, Nat.add_zero]
  | succ d ih =>
    intro i n h0 hd hn0 hn1 k
    have hlt : i < (xs.length : Int) := by omega
    have e2 : Go.bits .and .i64 (shr .i64 (m : Int) i) 1 = ((m / 2 ^ i.toNat % 2 : Nat) : Int) := by
      have := bits_div m i.toNat hm (by omega)
      rw [Int.toNat_of_nonneg h0] at this; exact this
    have hr : 0 ≤ rd xs i ∧ rd xs i ≤ 100 := hv _ (by
      unfold rd
      have h2 : i.toNat < xs.length := by omega
      simp [List.getD_eq_getElem?_getD, List.getElem?_eq_getElem h2])
    have e3 : msum (xs.drop i.toNat) (m / 2 ^ i.toNat) = ((m / 2 ^ i.toNat % 2 : Nat) : Int) * rd xs i + msum (xs.drop (i + 1).toNat) (m / 2 ^ (i + 1).toNat) := by
      rw [drop_step 0 xs i h0 hlt, show xs.getD i.toNat 0 = rd xs i from rfl]
      simp only [msum]
      rw [Nat.div_div_eq_div_mul, ← Nat.pow_succ, show i.toNat.succ = (i + 1).toNat by omega]
    rw [show k + (d + 1) = (k + d) + 1 by omega, e3]
    simp only [spec_CanReach.l1, if_pos hlt, if_pos h0, e2, wrap_small (n := xs.length) h0 hlt (by omega)]
    rcases Nat.mod_two_eq_zero_or_one (m / 2 ^ i.toNat) with e | e
    · rw [e, show ((0 : Nat) : Int) * rd xs i = 0 by simp, show wrap64 (n + wrap64 0) = n by unfold wrap64; omega, ih (i + 1) n (by omega) (by omega) hn0 (by omega)]; congr 1; omega
    · rw [e, show ((1 : Nat) : Int) * rd xs i = rd xs i by simp, show wrap64 (n + wrap64 (rd xs i)) = n + rd xs i by unfold wrap64; omega, ih (i + 1) (n + rd xs i) (by omega) (by omega) (by omega) (by omega)]; congr 1; omega
theorem shl_ev : ∀ n : Nat, n < 13 → shl .i64 1 (n : Int) = ((2 ^ n : Nat) : Int) := by decide
theorem reach_out (xs : List Int) (hn : xs.length ≤ 12) (hv : ∀ v ∈ xs, 0 ≤ v ∧ v ≤ 100) (sum : Int) (P : Nat) (hP : 2 ^ xs.length = P) (h4096 : P ≤ 4096) : ∀ (d m : Nat), P - m = d → m ≤ P → ∃ b, (b = true ↔ ∃ p, m ≤ p ∧ p < P ∧ msum xs p = sum) ∧ ∀ k, 14 * d + 2 < k → spec_CanReach.l0 k xs sum (m : Int) = some b := by
  intro d
  induction d with
  | zero =>
    intro m hd hm
    refine ⟨false, ⟨fun h => (by cases h), fun ⟨p, p1, p2, _⟩ => (by omega)⟩, fun k hk => ?_⟩
    obtain ⟨k, rfl⟩ : ∃ j, k = j + 1 := ⟨k - 1, by omega⟩
    simp only [spec_CanReach.l0, shl_ev xs.length (by omega), hP]
    rw [if_neg (by omega)]
  | succ d ih =>
    intro m hd hm
    obtain ⟨b, hb, hk⟩ := ih (m + 1) (by omega) (by omega)
    by_cases c : msum xs m = sum
    · refine ⟨true, ⟨fun _ => ⟨m, by omega, by omega, c⟩, fun _ => rfl⟩, fun k hk2 => ?_⟩
      obtain ⟨k, rfl⟩ : ∃ j, k = j + 1 + xs.length + 1 := ⟨k - 2 - xs.length, by omega⟩
      simp only [spec_CanReach.l0, shl_ev xs.length (by omega), hP]
      rw [if_pos (by omega), reach_in xs hn hv sum m (by omega) xs.length 0 0 (by omega) (by omega) (by omega) (by omega)]
      simp only [spec_CanReach.l1, Int.lt_irrefl, if_false, Int.toNat_zero, List.drop_zero, Nat.pow_zero, Nat.div_one, Int.zero_add, c, if_true]
    · refine ⟨b, ⟨fun h => ?_, fun h => ?_⟩, fun k hk2 => ?_⟩
      · obtain ⟨p, p1, p2, p3⟩ := hb.1 h
        exact ⟨p, by omega, p2, p3⟩
      · obtain ⟨p, p1, p2, p3⟩ := h
        refine hb.2 ⟨p, ?_, p2, p3⟩
        by_cases e : p = m
        · rw [e] at p3; exact absurd p3 c
        · exact Nat.lt_of_le_of_ne p1 (fun h => e h.symm)
      · clear hb
        obtain ⟨k, rfl⟩ : ∃ j, k = j + 1 + xs.length + 1 := ⟨k - 2 - xs.length, by omega⟩
        simp only [spec_CanReach.l0, shl_ev xs.length (by omega), hP]
        rw [if_pos (by omega), reach_in xs hn hv sum m (by omega) xs.length 0 0 (by omega) (by omega) (by omega) (by omega)]
        simp only [spec_CanReach.l1, Int.lt_irrefl, if_false, Int.toNat_zero, List.drop_zero, Nat.pow_zero, Nat.div_one, Int.zero_add, if_neg c]
        rw [show wrap64 ((m : Int) + 1) = ((m + 1 : Nat) : Int) by unfold wrap64; omega]
        exact hk k (by omega)
theorem ok_mem (xs : List Int) (h : ∀ j : Int, 0 ≤ j → j < (xs.length : Int) → 1 ≤ rd xs j ∧ rd xs j ≤ 100) : ∀ v ∈ xs, 0 ≤ v ∧ v ≤ 100 := by
  intro v hv
  obtain ⟨n, hn, rfl⟩ := List.mem_iff_getElem.mp hv
  have := h n (by omega) (by omega)
  unfold rd at this
  simp [List.getD_eq_getElem?_getD, List.getElem?_eq_getElem hn] at this
  omega
theorem ok_mem1 (xs : List Int) (h : ∀ j : Int, 0 ≤ j → j < (xs.length : Int) → 1 ≤ rd xs j ∧ rd xs j ≤ 100) : ∀ v ∈ xs, 1 ≤ v ∧ v ≤ 100 := by
  intro v hv
  obtain ⟨n, hn, rfl⟩ := List.mem_iff_getElem.mp hv
  have := h n (by omega) (by omega)
  unfold rd at this
  simp [List.getD_eq_getElem?_getD, List.getElem?_eq_getElem hn] at this
  omega
theorem reach_ev (xs : List Int) (hn : xs.length ≤ 1048576) (sum : Int) (hs : wrap64 sum = sum) : ∃ b, ∀ k, 60000 + xs.length < k → impl_CanReach.f k xs sum = some b ∧ spec_CanReach.f k xs sum = some b := by
  obtain ⟨w, hw, hp⟩ := weights_ev xs hn
  cases w with
  | false =>
    refine ⟨false, fun k hk => ?_⟩
    obtain ⟨k, rfl⟩ : ∃ m, k = m + 1 := ⟨k - 1, by omega⟩
    obtain ⟨h1, h2⟩ := hw (k + 1) (by omega)
    unfold impl_CanReach.f spec_CanReach.f
    simp only [h1, h2, Option.bind_some, Bool.false_eq_true, if_false, and_self]
  | true =>
    obtain ⟨h12, hr⟩ := hp rfl
    have hv := ok_mem xs hr
    have h4096 : 2 ^ xs.length ≤ 4096 := Nat.pow_le_pow_right (n := 2) (by omega) h12
    obtain ⟨P, hP⟩ : ∃ P, 2 ^ xs.length = P := ⟨_, rfl⟩
    rw [hP] at h4096
    obtain ⟨b, hb, hk⟩ := reach_out xs h12 hv sum P hP h4096 P 0 (by omega) (by omega)
    have e : reachS (fun x => x == 0) xs sum = b := by
      rw [Bool.eq_iff_iff, reachS_iff, hb, hP]
      constructor
      · rintro ⟨m, h1, h2⟩
        have h3 : sum - msum xs m = 0 := by simpa using h2
        exact ⟨m, by omega, h1, by omega⟩
      · rintro ⟨m, _, h1, h2⟩
        refine ⟨m, h1, ?_⟩
        rw [h2]; simp
    refine ⟨b, fun k hk2 => ?_⟩
    obtain ⟨h1, h2⟩ := hw k (by omega)
    unfold impl_CanReach.f spec_CanReach.f
    simp only [h1, h2, Option.bind_some, if_true, e]
    rw [if_pos ⟨h12, ok_mem1 xs hr, hs⟩]
    exact ⟨rfl, hk k (by omega)⟩

theorem placeOf_loop (l : List Int) (a : Int) (hn : l.length ≤ 1048576) : ∀ (d k : Nat) (i : Int), 0 ≤ i → (l.length : Int) - i = d → d < k → ∃ r, impl_placeOf.l0 k a l (l.length : Int) i = some r ∧ (decide (r ≥ 0) = decide (a ∈ l.drop i.toNat)) := by
  intro d
  induction d with
  | zero =>
    intro k i h0 hd hk
    obtain ⟨k, rfl⟩ : ∃ m, k = m + 1 := ⟨k - 1, by omega⟩
    simp only [impl_placeOf.l0]
    rw [if_neg (by omega), List.drop_eq_nil_of_le (by omega)]
    exact ⟨_, rfl, by simp⟩
  | succ d ih =>
    intro k i h0 hd hk
    obtain ⟨k, rfl⟩ : ∃ m, k = m + 1 := ⟨k - 1, by omega⟩
    have hlt : i < (l.length : Int) := by omega
    simp only [impl_placeOf.l0]
    rw [if_pos hlt, if_pos h0, if_pos hlt, wrap_small (n := l.length) h0 hlt hn, drop_step 0 l i h0 hlt, show l.getD i.toNat 0 = rd l i from rfl]
    by_cases e : rd l i = a
    · rw [if_pos e]; exact ⟨_, rfl, by simp [e, h0]⟩
    · rw [if_neg e]
      obtain ⟨r, hr, hd'⟩ := ih k (i + 1) (by omega) (by omega) (by omega)
      refine ⟨r, hr, ?_⟩
      have e2 : ¬ a = rd l i := fun h => e h.symm
      rw [hd']; simp [e2]

theorem has_ev (l : List Int) (a : Int) (hn : l.length ≤ 1048576) (k : Nat) (hk : l.length < k) : impl_has.f k l a = some (decide (a ∈ l)) := by
  obtain ⟨r, hr, hd⟩ := placeOf_loop l a hn l.length k 0 (by omega) (by omega) hk
  unfold impl_has.f
  have h2 : impl_placeOf.f k l a = some r := hr
  rw [h2]; simp only [Option.bind_some]
  rw [hd]; simp

def hSum (at_ : List Int) : Int → Int → List Int → Int
  | s, _, [] => s
  | s, i, v :: vs => if i ∈ at_ then hSum at_ (wrap64 (s + v)) (i + 1) vs else hSum at_ s (i + 1) vs
def aSum : Int → List Int → Int
  | a, [] => a
  | a, v :: vs => aSum (wrap64 (a + v)) vs

theorem implSumAt_loop (xs at_ : List Int) (hn : xs.length ≤ 1048576) (hm : at_.length ≤ 1048576) : ∀ (d k : Nat) (s i : Int), 0 ≤ i → (xs.length : Int) - i = d → at_.length + d < k →
    impl_SumAt.l0 k at_ s xs (xs.length : Int) i = some (hSum at_ s i (xs.drop i.toNat)) := by
  intro d
  induction d with
  | zero =>
    intro k s i h0 hd hk
    obtain ⟨k, rfl⟩ : ∃ m, k = m + 1 := ⟨k - 1, by omega⟩
    simp only [impl_SumAt.l0]
    rw [if_neg (by omega), List.drop_eq_nil_of_le (by omega)]; rfl
  | succ d ih =>
    intro k s i h0 hd hk
    obtain ⟨k, rfl⟩ : ∃ m, k = m + 1 := ⟨k - 1, by omega⟩
    have hlt : i < (xs.length : Int) := by omega
    simp only [impl_SumAt.l0, if_pos hlt, if_pos h0, has_ev at_ i hm k (by omega), Option.bind_some, wrap_small (n := xs.length) h0 hlt hn, decide_eq_true_eq]
    rw [drop_step 0 xs i h0 hlt, show xs.getD i.toNat 0 = rd xs i from rfl]
    unfold hSum
    by_cases e : i ∈ at_
    · simp only [if_pos e]; exact ih k _ _ (by omega) (by omega) (by omega)
    · simp only [if_neg e]; exact ih k _ _ (by omega) (by omega) (by omega)

theorem implAll_loop (xs at_ : List Int) (hn : xs.length ≤ 1048576) (hm : at_.length ≤ 1048576) (T : Int) (hT : ∀ k, at_.length + xs.length < k → impl_SumAt.f k xs at_ = some T) : ∀ (d k : Nat) (a i : Int), 0 ≤ i → (xs.length : Int) - i = d → at_.length + xs.length + d + 1 < k →
    impl_SplitGap.l0 k xs at_ a xs (xs.length : Int) i = some (mx (wrap64 (wrap64 (2 * T) - aSum a (xs.drop i.toNat))) (wrap64 (-(wrap64 (wrap64 (2 * T) - aSum a (xs.drop i.toNat)))))) := by
  intro d
  induction d with
  | zero =>
    intro k a i h0 hd hk
    obtain ⟨k, rfl⟩ : ∃ m, k = m + 1 := ⟨k - 1, by omega⟩
    simp only [impl_SplitGap.l0]
    rw [if_neg (by omega), List.drop_eq_nil_of_le (by omega), hT k (by omega)]; rfl
  | succ d ih =>
    intro k a i h0 hd hk
    obtain ⟨k, rfl⟩ : ∃ m, k = m + 1 := ⟨k - 1, by omega⟩
    have hlt : i < (xs.length : Int) := by omega
    simp only [impl_SplitGap.l0, if_pos hlt, if_pos h0, wrap_small (n := xs.length) h0 hlt hn]
    rw [drop_step 0 xs i h0 hlt, show xs.getD i.toNat 0 = rd xs i from rfl]
    unfold aSum
    exact ih k _ _ (by omega) (by omega) (by omega)

def rsum : List Int → Nat → Int
  | [], _ => 0
  | v :: t, m => ((m / 2 ^ t.length % 2 : Nat) : Int) * v + rsum t m
theorem bit_mod (m j k : Nat) (h : j < k) : (m % 2 ^ k) / 2 ^ j % 2 = m / 2 ^ j % 2 := by
  have e : 2 ^ k = 2 ^ j * 2 ^ (k - j) := by rw [← Nat.pow_add]; congr 1; omega
  rw [e, Nat.mod_mul_right_div_self, Nat.mod_mod_of_dvd _ (Nat.pow_dvd_pow 2 (show 1 ≤ k - j by omega))]
theorem rsum_mod : ∀ (t : List Int) (m k : Nat), t.length ≤ k → rsum t (m % 2 ^ k) = rsum t m
  | [], _, _, _ => rfl
  | v :: t, m, k, h => by
    rw [List.length_cons] at h
    unfold rsum
    rw [bit_mod m t.length k (by omega), rsum_mod t m k (by omega)]
theorem reachR_iff : ∀ (l : List Int) (S : Int → Bool) (x : Int), reachS S l x = true ↔ ∃ m, m < 2 ^ l.length ∧ S (x - rsum l m) = true
  | [], S, x => by
    refine ⟨fun h => ⟨0, by simp, by simpa [rsum, reachS] using h⟩, fun ⟨m, _, h⟩ => by simpa [rsum, reachS] using h⟩
  | v :: t, S, x => by
    have hp : 2 ^ (v :: t).length = 2 * 2 ^ t.length := by rw [List.length_cons, Nat.pow_succ]; omega
    have h0 : 0 < 2 ^ t.length := Nat.two_pow_pos _
    rw [hp]
    unfold reachS
    rw [reachR_iff t]
    constructor
    · rintro ⟨m, hm, h⟩
      rw [Bool.or_eq_true] at h
      rcases h with h | h
      · refine ⟨m, by omega, ?_⟩
        unfold rsum
        rw [Nat.div_eq_of_lt hm, show x - (((0 % 2 : Nat) : Int) * v + rsum t m) = x - rsum t m by simp]; exact h
      · refine ⟨m + 2 ^ t.length, by omega, ?_⟩
        unfold rsum
        rw [Nat.add_div_right _ h0, Nat.div_eq_of_lt hm, ← rsum_mod t (m + 2 ^ t.length) t.length (by omega), Nat.add_mod_right, rsum_mod t m t.length (by omega), show x - (((Nat.succ 0 % 2 : Nat) : Int) * v + rsum t m) = x - rsum t m - v by simp; omega]; exact h
    · rintro ⟨m, hm, h⟩
      refine ⟨m % 2 ^ t.length, Nat.mod_lt _ h0, ?_⟩
      unfold rsum at h
      rw [Bool.or_eq_true, rsum_mod t m t.length (by omega)]
      rcases Nat.mod_two_eq_zero_or_one (m / 2 ^ t.length) with e | e
      · left; rw [e, show x - (((0 : Nat) : Int) * v + rsum t m) = x - rsum t m by simp] at h; exact h
      · right; rw [e, show x - (((1 : Nat) : Int) * v + rsum t m) = x - rsum t m - v by simp; omega] at h; exact h
def pick (m : Nat) : Nat → Int → List Int
  | 0, _ => []
  | d + 1, i => if m / 2 ^ d % 2 = 1 then i :: pick m d (i + 1) else pick m d (i + 1)
theorem mem_pick (m : Nat) : ∀ (d : Nat) (i j : Int), j ∈ pick m d i ↔ i ≤ j ∧ j < i + d ∧ m / 2 ^ (i + d - 1 - j).toNat % 2 = 1
  | 0, i, j => by simp only [pick, List.not_mem_nil, false_iff]; omega
  | d + 1, i, j => by
    unfold pick
    have ih := mem_pick m d (i + 1) j
    rw [show i + 1 + (d : Int) - 1 - j = i + ((d + 1 : Nat) : Int) - 1 - j by omega] at ih
    have e1 : i = j → (i + ((d + 1 : Nat) : Int) - 1 - j).toNat = d := by omega
    by_cases hb : m / 2 ^ d % 2 = 1
    · rw [if_pos hb, List.mem_cons, ih]
      constructor
      · rintro (rfl | ⟨h1, h2, h3⟩)
        · exact ⟨by omega, by omega, by rw [e1 rfl]; exact hb⟩
        · exact ⟨by omega, by omega, h3⟩
      · rintro ⟨h1, h2, h3⟩
        by_cases e : j = i
        · exact .inl e
        · exact .inr ⟨by omega, by omega, h3⟩
    · rw [if_neg hb, ih]
      constructor
      · rintro ⟨h1, h2, h3⟩; exact ⟨by omega, by omega, h3⟩
      · rintro ⟨h1, h2, h3⟩
        by_cases e : i = j
        · rw [e1 e] at h3; exact absurd h3 hb
        · exact ⟨by omega, by omega, h3⟩
theorem hSum_pick (at_ : List Int) (m : Nat) (B : Int) : ∀ (t : List Int) (s i : Int), (∀ v ∈ t, 0 ≤ v ∧ v ≤ 100) → 0 ≤ s → s ≤ B → B + 100 * t.length ≤ 1000000000 → (∀ j : Nat, j < t.length → ((i + j) ∈ at_ ↔ m / 2 ^ (t.length - 1 - j) % 2 = 1)) → hSum at_ s i t = s + rsum t m
  | [], s, i, _, _, _, _, _ => by simp [hSum, rsum]
  | v :: t, s, i, hv, h0, h1, hB, hm => by
    rw [List.length_cons] at hB hm
    have h2 := hv v List.mem_cons_self
    have hm0 := hm 0 (by omega)
    rw [show i + ((0 : Nat) : Int) = i by omega, show t.length + 1 - 1 - 0 = t.length by omega] at hm0
    have hm' : ∀ j : Nat, j < t.length → ((i + 1 + j) ∈ at_ ↔ m / 2 ^ (t.length - 1 - j) % 2 = 1) := fun j hj => by
      have := hm (j + 1) (by omega)
      rw [show i + ((j + 1 : Nat) : Int) = i + 1 + j by omega, show t.length + 1 - 1 - (j + 1) = t.length - 1 - j by omega] at this
      exact this
    unfold hSum rsum
    rcases Nat.mod_two_eq_zero_or_one (m / 2 ^ t.length) with e | e
    · rw [if_neg (by rw [hm0, e]; omega), hSum_pick at_ m B t s (i + 1) (fun u hu => hv u (List.mem_cons_of_mem _ hu)) h0 h1 (by omega) hm', e]; simp
    · rw [if_pos (by rw [hm0, e]), show wrap64 (s + v) = s + v by unfold wrap64; omega, hSum_pick at_ m (B + 100) t (s + v) (i + 1) (fun u hu => hv u (List.mem_cons_of_mem _ hu)) (by omega) (by omega) (by omega) hm', e]; simp; omega
theorem rsum_full : ∀ (t : List Int) (m : Nat), (∀ j, j < t.length → m / 2 ^ j % 2 = 1) → rsum t m = t.sum
  | [], _, _ => rfl
  | v :: t, m, h => by
    unfold rsum
    rw [h t.length (by simp), rsum_full t m (fun j hj => h j (by rw [List.length_cons]; omega)), List.sum_cons]; simp
theorem rsum_compl : ∀ (t : List Int) (m c : Nat), (∀ j, j < t.length → m / 2 ^ j % 2 + c / 2 ^ j % 2 = 1) → rsum t m + rsum t c = t.sum
  | [], _, _, _ => rfl
  | v :: t, m, c, h => by
    unfold rsum
    have h1 := h t.length (by simp)
    have h2 := rsum_compl t m c (fun j hj => h j (by rw [List.length_cons]; omega))
    rw [List.sum_cons, ← h2]
    rcases Nat.mod_two_eq_zero_or_one (m / 2 ^ t.length) with e | e
    · rw [e, show c / 2 ^ t.length % 2 = 1 by omega]; simp; omega
    · rw [e, show c / 2 ^ t.length % 2 = 0 by omega]; simp; omega

def vgap (xs : List Int) (q : Nat) : Int := mx (2 * rsum xs q - xs.sum) (-(2 * rsum xs q - xs.sum))
theorem aSum_ev : ∀ (t : List Int) (a B : Int), (∀ v ∈ t, 0 ≤ v ∧ v ≤ 100) → 0 ≤ a → a ≤ B → B + 100 * t.length ≤ 1000000000 → aSum a t = a + t.sum
  | [], a, _, _, _, _, _ => by simp [aSum]
  | v :: t, a, B, hv, h0, h1, hB => by
    rw [List.length_cons] at hB
    have h2 := hv v List.mem_cons_self
    unfold aSum
    rw [show wrap64 (a + v) = a + v by unfold wrap64; omega, aSum_ev t (a + v) (B + 100) (fun u hu => hv u (List.mem_cons_of_mem _ hu)) (by omega) (by omega) (by omega), List.sum_cons]; omega
theorem sum_bound : ∀ (t : List Int), (∀ v ∈ t, 0 ≤ v ∧ v ≤ 100) → 0 ≤ t.sum ∧ t.sum ≤ 100 * t.length
  | [], _ => by simp
  | v :: t, h => by
    have h1 := sum_bound t (fun u hu => h u (List.mem_cons_of_mem _ hu))
    have h2 := h v List.mem_cons_self
    rw [List.sum_cons, List.length_cons]; omega
theorem rsum_bound : ∀ (t : List Int) (m : Nat), (∀ v ∈ t, 0 ≤ v ∧ v ≤ 100) → 0 ≤ rsum t m ∧ rsum t m ≤ 100 * t.length
  | [], _, _ => by simp [rsum]
  | v :: t, m, h => by
    have h1 := rsum_bound t m (fun u hu => h u (List.mem_cons_of_mem _ hu))
    have h2 := h v List.mem_cons_self
    unfold rsum
    rw [List.length_cons]
    rcases Nat.mod_two_eq_zero_or_one (m / 2 ^ t.length) with e | e
    · rw [e, show ((0 : Nat) : Int) * v = 0 by simp]; omega
    · rw [e, show ((1 : Nat) : Int) * v = v by simp]; omega
theorem hSum_pick0 (xs : List Int) (hv : ∀ v ∈ xs, 0 ≤ v ∧ v ≤ 100) (hn : xs.length ≤ 12) (m : Nat) : hSum (pick m xs.length 0) 0 0 xs = rsum xs m := by
  rw [hSum_pick (pick m xs.length 0) m 0 xs 0 0 hv (by omega) (by omega) (by omega) (fun j hj => ?_)]
  · omega
  · rw [mem_pick, show ((0 : Int) + (xs.length : Int) - 1 - (0 + (j : Int))).toNat = xs.length - 1 - j by omega]
    constructor
    · rintro ⟨_, _, h⟩; exact h
    · intro h; exact ⟨by omega, by omega, h⟩
theorem pick_len (m : Nat) : ∀ (d : Nat) (i : Int), (pick m d i).length ≤ d
  | 0, _ => by simp [pick]
  | d + 1, i => by
    have := pick_len m d (i + 1)
    unfold pick
    by_cases h : m / 2 ^ d % 2 = 1
    · rw [if_pos h, List.length_cons]; omega
    · rw [if_neg h]; omega
theorem splitGap_val (xs ys : List Int) (hn : xs.length ≤ 1048576) (hm : ys.length ≤ 1048576) (k : Nat) (hk : 2 * xs.length + ys.length + 1 < k) : impl_SplitGap.f k xs ys = some (mx (wrap64 (wrap64 (2 * hSum ys 0 0 xs) - aSum 0 xs)) (wrap64 (-(wrap64 (wrap64 (2 * hSum ys 0 0 xs) - aSum 0 xs))))) := by
  have hT : ∀ k, ys.length + xs.length < k → impl_SumAt.f k xs ys = some (hSum ys 0 0 xs) := by
    intro k hk
    have := implSumAt_loop xs ys hn hm xs.length k 0 0 (by omega) (by omega) (by omega)
    rw [Int.toNat_zero, List.drop_zero] at this
    exact this
  have h4 := implAll_loop xs ys hn hm _ hT xs.length k 0 0 (by omega) (by omega) (by omega)
  simp only [Int.toNat_zero, List.drop_zero] at h4
  exact h4
theorem splitGap_pick (xs : List Int) (hv : ∀ v ∈ xs, 0 ≤ v ∧ v ≤ 100) (hn : xs.length ≤ 12) (m : Nat) (k : Nat) (hk : 3 * xs.length + 1 < k) : impl_SplitGap.f k xs (pick m xs.length 0) = some (vgap xs m) := by
  have hl := pick_len m xs.length 0
  rw [splitGap_val xs _ (by omega) (by omega) k (by omega), hSum_pick0 xs hv hn, aSum_ev xs 0 0 hv (by omega) (by omega) (by omega)]
  have h1 := rsum_bound xs m hv
  have h2 := sum_bound xs hv
  unfold vgap
  generalize rsum xs m = s at h1 ⊢
  generalize xs.sum = t at h2 ⊢
  have e1 : wrap64 (2 * s) = 2 * s := by unfold wrap64; omega
  rw [e1]
  have e2 : wrap64 (2 * s - (0 + t)) = 2 * s - t := by unfold wrap64; omega
  rw [e2]
  have e3 : wrap64 (-(2 * s - t)) = -(2 * s - t) := by unfold wrap64; omega
  rw [e3]
theorem best_in (xs : List Int) (hn : xs.length ≤ 12) (best : List Int) (gap : Int) (m : Nat) (hm : m < 4096) : ∀ (d : Nat) (i : Int) (acc : List Int), 0 ≤ i → (xs.length : Int) - i = d → acc.length + d ≤ xs.length → ∀ k, impl_BestSplit.l1 (k + d) xs best gap (xs.length : Int) (m : Int) acc (xs.length : Int) i = impl_BestSplit.l1 k xs best gap (xs.length : Int) (m : Int) (acc ++ pick m d i) (xs.length : Int) (xs.length : Int) := by
  intro d
  induction d with
  | zero => intro i acc h0 hd hl k; rw [show i = (xs.length : Int) by omega, pick, List.append_nil, Nat.add_zero]
  | succ d ih =>
    intro i acc h0 hd hl k
    have hlt : i < (xs.length : Int) := by omega
    have hx : acc.length < 17592186044416 := by omega
    have e1 : wrap64 (wrap64 ((xs.length : Int) - 1) - i) = (d : Int) := by unfold wrap64; omega
    have e2 := bits_div m d hm (by omega)
    have hw : (0 : Int) ≤ (d : Int) := by omega
    rw [show k + (d + 1) = (k + d) + 1 by omega]
    simp only [impl_BestSplit.l1, if_pos hlt, e1, if_pos hw, e2, if_pos hx, wrap_small (n := xs.length) h0 hlt (by omega)]
    unfold pick
    by_cases hb : m / 2 ^ d % 2 = 1
    · rw [if_pos (by omega), if_pos hb, ih (i + 1) (acc ++ [i]) (by omega) (by omega) (by simp; omega), List.append_assoc]; rfl
    · rw [if_neg (by omega), if_neg hb, ih (i + 1) acc (by omega) (by omega) (by omega)]
def Bested (xs : List Int) (q : Nat) (m : Int) : Prop := (q : Int) < 2 ^ xs.length ∧ (∀ p : Nat, m < p → p < 2 ^ xs.length → vgap xs q ≤ vgap xs p) ∧ ∀ p : Nat, q < p → p < 2 ^ xs.length → vgap xs q < vgap xs p
theorem best_out (xs : List Int) (hv : ∀ v ∈ xs, 0 ≤ v ∧ v ≤ 100) (hn : xs.length ≤ 12) : ∀ (d : Nat) (q : Nat), d ≤ q → Bested xs q ((d : Int) - 1) →
    ∃ r, Bested xs r (-1) ∧ ∀ k, d * 14 + 42 < k → impl_BestSplit.l0 k xs (pick q xs.length 0) (vgap xs q) (xs.length : Int) ((d : Int) - 1) = some (pick r xs.length 0) := by
  have h4096 : 2 ^ xs.length ≤ 4096 := Nat.pow_le_pow_right (n := 2) (by omega) hn
  intro d
  induction d with
  | zero =>
    intro q hq hb
    refine ⟨q, hb, fun k hk => ?_⟩
    obtain ⟨k, rfl⟩ : ∃ m, k = m + 1 := ⟨k - 1, by omega⟩
    simp only [impl_BestSplit.l0]
    rw [if_neg (by omega)]
  | succ d ih =>
    intro q hq hb
    have hqb := hb.1
    have hq2 : q < 2 ^ xs.length := by exact_mod_cast hqb
    have hg : ¬ vgap xs q < 0 := by unfold vgap mx; split <;> omega
    have hw : wrap64 ((((d + 1 : Nat) : Int) - 1) - 1) = (d : Int) - 1 := by unfold wrap64; omega
    by_cases c : vgap xs d < vgap xs q
    · obtain ⟨r, hr, hk⟩ := ih d (by omega) ⟨by exact_mod_cast (show d < 2 ^ xs.length by omega), fun p h1 h2 => by
          by_cases e : p = d
          · rw [e]; omega
          · have := hb.2.1 p (by omega) h2; omega, fun p h1 h2 => by have := hb.2.1 p (by omega) h2; omega⟩
      refine ⟨r, hr, fun k hk2 => ?_⟩
      obtain ⟨k, rfl⟩ : ∃ m, k = m + 1 + xs.length + 1 := ⟨k - 2 - xs.length, by omega⟩
      simp only [impl_BestSplit.l0]
      rw [if_pos (by omega), show ((d + 1 : Nat) : Int) - 1 = (d : Int) by omega, best_in xs hn _ _ d (by omega) xs.length 0 [] (by omega) (by omega) (by simp)]
      simp only [impl_BestSplit.l1, List.nil_append, Int.lt_irrefl, if_false, splitGap_pick xs hv hn d k (by omega), Option.bind_some, if_neg hg, if_pos c]
      rw [show wrap64 ((d : Int) - 1) = (d : Int) - 1 by unfold wrap64; omega]
      exact hk k (by omega)
    · obtain ⟨r, hr, hk⟩ := ih q (by omega) ⟨hb.1, fun p h1 h2 => by
          by_cases e : p = d
          · rw [e]; omega
          · exact hb.2.1 p (by omega) h2, hb.2.2⟩
      refine ⟨r, hr, fun k hk2 => ?_⟩
      obtain ⟨k, rfl⟩ : ∃ m, k = m + 1 + xs.length + 1 := ⟨k - 2 - xs.length, by omega⟩
      simp only [impl_BestSplit.l0]
      rw [if_pos (by omega), show ((d + 1 : Nat) : Int) - 1 = (d : Int) by omega, best_in xs hn _ _ d (by omega) xs.length 0 [] (by omega) (by omega) (by simp)]
      simp only [impl_BestSplit.l1, List.nil_append, Int.lt_irrefl, if_false, splitGap_pick xs hv hn d k (by omega), Option.bind_some, if_neg hg, if_neg c]
      rw [show wrap64 ((d : Int) - 1) = (d : Int) - 1 by unfold wrap64; omega]
      exact hk k (by omega)
theorem full_ev (n : Nat) (h : n < 13) : wrap64 (shl .i64 1 (n : Int) - 1) = ((2 ^ n - 1 : Nat) : Int) := by
  rw [shl_ev n h]
  have h1 : 0 < 2 ^ n := Nat.two_pow_pos _
  have h2 : 2 ^ n ≤ 4096 := Nat.pow_le_pow_right (n := 2) (by omega) (show n ≤ 12 by omega)
  generalize 2 ^ n = P at h1 h2 ⊢
  unfold wrap64; omega
theorem bestSplit_full (xs : List Int) (hn : xs.length ≤ 12) (hv : ∀ v ∈ xs, 0 ≤ v ∧ v ≤ 100) (hb : ∀ k, xs.length < k → impl_areWeights.f k xs = some true) :
    ∃ q, Bested xs q (-1) ∧ ∀ k, 60000 < k → impl_BestSplit.f k xs = some (pick q xs.length 0) := by
  have h4096 : 2 ^ xs.length ≤ 4096 := Nat.pow_le_pow_right (n := 2) (by omega) hn
  have hpos : 0 < 2 ^ xs.length := Nat.two_pow_pos _
  obtain ⟨r, hr, hk⟩ := best_out xs hv hn (2 ^ xs.length - 1) (2 ^ xs.length - 1) (by omega) ⟨by exact_mod_cast (show 2 ^ xs.length - 1 < 2 ^ xs.length by omega), fun p h1 h2 => by
    rw [show p = 2 ^ xs.length - 1 by omega]; omega, fun p h1 h2 => by omega⟩
  refine ⟨r, hr, fun k hk2 => ?_⟩
  unfold impl_BestSplit.f
  rw [hb k (by omega)]
  simp only [Option.bind_some, if_true, full_ev xs.length (by omega)]
  obtain ⟨k, rfl⟩ : ∃ m, k = m + 1 + xs.length + 1 := ⟨k - 2 - xs.length, by omega⟩
  simp only [impl_BestSplit.l0]
  rw [if_pos (by omega), best_in xs hn _ _ (2 ^ xs.length - 1) (by omega) xs.length 0 [] (by omega) (by omega) (by simp)]
  simp only [impl_BestSplit.l1, List.nil_append, Int.lt_irrefl, if_false, splitGap_pick xs hv hn (2 ^ xs.length - 1) k (by omega), Option.bind_some]
  rw [if_pos (by omega), show wrap64 (((2 ^ xs.length - 1 : Nat) : Int) - 1) = ((2 ^ xs.length - 1 : Nat) : Int) - 1 by unfold wrap64; omega]
  exact hk k (by omega)
theorem bested_least (xs : List Int) (q : Nat) (h : Bested xs q (-1)) (p : Nat) (hp : p < 2 ^ xs.length) : vgap xs q ≤ vgap xs p := h.2.1 p (by omega) hp
theorem compl_bit (n p j : Nat) (hj : j < n) (hp : p < 2 ^ n) : p / 2 ^ j % 2 + (2 ^ n - 1 - p) / 2 ^ j % 2 = 1 := by
  have h := Nat.testBit_two_pow_sub_succ hp j
  rw [show 2 ^ n - (p + 1) = 2 ^ n - 1 - p by omega] at h
  simp only [Nat.testBit_eq_decide_div_mod_eq, hj, decide_true, Bool.true_and] at h
  have a := Nat.mod_two_eq_zero_or_one (p / 2 ^ j)
  have b := Nat.mod_two_eq_zero_or_one ((2 ^ n - 1 - p) / 2 ^ j)
  rcases a with a | a <;> rcases b with b | b <;> simp [a, b] at h ⊢
theorem bested_first (xs : List Int) (hx : 0 < xs.length) (q : Nat) (h : Bested xs q (-1)) : q / 2 ^ (xs.length - 1) % 2 = 1 := by
  have hq : q < 2 ^ xs.length := by have := h.1; exact_mod_cast this
  have hp : 2 ^ xs.length = 2 * 2 ^ (xs.length - 1) := by rw [← Nat.pow_succ']; congr 1; omega
  have h0 : 0 < 2 ^ (xs.length - 1) := Nat.two_pow_pos _
  by_cases c : q < 2 ^ (xs.length - 1)
  · have hs := rsum_compl xs q (2 ^ xs.length - 1 - q) (fun j hj => compl_bit xs.length q j hj hq)
    have hlt := h.2.2 (2 ^ xs.length - 1 - q) (by omega) (by omega)
    exfalso
    unfold vgap mx at hlt
    split at hlt <;> split at hlt <;> omega
  · rw [show q / 2 ^ (xs.length - 1) = 1 from by
      rw [Nat.div_eq_iff h0]; omega]
theorem pick_head (m d : Nat) (i : Int) (h : m / 2 ^ d % 2 = 1) : pick m (d + 1) i = i :: pick m d (i + 1) := by
  rw [show pick m (d + 1) i = if m / 2 ^ d % 2 = 1 then i :: pick m d (i + 1) else pick m d (i + 1) from rfl, if_pos h]

def insA (x : List Int) (k : Nat) (v : Int) : List Int := (([] : List Int) ++ x.take k ++ [v]) ++ x.drop k
theorem insA_len (x : List Int) (k : Nat) (v : Int) (h : k ≤ x.length) : (insA x k v).length = x.length + 1 := by
  unfold insA; simp; omega
theorem insA_eq : ∀ (x : List Int) (k : Nat) (v : Int), k ≤ x.length → (shf (x ++ [0]) k).set k v = insA x k v
  | [], 0, v, _ => by simp [shf, insA]
  | a :: xs, 0, v, _ => by
    unfold shf insA
    simp only [List.cons_append, List.drop_zero, List.take_zero, List.nil_append, Nat.zero_add, List.take_succ_cons, List.length_cons, List.length_append, List.length_nil, List.set_cons_zero]
    congr 1
    rw [show xs.length + 1 + 1 - 1 = xs.length + 1 by omega, List.take_succ_cons]
    congr 1
    rw [List.take_left' rfl]
  | a :: xs, k + 1, v, h => by
    have ih := insA_eq xs k v (by simpa using h)
    have e : shf (a :: xs ++ [0]) (k + 1) = a :: shf (xs ++ [0]) k := by
      unfold shf
      simp only [List.cons_append, List.take_succ_cons, List.drop_succ_cons, List.length_cons, Nat.add_sub_add_right]
    rw [e, List.set_cons_succ, ih]
    unfold insA
    simp only [List.nil_append, List.take_succ_cons, List.drop_succ_cons, List.cons_append]
def okIdx (l out : List Int) : Prop := ∀ v ∈ out, 0 ≤ v ∧ v < (l.length : Int)
theorem okIdx_rd {l out : List Int} (h : okIdx l out) (j : Int) (h0 : 0 ≤ j) (h1 : j < (out.length : Int)) : 0 ≤ rd out j ∧ rd out j < (l.length : Int) := h _ (by
  unfold rd
  have h2 : j.toNat < out.length := by omega
  simp [List.getD_eq_getElem?_getD, List.getElem?_eq_getElem h2])
theorem okIdx_ins {l out : List Int} (h : okIdx l out) (k : Nat) (v : Int) (hv : 0 ≤ v ∧ v < (l.length : Int)) : okIdx l (insA out k v) := by
  intro x hx
  unfold insA at hx
  simp only [List.nil_append, List.mem_append, List.mem_singleton] at hx
  rcases hx with (hx | hx) | hx
  · exact h x (List.mem_of_mem_take hx)
  · rw [hx]; exact hv
  · exact h x (List.mem_of_mem_drop hx)

def Adj (l out : List Int) : Prop := ∀ j : Int, 1 ≤ j → j < (out.length : Int) → rd l (rd out j) < rd l (rd out (j - 1)) ∨ (rd l (rd out j) = rd l (rd out (j - 1)) ∧ rd out (j - 1) < rd out j)
theorem insA_rd (out : List Int) (p : Nat) (v : Int) (hp : p ≤ out.length) (j : Int) (h0 : 0 ≤ j) (h1 : j ≤ (out.length : Int)) : rd (insA out p v) j = if j < p then rd out j else if j = p then v else rd out (j - 1) := by
  unfold rd insA
  rw [List.nil_append, List.append_assoc]
  have ht : (out.take p).length = p := by rw [List.length_take]; omega
  by_cases c : j < p
  · rw [if_pos c, List.getD_eq_getElem?_getD, List.getD_eq_getElem?_getD, List.getElem?_append_left (by omega), List.getElem?_take_of_lt (by omega)]
  · rw [if_neg c, List.getD_eq_getElem?_getD, List.getElem?_append_right (by omega), ht]
    by_cases e : j = p
    · rw [if_pos e, show j.toNat - p = 0 by omega]; rfl
    · rw [if_neg e, show j.toNat - p = (j - 1).toNat - p + 1 by omega, List.singleton_append, List.getElem?_cons_succ, List.getElem?_drop, List.getD_eq_getElem?_getD, show p + ((j - 1).toNat - p) = (j - 1).toNat by omega]
theorem adj_ins (l out : List Int) (p : Nat) (i : Int) (hp : p ≤ out.length) (ha : Adj l out) (hi : ∀ v ∈ out, v < i) (h1 : 0 < p → rd l i ≤ rd l (rd out ((p : Int) - 1))) (h2 : p < out.length → rd l (rd out (p : Int)) < rd l i) : Adj l (insA out p i) := by
  intro j hj0 hj1
  rw [insA_len out p i hp] at hj1
  rw [insA_rd out p i hp j (by omega) (by omega), insA_rd out p i hp (j - 1) (by omega) (by omega)]
  have hmem : ∀ x : Int, 0 ≤ x → x < (out.length : Int) → rd out x < i := fun x hx0 hx1 => hi _ (by
    unfold rd
    have h2 : x.toNat < out.length := by omega
    simp [List.getD_eq_getElem?_getD, List.getElem?_eq_getElem h2])
  by_cases c1 : j < p
  · rw [if_pos c1, if_pos (by omega)]; exact ha j hj0 (by omega)
  · rw [if_neg c1]
    by_cases c2 : j = p
    · rw [if_pos c2, if_pos (by omega)]
      have := h1 (by omega)
      rw [← c2] at this
      have hm := hmem (j - 1) (by omega) (by omega)
      by_cases e : rd l i = rd l (rd out (j - 1))
      · exact .inr ⟨e, hm⟩
      · exact .inl (by omega)
    · rw [if_neg c2, if_neg (by omega)]
      by_cases c3 : j - 1 = p
      · rw [if_pos c3, c3]; exact .inl (h2 (by omega))
      · rw [if_neg c3]; exact ha (j - 1) (by omega) (by omega)
theorem heavy_in2 (l out : List Int) (hn : l.length ≤ 1048576) (i : Int) (h0 : 0 ≤ i) (hi : i < (l.length : Int)) (hol : (out.length : Int) = i) (hok : okIdx l out) :
    ∀ (d : Nat), d ≤ out.length → (d < out.length → rd l (rd out (d : Int)) < rd l i) → ∃ p : Nat, p ≤ out.length ∧ (0 < p → rd l i ≤ rd l (rd out ((p : Int) - 1))) ∧ (p < out.length → rd l (rd out (p : Int)) < rd l i) ∧
      ∀ K r, (∀ k, K < k → impl_HeaviestFirst.l0 k l (insA out p i) l (l.length : Int) (i + 1) = some r) → ∀ k, K + d + 1 < k → impl_HeaviestFirst.l1 k l out i (rd l i) (d : Int) l (l.length : Int) i = some r := by
  have hlen : out.length < 17592186044416 := by omega
  have hwi : wrap64 (i + 1) = i + 1 := by unfold wrap64; omega
  intro d
  induction d with
  | zero =>
    intro hd hlast
    refine ⟨0, by omega, by omega, hlast, fun K r h k hk => ?_⟩
    obtain ⟨k, rfl⟩ : ∃ m, k = m + 1 := ⟨k - 1, by omega⟩
    have hz : ¬ ((0 : Nat) : Int) > 0 := by omega
    have g0 : (0 : Int) ≤ ((0 : Nat) : Int) := by omega
    have g1 : ((0 : Nat) : Int) < ((out ++ [0]).length : Int) := by rw [List.length_append, List.length_singleton]; omega
    have := h k (by omega)
    rw [← insA_eq out 0 i (by omega)] at this
    simp only [impl_HeaviestFirst.l1, if_neg hz, if_pos hlen, Option.bind_some, if_pos g0, if_pos g1, hwi]
    exact this
  | succ d ih =>
    intro hd hlast
    have hz : ((d + 1 : Nat) : Int) > 0 := by omega
    have hw : wrap64 (((d + 1 : Nat) : Int) - 1) = (d : Int) := by unfold wrap64; omega
    have a0 : (0 : Int) ≤ (d : Int) := by omega
    have a1 : (d : Int) < (out.length : Int) := by omega
    obtain ⟨b0, b1⟩ := okIdx_rd hok (d : Int) a0 a1
    by_cases hc : rd l (rd out (d : Int)) < rd l i
    · obtain ⟨p, p1, p2, p3, h⟩ := ih (by omega) (fun _ => hc)
      refine ⟨p, p1, p2, p3, fun K r hr k hk => ?_⟩
      obtain ⟨k, rfl⟩ : ∃ m, k = m + 1 := ⟨k - 1, by omega⟩
      simp only [impl_HeaviestFirst.l1, if_pos hz, hw, if_pos a0, if_pos a1, if_pos b0, if_pos b1, if_pos hc]
      exact h K r hr k (by omega)
    · refine ⟨d + 1, hd, fun _ => ?_, hlast, fun K r h k hk => ?_⟩
      · rw [show ((d + 1 : Nat) : Int) - 1 = (d : Int) by omega]; omega
      · obtain ⟨k, rfl⟩ : ∃ m, k = m + 1 := ⟨k - 1, by omega⟩
        have g0 : (0 : Int) ≤ ((d + 1 : Nat) : Int) := by omega
        have g1 : ((d + 1 : Nat) : Int) < ((out ++ [0]).length : Int) := by rw [List.length_append, List.length_singleton]; omega
        have := h k (by omega)
        rw [← insA_eq out (d + 1) i hd] at this
        simp only [impl_HeaviestFirst.l1, if_pos hz, hw, if_pos a0, if_pos a1, if_pos b0, if_pos b1, if_neg hc, if_pos hlen, Option.bind_some, if_pos g0, if_pos g1, hwi]
        exact this
theorem heavy_out2 (l : List Int) (hn : l.length ≤ 1048576) : ∀ (e : Nat) (i : Int) (out : List Int), 0 ≤ i → (l.length : Int) - i = e → (out.length : Int) = i → okIdx l out → Adj l out → (∀ v ∈ out, v < i) →
    ∃ K r, r.length = l.length ∧ okIdx l r ∧ Adj l r ∧ ∀ k, K < k → impl_HeaviestFirst.l0 k l out l (l.length : Int) i = some r := by
  intro e
  induction e with
  | zero =>
    intro i out h0 hd hol hok ha _
    have hlt : ¬ i < (l.length : Int) := by omega
    refine ⟨0, out, by omega, hok, ha, fun k hk => ?_⟩
    obtain ⟨k, rfl⟩ : ∃ m, k = m + 1 := ⟨k - 1, by omega⟩
    simp only [impl_HeaviestFirst.l0, if_neg hlt]
  | succ e ih =>
    intro i out h0 hd hol hok ha hi
    have hlt : i < (l.length : Int) := by omega
    obtain ⟨p, p1, p2, p3, h⟩ := heavy_in2 l out hn i h0 hlt hol hok out.length (Nat.le_refl _) (fun c => by omega)
    obtain ⟨K, r, r1, r2, r3, hr⟩ := ih (i + 1) (insA out p i) (by omega) (by omega) (by rw [insA_len out p i p1]; omega) (okIdx_ins hok p i ⟨h0, hlt⟩) (adj_ins l out p i p1 ha hi p2 p3) (fun v hv => by
      unfold insA at hv
      simp only [List.nil_append, List.mem_append, List.mem_singleton] at hv
      rcases hv with (hv | hv) | hv
      · have := hi v (List.mem_of_mem_take hv); omega
      · omega
      · have := hi v (List.mem_of_mem_drop hv); omega)
    refine ⟨K + out.length + 2, r, r1, r2, r3, fun k hk => ?_⟩
    obtain ⟨k, rfl⟩ : ∃ m, k = m + 1 := ⟨k - 1, by omega⟩
    simp only [impl_HeaviestFirst.l0, if_pos hlt, if_pos h0]
    exact h K r hr k (by omega)
theorem heavy_full (l : List Int) (hn : l.length ≤ 1048576) : ∃ K r, r.length = l.length ∧ okIdx l r ∧ Adj l r ∧ ∀ k, K < k → impl_HeaviestFirst.f k l = some r :=
  heavy_out2 l hn l.length 0 [] (by omega) (by omega) (by simp) (by intro v hv; cases hv) (by intro j h0 h1; simp at h1; omega) (by intro v hv; cases hv)

theorem wrapNat (n : Nat) (h : n ≤ 1073741823) : Go.IntKind.wrap .i64 (n : Int) = (n : Int) := by
  have e1 : (Go.IntKind.i64).bits = 64 := rfl
  have e2 : (Go.IntKind.i64).signed = true := rfl
  unfold Go.IntKind.wrap
  simp only [e1, e2, Bool.true_and, decide_eq_true_eq]
  have e3 : (2 : Int) ^ 64 = 18446744073709551616 := by decide
  have e4 : (2 : Int) ^ (64 - 1) = 9223372036854775808 := by decide
  rw [e3, e4, if_neg (by omega)]; omega
theorem and255 (x : Int) : 0 ≤ Go.bits .and .i64 x 255 ∧ Go.bits .and .i64 x 255 ≤ 255 := by
  have h : (BitVec.ofInt 64 x &&& BitVec.ofInt 64 255).toNat ≤ 255 := by
    rw [BitVec.toNat_and]; exact Nat.le_trans Nat.and_le_right (by decide)
  show 0 ≤ Go.IntKind.wrap .i64 ((BitVec.ofInt 64 x &&& BitVec.ofInt 64 255).toNat : Int) ∧ Go.IntKind.wrap .i64 ((BitVec.ofInt 64 x &&& BitVec.ofInt 64 255).toNat : Int) ≤ 255
  generalize (BitVec.ofInt 64 x &&& BitVec.ofInt 64 255).toNat = n at h ⊢
  rw [wrapNat n (by omega)]; omega
/-- A draw's state: its place is none below nought. -/
theorem byte_ev (d : List Int) (p s : Int) (hd : d.length ≤ 1048576) (hp : 0 ≤ p) (hp2 : p ≤ d.length) : ∃ v p' s', spec_l1Byte.f d p s = some (v, p', s') ∧ (0 ≤ v ∧ v ≤ 255) ∧ 0 ≤ p' ∧ p' ≤ d.length := by
  unfold spec_l1Byte.f
  by_cases h : p < (d.length : Int)
  · rw [if_pos h, if_pos hp]
    exact ⟨_, _, _, rfl, and255 _, by unfold wrap64; omega, by unfold wrap64; omega⟩
  · rw [if_neg h]
    exact ⟨_, _, _, rfl, and255 _, hp, hp2⟩
theorem tmod_range (x n : Int) (hx : 0 ≤ x) (hn : 0 < n) : 0 ≤ Int.tmod x n ∧ Int.tmod x n < n := by
  rw [Int.tmod_eq_emod_of_nonneg hx]
  exact ⟨Int.emod_nonneg _ (by omega), Int.emod_lt_of_pos _ hn⟩
theorem below_ev (d : List Int) (p s n : Int) (hd : d.length ≤ 1048576) (hp : 0 ≤ p) (hp2 : p ≤ d.length) : ∃ v p' s', spec_l1Below.f d p s n = some (v, p', s') ∧ (0 ≤ v ∧ (0 < n → v < n) ∧ (n ≤ 0 → v = 0)) ∧ 0 ≤ p' ∧ p' ≤ d.length := by
  unfold spec_l1Below.f
  by_cases h : n ≤ 0
  · rw [if_pos h]; exact ⟨0, p, s, rfl, ⟨by omega, by omega, by omega⟩, hp, hp2⟩
  · have hz : ¬ n = 0 := by omega
    rw [if_neg h]
    by_cases h2 : n ≤ 256
    · rw [if_pos h2]
      obtain ⟨v, p', s', hb, hv, hp', hp2'⟩ := byte_ev d p s hd hp hp2
      rw [hb]; simp only [Option.bind_some, if_neg hz]
      have := tmod_range v n hv.1 (by omega)
      exact ⟨_, _, _, rfl, ⟨this.1, fun _ => this.2, by omega⟩, hp', hp2'⟩
    · rw [if_neg h2]
      obtain ⟨v, p', s', hb, hv, hp', hp2'⟩ := byte_ev d p s hd hp hp2
      rw [hb]; simp only [Option.bind_some]
      obtain ⟨v2, p2, s2, hb2, hv2, hq, hq2⟩ := byte_ev d p' s' hd hp' hp2'
      rw [hb2]; simp only [Option.bind_some]
      obtain ⟨v3, p3, s3, hb3, hv3, hr, hr2⟩ := byte_ev d p2 s2 hd hq hq2
      rw [hb3]; simp only [Option.bind_some, if_neg hz]
      have := tmod_range (wrap64 (wrap64 (wrap64 (v * 65536) + wrap64 (v2 * 256)) + v3)) n (by unfold wrap64; omega) (by omega)
      exact ⟨_, _, _, rfl, ⟨this.1, fun _ => this.2, by omega⟩, hr, hr2⟩
theorem int_ev (d : List Int) (p s : Int) (l : List Int) (hl : 0 < l.length) (hd : d.length ≤ 1048576) (hp : 0 ≤ p) (hp2 : p ≤ d.length) : ∃ v p' s', spec_l1Int.f d p s l = some (v, p', s') ∧ v ∈ l ∧ 0 ≤ p' ∧ p' ≤ d.length := by
  unfold spec_l1Int.f
  obtain ⟨v, p', s', hb, hv, hp', hp2'⟩ := below_ev d p s (l.length : Int) hd hp hp2
  have h2 := hv.2.1 (by omega)
  rw [hb]; simp only [Option.bind_some, if_pos hv.1, if_pos h2]
  refine ⟨_, _, _, rfl, ?_, hp', hp2'⟩
  have h3 : v.toNat < l.length := by omega
  unfold rd
  simp [List.getD_eq_getElem?_getD, List.getElem?_eq_getElem h3]
theorem new_loop (d : List Int) (hd : d.length ≤ 1048576) : ∀ (e : Nat) (s i : Int), 0 ≤ i → (d.length : Int) - i ≤ e → ∃ s', ∀ k, e < k → spec_l1New.l0 k d s i = some (d, 0, s') := by
  intro e
  induction e with
  | zero =>
    intro s i h0 he
    refine ⟨s, fun k hk => ?_⟩
    obtain ⟨k, rfl⟩ : ∃ m, k = m + 1 := ⟨k - 1, by omega⟩
    simp only [spec_l1New.l0]
    rw [if_neg (by omega)]
  | succ e ih =>
    intro s i h0 he
    by_cases h : i < (d.length : Int) ∧ i < 4000
    · obtain ⟨s', hs⟩ := ih (Go.bits .and .i64 (wrap64 ((wrap64 ((wrap64 (s * 137)) + (wrap64 (rd d i)))) + 11)) 1073741823) (i + 1) (by omega) (by omega)
      refine ⟨s', fun k hk => ?_⟩
      obtain ⟨k, rfl⟩ : ∃ m, k = m + 1 := ⟨k - 1, by omega⟩
      simp only [spec_l1New.l0, if_pos h.1, if_pos h.2, if_pos h0, wrap_small (n := d.length) h0 h.1 hd]
      exact hs k (by omega)
    · refine ⟨s, fun k hk => ?_⟩
      obtain ⟨k, rfl⟩ : ∃ m, k = m + 1 := ⟨k - 1, by omega⟩
      simp only [spec_l1New.l0]
      by_cases h1 : i < (d.length : Int)
      · rw [if_pos h1, if_neg (fun h2 => h ⟨h1, h2⟩)]
      · rw [if_neg h1]
theorem new_ev (d : List Int) (hd : d.length ≤ 1048576) : ∃ s, ∀ k, d.length < k → spec_l1New.f k d = some (d, 0, s) :=
  new_loop d hd d.length _ 0 (by omega) (by omega)

theorem any29_loop (d : List Int) (hd : d.length ≤ 1048576) : ∀ (e : Nat) (i : Int) (acc : List Int) (p s : Int), i = e → acc.length + e ≤ 7 → (∀ v ∈ acc, 0 ≤ v ∧ v ≤ 101) → 0 ≤ p → p ≤ d.length →
    ∃ (l : List Int) (p' s' : Int), l.length ≤ 7 ∧ (∀ v ∈ l, 0 ≤ v ∧ v ≤ 101) ∧ 0 ≤ p' ∧ p' ≤ d.length ∧ ∀ k, e < k → spec_l29Any.l0 k acc i d p s = some (l, p', s') := by
  intro e
  induction e with
  | zero =>
    intro i acc p s hi hl hv h0 h1
    have hz : ¬ i > 0 := by omega
    by_cases hp : (acc.length : Int) > 0
    · obtain ⟨v, p1, s1, hb, hv1, hp1, hq1⟩ := below_ev d p s 10 hd h0 h1
      by_cases c : (v == 0) = true
      · obtain ⟨x, p2, s2, hx, hm, hp2, hq2⟩ := int_ev d p1 s1 [0, 100, 101] (by simp) hd hp1 hq1
        have hx2 : 0 ≤ x ∧ x ≤ 101 := by simp at hm; omega
        refine ⟨acc.set 0 x, p2, s2, by simpa using hl, fun u hu => ?_, hp2, hq2, fun k hk => ?_⟩
        · rcases List.mem_or_eq_of_mem_set hu with h | h
          · exact hv u h
          · rw [h]; exact hx2
        · obtain ⟨k, rfl⟩ : ∃ m, k = m + 1 := ⟨k - 1, by omega⟩
          have hpp : 0 < (acc.length : Int) := hp
          simp only [spec_l29Any.l0, if_neg hz, if_pos hp, spec_l1Once.f, hb, Option.bind_some, c, if_true, hx, if_pos hpp]; rfl
      · refine ⟨acc, p1, s1, by omega, hv, hp1, hq1, fun k hk => ?_⟩
        obtain ⟨k, rfl⟩ : ∃ m, k = m + 1 := ⟨k - 1, by omega⟩
        simp only [spec_l29Any.l0, if_neg hz, if_pos hp, spec_l1Once.f, hb, Option.bind_some, if_neg c]
    · refine ⟨acc, p, s, by omega, hv, h0, h1, fun k hk => ?_⟩
      obtain ⟨k, rfl⟩ : ∃ m, k = m + 1 := ⟨k - 1, by omega⟩
      simp only [spec_l29Any.l0, if_neg hz, if_neg hp]
  | succ e ih =>
    intro i acc p s hi hl hv h0 h1
    have hz : i > 0 := by omega
    obtain ⟨v, p1, s1, hb, hv1, hp1, hq1⟩ := below_ev d p s 20 hd h0 h1
    have hv2 := hv1.2.1 (by omega)
    have hw : wrap64 (1 + v) = 1 + v := by unfold wrap64; omega
    obtain ⟨l, p', s', a1, a2, a3, a4, hk⟩ := ih (i - 1) (acc ++ [1 + v]) p1 s1 (by omega) (by simp; omega) (fun u hu => by
      rcases List.mem_append.mp hu with h | h
      · exact hv u h
      · have : u = 1 + v := by simpa using h
        omega) hp1 hq1
    refine ⟨l, p', s', a1, a2, a3, a4, fun k hk2 => ?_⟩
    obtain ⟨k, rfl⟩ : ∃ m, k = m + 1 := ⟨k - 1, by omega⟩
    have hx : acc.length < 17592186044416 := by omega
    simp only [spec_l29Any.l0, if_pos hz, hb, Option.bind_some, if_pos hx, hw]
    rw [show wrap64 (i - 1) = i - 1 by unfold wrap64; omega]
    exact hk k (by omega)
theorem any29_ev (d : List Int) (hd : d.length ≤ 1048576) (p s : Int) (h0 : 0 ≤ p) (h1 : p ≤ d.length) :
    ∃ (l : List Int) (p' s' : Int), l.length ≤ 7 ∧ (∀ v ∈ l, 0 ≤ v ∧ v ≤ 101) ∧ 0 ≤ p' ∧ p' ≤ d.length ∧ ∀ k, 10 < k → spec_l29Any.f k d p s = some (l, p', s') := by
  obtain ⟨v, p1, s1, hb, hv1, hp1, hq1⟩ := below_ev d p s 8 hd h0 h1
  have hv2 := hv1.2.1 (by omega)
  obtain ⟨l, p', s', a1, a2, a3, a4, hk⟩ := any29_loop d hd v.toNat v [] p1 s1 (by omega) (by simp; omega) (by intro u hu; cases hu) hp1 hq1
  refine ⟨l, p', s', a1, a2, a3, a4, fun k hk2 => ?_⟩
  unfold spec_l29Any.f
  rw [hb]; simp only [Option.bind_some]
  exact hk k (by omega)
theorem drawBest_ev (d : List Int) (hd : d.length ≤ 1048576) : ∃ l : List Int, l.length ≤ 7 ∧ (∀ v ∈ l, 0 ≤ v ∧ v ≤ 101) ∧ ∀ k, d.length + 10 < k → spec_DrawBestSplit.f k d = some l := by
  obtain ⟨s, hs⟩ := new_ev d hd
  obtain ⟨l, p', s', a1, a2, a3, a4, hk⟩ := any29_ev d hd 0 s (by omega) (by omega)
  refine ⟨l, a1, a2, fun k hk2 => ?_⟩
  unfold spec_DrawBestSplit.f
  rw [hs k (by omega)]; simp only [Option.bind_some, hk k (by omega)]
theorem drawGap_ev (d : List Int) (hd : d.length ≤ 1048576) : ∃ l a : List Int, l.length ≤ 7 ∧ a.length = 3 ∧ (∀ v ∈ l, 0 ≤ v ∧ v ≤ 101) ∧ ∀ k, d.length + 10 < k → spec_DrawSplitGap.f k d = some (l, a) := by
  obtain ⟨s, hs⟩ := new_ev d hd
  obtain ⟨l, p', s', a1, a2, a3, a4, hk⟩ := any29_ev d hd 0 s (by omega) (by omega)
  obtain ⟨v1, p1, s1, hb1, _, hp1, hq1⟩ := below_ev d p' s' 8 hd a3 a4
  obtain ⟨v2, p2, s2, hb2, _, hp2, hq2⟩ := below_ev d p1 s1 8 hd hp1 hq1
  obtain ⟨v3, p3, s3, hb3, _, hp3, hq3⟩ := below_ev d p2 s2 8 hd hp2 hq2
  refine ⟨l, [v1, v2, v3], a1, rfl, a2, fun k hk2 => ?_⟩
  unfold spec_DrawSplitGap.f
  rw [hs k (by omega)]; simp only [Option.bind_some, hk k (by omega), hb1, hb2, hb3]

theorem hSum_b (at_ : List Int) : ∀ (t : List Int) (s i B : Int), (∀ v ∈ t, 0 ≤ v ∧ v ≤ 101) → 0 ≤ s → s ≤ B → B + 101 * t.length ≤ 1000000000 → 0 ≤ hSum at_ s i t ∧ hSum at_ s i t ≤ B + 101 * t.length
  | [], s, i, B, _, h0, h1, _ => by simp [hSum]; omega
  | v :: t, s, i, B, hv, h0, h1, hB => by
    rw [List.length_cons] at hB ⊢
    have h2 := hv v List.mem_cons_self
    have hv' : ∀ u ∈ t, 0 ≤ u ∧ u ≤ 101 := fun u hu => hv u (List.mem_cons_of_mem _ hu)
    unfold hSum
    by_cases c : i ∈ at_
    · rw [if_pos c, show wrap64 (s + v) = s + v by unfold wrap64; omega]
      have := hSum_b at_ t (s + v) (i + 1) (B + 101) hv' (by omega) (by omega) (by omega)
      omega
    · rw [if_neg c]
      have := hSum_b at_ t s (i + 1) B hv' h0 h1 (by omega)
      omega
theorem aSum_b : ∀ (t : List Int) (s B : Int), (∀ v ∈ t, 0 ≤ v ∧ v ≤ 101) → 0 ≤ s → s ≤ B → B + 101 * t.length ≤ 1000000000 → 0 ≤ aSum s t ∧ aSum s t ≤ B + 101 * t.length
  | [], s, B, _, h0, h1, _ => by simp [aSum]; omega
  | v :: t, s, B, hv, h0, h1, hB => by
    rw [List.length_cons] at hB ⊢
    have h2 := hv v List.mem_cons_self
    unfold aSum
    rw [show wrap64 (s + v) = s + v by unfold wrap64; omega]
    have := aSum_b t (s + v) (B + 101) (fun u hu => hv u (List.mem_cons_of_mem _ hu)) (by omega) (by omega) (by omega)
    omega
theorem sumAt_val (xs at_ : List Int) (hn : xs.length ≤ 1048576) (hm : at_.length ≤ 1048576) (k : Nat) (hk : at_.length + xs.length < k) : impl_SumAt.f k xs at_ = some (hSum at_ 0 0 xs) := by
  have := implSumAt_loop xs at_ hn hm xs.length k 0 0 (by omega) (by omega) (by omega)
  rw [Int.toNat_zero, List.drop_zero] at this
  exact this
theorem gap_nonneg (xs at_ : List Int) (hn : xs.length ≤ 7) (hm : at_.length ≤ 7) (hv : ∀ v ∈ xs, 0 ≤ v ∧ v ≤ 101) (k : Nat) (hk : 100 < k) : ∃ g, impl_SplitGap.f k xs at_ = some g ∧ g ≥ 0 := by
  refine ⟨_, splitGap_val xs at_ (by omega) (by omega) k (by omega), ?_⟩
  have h1 := hSum_b at_ xs 0 0 0 hv (by omega) (by omega) (by omega)
  have h2 := aSum_b xs 0 0 hv (by omega) (by omega) (by omega)
  generalize hSum at_ 0 0 xs = a at h1 ⊢
  generalize aSum 0 xs = b at h2 ⊢
  rw [show wrap64 (2 * a) = 2 * a by unfold wrap64; omega, show wrap64 (2 * a - b) = 2 * a - b by unfold wrap64; omega, show wrap64 (-(2 * a - b)) = -(2 * a - b) by unfold wrap64; omega]
  unfold mx; split <;> omega
theorem pick_ge (m : Nat) (d : Nat) (i v : Int) (h : v ∈ pick m d i) : i ≤ v := ((mem_pick m d i v).1 h).1
theorem pick_sorted (m : Nat) : ∀ (d : Nat) (i : Int), (pick m d i).Pairwise (· < ·)
  | 0, _ => List.Pairwise.nil
  | d + 1, i => by
    have ih := pick_sorted m d (i + 1)
    rw [show pick m (d + 1) i = if m / 2 ^ d % 2 = 1 then i :: pick m d (i + 1) else pick m d (i + 1) from rfl]
    split
    · exact List.Pairwise.cons (fun v hv => by have := pick_ge m d (i + 1) v hv; omega) ih
    · exact ih
theorem asc_loop (x : List Int) (hn : x.length ≤ 1048576) (hs : x.Pairwise (· < ·)) : ∀ (e : Nat) (i : Int), 1 ≤ i → (x.length : Int) - i ≤ e → ∀ k, e < k → laws_ascends.l0 k x i = some true := by
  intro e
  induction e with
  | zero =>
    intro i h0 hd k hk
    obtain ⟨k, rfl⟩ : ∃ m, k = m + 1 := ⟨k - 1, by omega⟩
    rw [laws_ascends.l0, if_neg (by omega)]
  | succ e ih =>
    intro i h0 hd k hk
    obtain ⟨k, rfl⟩ : ∃ m, k = m + 1 := ⟨k - 1, by omega⟩
    by_cases hlt : i < (x.length : Int)
    · have hw : wrap64 (i - 1) = i - 1 := by unfold wrap64; omega
      have h1 : (i - 1).toNat < x.length := by omega
      have h2 : i.toNat < x.length := by omega
      have hlt2 : rd x (i - 1) < rd x i := by
        have := List.pairwise_iff_getElem.mp hs (i - 1).toNat i.toNat h1 h2 (by omega)
        unfold rd
        simp only [List.getD_eq_getElem?_getD, List.getElem?_eq_getElem h1, List.getElem?_eq_getElem h2, Option.getD_some]
        exact this
      have a0 : 0 ≤ i - 1 := by omega
      have a1 : i - 1 < (x.length : Int) := by omega
      have a2 : 0 ≤ i := by omega
      have a3 : ¬ rd x (i - 1) ≥ rd x i := by omega
      rw [laws_ascends.l0]
      simp only [if_pos hlt, hw, if_pos a0, if_pos a1, if_pos a2, if_neg a3]
      rw [show wrap64 (i + 1) = i + 1 by unfold wrap64; omega]
      exact ih (i + 1) (by omega) (by omega) k (by omega)
    · rw [laws_ascends.l0, if_neg hlt]
theorem s2_loop (d xs r : List Int) (hn : xs.length ≤ 7) (hr : r.length = xs.length) (hok : okIdx xs r) (ha : Adj xs r) (g3 : ∀ k, d.length + 200 < k → (spec_DrawSplitGap.f k d).bind (fun bt275 => (if (r.length : Int) = (xs.length : Int) then ((impl_SplitGap.f k bt275.1 bt275.2).bind fun t281 => (if t281 ≥ 0 then ((impl_SumAt.f k bt275.1 bt275.2).bind fun t282 => (some (decide (t282 ≥ 0)))) else (some false))) else (some false))) = some true) :
    ∀ (e : Nat) (i : Int), 1 ≤ i → (r.length : Int) - i ≤ e → ∀ k, e + d.length + 300 < k → laws_FnSledges.l2 k d xs r i = some true := by
  intro e
  induction e with
  | zero =>
    intro i h0 hd k hk
    obtain ⟨k, rfl⟩ : ∃ m, k = m + 1 := ⟨k - 1, by omega⟩
    rw [laws_FnSledges.l2, if_neg (by omega)]
    exact g3 k (by omega)
  | succ e ih =>
    intro i h0 hd k hk
    obtain ⟨k, rfl⟩ : ∃ m, k = m + 1 := ⟨k - 1, by omega⟩
    by_cases hlt : i < (r.length : Int)
    · have hw : wrap64 (i - 1) = i - 1 := by unfold wrap64; omega
      have hw1 : wrap64 (i + 1) = i + 1 := by unfold wrap64; omega
      have a0 : 0 ≤ i - 1 := by omega
      have a1 : i - 1 < (r.length : Int) := by omega
      have a2 : 0 ≤ i := by omega
      obtain ⟨b0, b1⟩ := okIdx_rd hok (i - 1) a0 a1
      obtain ⟨c0, c1⟩ := okIdx_rd hok i a2 hlt
      have hadj := ha i h0 hlt
      have hih := ih (i + 1) (by omega) (by omega) k (by omega)
      have d1 : ¬ rd xs (rd r (i - 1)) < rd xs (rd r i) := by rcases hadj with h | h <;> omega
      rw [laws_FnSledges.l2]
      simp only [if_pos hlt, hw, hw1, if_pos a0, if_pos a1, if_pos a2, if_pos b0, if_pos b1, if_pos c0, if_pos c1, if_neg d1, hih]
      by_cases d2 : rd xs (rd r (i - 1)) = rd xs (rd r i)
      · have d3 : ¬ rd r (i - 1) > rd r i := by rcases hadj with h | h <;> omega
        rw [if_pos d2, if_neg d3]
      · rw [if_neg d2]
    · rw [laws_FnSledges.l2, if_neg hlt]
      exact g3 k (by omega)
theorem s_j3 (d xs : List Int) (hd : d.length ≤ 1048576) (hn : xs.length ≤ 7) : ∃ K, ∀ k, K < k → laws_FnSledges.j3 k d xs = some true := by
  obtain ⟨K, r, r1, r2, r3, hr⟩ := heavy_full xs (by omega)
  obtain ⟨l, a, l1, a1, lv, hg⟩ := drawGap_ev d hd
  refine ⟨K + d.length + 400, fun k hk => ?_⟩
  obtain ⟨k, rfl⟩ : ∃ m, k = m + 1 := ⟨k - 1, by omega⟩
  rw [laws_FnSledges.j3, hr k (by omega), Option.bind_some]
  refine s2_loop d xs r hn r1 r2 r3 (fun k hk => ?_) 7 1 (by omega) (by omega) k (by omega)
  obtain ⟨g, hg1, hg2⟩ := gap_nonneg l a l1 (by omega) lv k (by omega)
  have hs := hSum_b a l 0 0 0 lv (by omega) (by omega) (by omega)
  have e : (r.length : Int) = (xs.length : Int) := by omega
  have hs2 : hSum a 0 0 l ≥ 0 := hs.1
  simp only [hg k (by omega), Option.bind_some, if_pos e, hg1, if_pos hg2, sumAt_val l a (by omega) (by omega) k (by omega), hs2, decide_true]

theorem s0_loop (d xs b : List Int) (g : Int) (hn : xs.length ≤ 7) : ∀ (e : Nat) (i : Int) (acc : List Int), 0 ≤ i → (xs.length : Int) - i = e → (acc.length : Int) = i → (∀ v : Int, v ∈ acc ↔ 0 ≤ v ∧ v < i) →
    ∃ al : List Int, al.length = xs.length ∧ (∀ v : Int, v ∈ al ↔ 0 ≤ v ∧ v < (xs.length : Int)) ∧ ∀ k, laws_FnSledges.l0 (k + e) d xs b g acc i = laws_FnSledges.l0 k d xs b g al (xs.length : Int) := by
  intro e
  induction e with
  | zero =>
    intro i acc h0 hd hl hm
    have hi : i = (xs.length : Int) := by omega
    subst hi
    exact ⟨acc, by omega, hm, fun k => rfl⟩
  | succ e ih =>
    intro i acc h0 hd hl hm
    have hlt : i < (xs.length : Int) := by omega
    have hx : acc.length < 17592186044416 := by omega
    obtain ⟨al, a1, a2, a3⟩ := ih (i + 1) (acc ++ [i]) (by omega) (by omega) (by simp; omega) (fun v => by
      rw [List.mem_append, List.mem_singleton, hm v]; omega)
    refine ⟨al, a1, a2, fun k => ?_⟩
    rw [← a3 k, show k + (e + 1) = (k + e) + 1 by omega, laws_FnSledges.l0]
    simp only [if_pos hlt, if_pos hx]
    rw [show wrap64 (i + 1) = i + 1 by unfold wrap64; omega]
theorem s1_loop (d xs b : List Int) (g T : Int) (hT0 : T ≤ 100000) (hcr : ∀ s : Int, 0 ≤ s → s ≤ T → (2 * s - T < g ∧ T - 2 * s < g) → ∀ k, 60100 < k → impl_CanReach.f k xs s = some false) (K : Nat)
    (hend : ∀ k, K < k → (impl_SumAt.f k xs b).bind (fun t260 => ((impl_CanReach.f k xs t260).bind fun t261 => (if t261 = true then (laws_FnSledges.j3 k d xs) else (some false)))) = some true) (hg : 0 ≤ g) :
    ∀ (e : Nat) (s : Int), 0 ≤ s → T + 1 - s ≤ e → ∀ k, K + 60200 + e < k → laws_FnSledges.l1 k d xs b g T s = some true := by
  intro e
  induction e with
  | zero =>
    intro s h0 hd k hk
    obtain ⟨k, rfl⟩ : ∃ m, k = m + 1 := ⟨k - 1, by omega⟩
    rw [laws_FnSledges.l1, if_neg (by omega)]
    exact hend k (by omega)
  | succ e ih =>
    intro s h0 hd k hk
    obtain ⟨k, rfl⟩ : ∃ m, k = m + 1 := ⟨k - 1, by omega⟩
    by_cases hle : s ≤ T
    · have w1 : wrap64 (2 * s) = 2 * s := by unfold wrap64; omega
      have w2 : wrap64 (T - 2 * s) = T - 2 * s := by unfold wrap64; omega
      have w3 : wrap64 (-(T - 2 * s)) = -(T - 2 * s) := by unfold wrap64; omega
      have w4 : wrap64 (s + 1) = s + 1 := by unfold wrap64; omega
      have hih := ih (s + 1) (by omega) (by omega) k (by omega)
      rw [laws_FnSledges.l1]
      simp only [if_pos hle, w1, w2, w3, w4, hih]
      by_cases c : T - 2 * s < 0
      · rw [if_pos c]
        by_cases c2 : -(T - 2 * s) < g
        · rw [if_pos c2, hcr s h0 hle ⟨by omega, by omega⟩ k (by omega)]; rfl
        · rw [if_neg c2]
      · rw [if_neg c]
        by_cases c2 : T - 2 * s < g
        · rw [if_pos c2, hcr s h0 hle ⟨by omega, by omega⟩ k (by omega)]; rfl
        · rw [if_neg c2]
    · rw [laws_FnSledges.l1, if_neg hle]
      exact hend k (by omega)
theorem total_ev (xs al : List Int) (hn : xs.length ≤ 7) (hv : ∀ v ∈ xs, 0 ≤ v ∧ v ≤ 100) (hm : ∀ v : Int, v ∈ al ↔ 0 ≤ v ∧ v < (xs.length : Int)) : hSum al 0 0 xs = xs.sum := by
  have hb : ∀ j, j < xs.length → (2 ^ xs.length - 1) / 2 ^ j % 2 = 1 := fun j hj => by
    have := compl_bit xs.length 0 j hj (Nat.two_pow_pos _)
    rw [Nat.zero_div, Nat.sub_zero] at this
    omega
  rw [hSum_pick al (2 ^ xs.length - 1) 0 xs 0 0 hv (by omega) (by omega) (by omega) (fun j hj => by
    rw [hm]
    exact ⟨fun _ => hb _ (by omega), fun _ => ⟨by omega, by omega⟩⟩), rsum_full xs _ hb]
  omega
theorem sledges_ev (d : List Int) (hd : d.length ≤ 1048576) : ∃ k, laws_FnSledges.f k d = some true := by
  obtain ⟨xs, hn, hv, hdr⟩ := drawBest_ev d hd
  obtain ⟨K3, h3⟩ := s_j3 d xs hd hn
  obtain ⟨w, hw, hp⟩ := weights_ev xs (by omega)
  have hbig : decide ((d.length : Int) > 1048576) = false := decide_eq_false (by omega)
  cases w with
  | false =>
    obtain ⟨g, hg, hg0⟩ := gap_nonneg xs [] hn (by simp) hv 101 (by omega)
    obtain ⟨al, al1, al2, al3⟩ := s0_loop d xs [] g hn xs.length 0 [] (by omega) (by omega) (by simp) (fun v => by simp <;> omega)
    obtain ⟨k, hk⟩ : ∃ k, k = K3 + d.length + 200000 := ⟨_, rfl⟩
    refine ⟨k + 1 + xs.length, ?_⟩
    have hb : impl_BestSplit.f (k + 1 + xs.length) xs = some [] := by
      unfold impl_BestSplit.f
      rw [(hw (k + 1 + xs.length) (by omega)).1]; simp only [Option.bind_some, Bool.false_eq_true, if_false]
    have hg2 : impl_SplitGap.f (k + 1 + xs.length) xs [] = some g := by
      rw [← hg, splitGap_val xs [] (by omega) (by simp) _ (by simp; omega), splitGap_val xs [] (by omega) (by simp) 101 (by simp; omega)]
    unfold laws_FnSledges.f laws_big.f
    simp only [hbig, Option.bind_some, Bool.false_eq_true, if_false, hdr (k + 1 + xs.length) (by omega), hb, hg2]
    rw [al3 (k + 1), laws_FnSledges.l0]
    simp only [Int.lt_irrefl, if_false, sumAt_val xs al (by omega) (by omega) k (by omega), Option.bind_some]
    rw [if_neg (by simp)]
    exact h3 k (by omega)
  | true =>
    obtain ⟨h12, hr⟩ := hp rfl
    have hv1 := ok_mem1 xs hr
    have hv2 := ok_mem xs hr
    obtain ⟨q, hq, hqk⟩ := bestSplit_full xs h12 hv2 (fun k hk => (hw k hk).1)
    have hlp := pick_len q xs.length 0
    obtain ⟨al, al1, al2, al3⟩ := s0_loop d xs (pick q xs.length 0) (vgap xs q) hn xs.length 0 [] (by omega) (by omega) (by simp) (fun v => by simp <;> omega)
    obtain ⟨k, hk⟩ : ∃ k, k = K3 + d.length + 200000 := ⟨_, rfl⟩
    refine ⟨k + 2 + xs.length, ?_⟩
    unfold laws_FnSledges.f laws_big.f
    simp only [hbig, Option.bind_some, Bool.false_eq_true, if_false, hdr (k + 2 + xs.length) (by omega), hqk (k + 2 + xs.length) (by omega), splitGap_pick xs hv2 h12 q (k + 2 + xs.length) (by omega)]
    rw [al3 (k + 2), laws_FnSledges.l0]
    simp only [Int.lt_irrefl, if_false, sumAt_val xs al (by omega) (by omega) (k + 1) (by omega), Option.bind_some, total_ev xs al hn hv2 al2]
    by_cases hz : xs.length = 0
    · rw [hz, pick, if_neg (by simp)]
      exact h3 (k + 1) (by omega)
    · have hfirst := bested_first xs (by omega) q hq
      obtain ⟨n, hnl⟩ : ∃ n, xs.length = n + 1 := ⟨xs.length - 1, by omega⟩
      have hpk : pick q xs.length 0 = 0 :: pick q n (0 + 1) := by rw [hnl]; exact pick_head q n 0 (by rw [hnl] at hfirst; exact hfirst)
      have hlen : ((pick q xs.length 0).length : Int) > 0 := by rw [hpk, List.length_cons]; omega
      have hlen2 : 0 < ((pick q xs.length 0).length : Int) := hlen
      have hasc : laws_ascends.f (k + 1) (pick q xs.length 0) = some true := asc_loop _ (by omega) (pick_sorted q xs.length 0) 12 1 (by omega) (by omega) (k + 1) (by omega)
      have hrd : (rd (pick q xs.length 0) 0 != 0) = false := by rw [hpk]; rfl
      rw [if_pos hlen, hasc, Option.bind_some, if_pos rfl, if_pos hlen2, hrd, laws_FnSledges.j1, if_neg (by decide)]
      have hsb := sum_bound xs hv2
      have hrb := rsum_bound xs q hv2
      have hq2 : q < 2 ^ xs.length := by have := hq.1; exact_mod_cast this
      have hcr : ∀ s : Int, 0 ≤ s → s ≤ xs.sum → ∀ k, 60100 < k → impl_CanReach.f k xs s = some (reachS (fun x => x == 0) xs s) := fun s s0 s1 k hk => by
        unfold impl_CanReach.f
        rw [(hw k (by omega)).1]
        simp only [Option.bind_some, if_true]
        rw [if_pos ⟨h12, hv1, by unfold wrap64; omega⟩]
      refine s1_loop d xs (pick q xs.length 0) (vgap xs q) xs.sum (by omega) (fun s s0 s1 hlt k hk => ?_) (K3 + 60200) (fun k hk => ?_) (by unfold vgap mx; split <;> omega) 701 0 (by omega) (by omega) k (by omega)
      · rw [hcr s s0 s1 k hk]
        cases hc : reachS (fun x => x == 0) xs s with
        | false => rfl
        | true =>
          obtain ⟨m, hm, hm2⟩ := (reachR_iff xs _ s).1 hc
          have h5 : s - rsum xs m = 0 := by simpa using hm2
          have h6 := bested_least xs q hq m hm
          unfold vgap mx at h6 hlt
          split at h6 <;> split at h6 <;> split at hlt <;> omega
      · rw [sumAt_val xs (pick q xs.length 0) (by omega) (by omega) k (by omega), Option.bind_some, hSum_pick0 xs hv2 h12 q, hcr _ hrb.1 (by
          have := rsum_compl xs q (2 ^ xs.length - 1 - q) (fun j hj => compl_bit xs.length q j hj hq2)
          have h7 := rsum_bound xs (2 ^ xs.length - 1 - q) hv2
          omega) k (by omega), (reachR_iff xs _ _).2 ⟨q, hq2, by simp⟩, Option.bind_some, if_pos rfl]
        exact h3 k (by omega)

theorem FnSledges : laws_FnSledges.Stmt := by
  intro d _
  by_cases hbig : (d.length : Int) > 1048576
  · exact ⟨0, by unfold laws_FnSledges.f laws_big.f; simp only [hbig, decide_true, Option.bind_some, if_true]⟩
  exact sledges_ev d (by omega)

end Go.Proofs.Ytegbddilobpeaaa.Pure
