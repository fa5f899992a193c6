/- The program's CanReach returns what the reference's CanReach returns, for every list of weights of at most 2^20 elements (longer ones the statement lets pass) and every sum, and leaves the list as it was. No further condition. -/
import Derived.Test.YtegbddilobpeaaaSFnExactCanReach
namespace Go.Proofs.Ytegbddilobpeaaa.Pure
open Go.RowKit Go.Proofs.Ytegbddilobpeaaa.Q Go.Proofs.YtegbddilobpeaaaW.PrintWords Go.Proofs.YtegbddilobpeaaaW.PrintLast Go.Proofs.YtegbddilobpeaaaW.PrintMore
set_option linter.unusedVariables false
set_option linter.unusedSimpArgs false

theorem ext_getD {α : Type} {d : α} {a b : List α} (h : a.length = b.length) (hj : ∀ j, j < a.length → a.getD j d = b.getD j d) : a = b := by
  apply List.ext_getElem h
  intro j h1 h2
  have := hj j h1
  simpa [List.getD_eq_getElem?_getD, List.getElem?_eq_getElem h1, List.getElem?_eq_getElem h2] using this

theorem getD_set {α : Type} {d : α} (a : List α) (i j : Nat) (v : α) (h : i < a.length) : (a.set i v).getD j d = if i = j then v else a.getD j d := by
  simp only [List.getD_eq_getElem?_getD, List.getElem?_set]
  by_cases e : i = j
  · subst e; simp [h]
  · simp [e]

theorem wrap_small {i : Int} {n : Nat} (h0 : 0 ≤ i) (h : i < (n : Int)) (hn : n ≤ 1048576) : wrap64 (i + 1) = i + 1 := by
  unfold wrap64; omega

theorem toIntS_loop (xs : List Int) (hn : xs.length ≤ 1048576) : ∀ (d k : Nat) (acc : List Int) (i : Int), acc.length = xs.length → 0 ≤ i → (xs.length : Int) - i = d → d < k →
    (∀ j : Nat, (j : Int) < i → acc.getD j 0 = xs.getD j 0) → laws_toIntS.l0 k xs acc i = some xs := by
  intro d
  induction d with
  | zero =>
    intro k acc i hl h0 hd hk hj
    obtain ⟨k, rfl⟩ : ∃ m, k = m + 1 := ⟨k - 1, by omega⟩
    simp only [laws_toIntS.l0]
    rw [if_neg (by omega)]
    exact congrArg some (ext_getD hl (fun j h => hj j (by omega)))
  | succ d ih =>
    intro k acc i hl h0 hd hk hj
    obtain ⟨k, rfl⟩ : ∃ m, k = m + 1 := ⟨k - 1, by omega⟩
    simp only [laws_toIntS.l0]
    rw [if_pos (by omega), if_pos h0, if_pos (by omega), wrap_small (n := xs.length) h0 (by omega) hn]
    refine ih k _ _ (by simpa using hl) (by omega) (by omega) (by omega) ?_
    intro j hj'
    rw [getD_set _ _ _ _ (by omega)]
    by_cases e : i.toNat = j
    · rw [if_pos e]; unfold rd; rw [e]
    · rw [if_neg e]; exact hj j (by omega)

theorem toIntS_ev (xs : List Int) (hn : xs.length ≤ 1048576) (k : Nat) (hk : xs.length < k) : laws_toIntS.f k xs = some xs := by
  unfold laws_toIntS.f
  rw [if_pos (by omega), if_pos (by omega)]
  exact toIntS_loop xs hn xs.length k _ 0 (by simp) (by omega) (by omega) hk (fun j hj => by omega)

theorem eqIntS_loop (xs : List Int) (hn : xs.length ≤ 1048576) : ∀ (d k : Nat) (i : Int), 0 ≤ i → (xs.length : Int) - i = d → d < k → laws_eqIntS.l0 k xs xs i = some true := by
  intro d
  induction d with
  | zero =>
    intro k i h0 hd hk
    obtain ⟨k, rfl⟩ : ∃ m, k = m + 1 := ⟨k - 1, by omega⟩
    simp only [laws_eqIntS.l0]
    rw [if_neg (by omega)]
  | succ d ih =>
    intro k i h0 hd hk
    obtain ⟨k, rfl⟩ : ∃ m, k = m + 1 := ⟨k - 1, by omega⟩
    simp only [laws_eqIntS.l0]
    rw [if_pos (by omega), if_pos h0, if_pos (by omega), if_pos trivial, wrap_small (n := xs.length) h0 (by omega) hn]
    exact ih k _ (by omega) (by omega) (by omega)

theorem eqIntS_ev (xs : List Int) (hn : xs.length ≤ 1048576) (k : Nat) (hk : xs.length < k) : laws_eqIntS.f k xs xs = some true := by
  unfold laws_eqIntS.f
  rw [if_pos rfl]
  exact eqIntS_loop xs hn xs.length k 0 (by omega) (by omega) hk

theorem l1In_eq (a b c : Int) : spec_l1In.f a b c = some (decide (b ≤ a ∧ a ≤ c)) := by
  unfold spec_l1In.f
  by_cases h : a ≥ b
  · rw [if_pos h]; congr 1; have : b ≤ a := h; simp [this]
  · rw [if_neg h]; have : ¬ b ≤ a := h; simp [this]
theorem inRange_eq (a b c : Int) : impl_InRange.f a b c = some (decide (b ≤ a ∧ a ≤ c)) := by
  unfold impl_InRange.f
  by_cases h : b ≤ a
  · rw [if_pos h]; simp [h]
  · rw [if_neg h]; simp [h]

theorem drop_step {α : Type} (d : α) (l : List α) (i : Int) (h0 : 0 ≤ i) (h : i < (l.length : Int)) : l.drop i.toNat = l.getD i.toNat d :: l.drop (i + 1).toNat := by
  have h1 : i.toNat < l.length := by omega
  rw [List.drop_eq_getElem_cons h1, show (i + 1).toNat = i.toNat + 1 by omega]
  congr 1
  simp [List.getD_eq_getElem?_getD, List.getElem?_eq_getElem h1]

theorem weights_loop (xs : List Int) (hn : xs.length ≤ 12) : ∀ (d : Nat) (i : Int), 0 ≤ i → (xs.length : Int) - i = d →
    ∃ b, (∀ k, d < k → impl_allIn.l0 k 1 100 xs (xs.length : Int) i = some b ∧ spec_l29Ok.l0 k xs i = some b) ∧ (b = true → ∀ j : Int, i ≤ j → j < (xs.length : Int) → 1 ≤ rd xs j ∧ rd xs j ≤ 100) := by
  intro d
  induction d with
  | zero =>
    intro i h0 hd
    have hlt : ¬ i < (xs.length : Int) := by omega
    refine ⟨true, fun k hk => ?_, fun _ j h1 h2 => by omega⟩
    obtain ⟨k, rfl⟩ : ∃ m, k = m + 1 := ⟨k - 1, by omega⟩
    have e : (xs.length : Int) ≤ 12 := by omega
    simp only [impl_allIn.l0, spec_l29Ok.l0, if_neg hlt, e, decide_true, and_self]
  | succ d ih =>
    intro i h0 hd
    have hlt : i < (xs.length : Int) := by omega
    obtain ⟨b, hb, hp⟩ := ih (i + 1) (by omega) (by omega)
    have hn' : xs.length ≤ 1048576 := by omega
    by_cases e : 1 ≤ rd xs i ∧ rd xs i ≤ 100
    · refine ⟨b, fun k hk => ?_, fun h j h1 h2 => ?_⟩
      · obtain ⟨k, rfl⟩ : ∃ m, k = m + 1 := ⟨k - 1, by omega⟩
        simp only [impl_allIn.l0, spec_l29Ok.l0, if_pos hlt, if_pos h0, l1In_eq, inRange_eq, e, and_self, decide_true, Option.bind_some, if_true, wrap_small (n := xs.length) h0 hlt hn']
        exact hb k (by omega)
      · by_cases h3 : j = i
        · subst h3; exact e
        · exact hp h j (by omega) h2
    · refine ⟨false, fun k hk => ?_, fun h => by cases h⟩
      obtain ⟨k, rfl⟩ : ∃ m, k = m + 1 := ⟨k - 1, by omega⟩
      simp only [impl_allIn.l0, spec_l29Ok.l0, if_pos hlt, if_pos h0, l1In_eq, inRange_eq, e, decide_false, Option.bind_some, Bool.false_eq_true, if_false, and_self]
theorem l29Ok_big (xs : List Int) (hn : xs.length ≤ 1048576) (hb : 12 < xs.length) : ∀ (d : Nat) (i : Int), 0 ≤ i → (xs.length : Int) - i = d → ∀ k, d < k → spec_l29Ok.l0 k xs i = some false := by
  intro d
  induction d with
  | zero =>
    intro i h0 hd k hk
    obtain ⟨k, rfl⟩ : ∃ m, k = m + 1 := ⟨k - 1, by omega⟩
    have hlt : ¬ i < (xs.length : Int) := by omega
    have e : ¬ (xs.length : Int) ≤ 12 := by omega
    simp only [spec_l29Ok.l0, if_neg hlt, e, decide_false]
  | succ d ih =>
    intro i h0 hd k hk
    obtain ⟨k, rfl⟩ : ∃ m, k = m + 1 := ⟨k - 1, by omega⟩
    have hlt : i < (xs.length : Int) := by omega
    simp only [spec_l29Ok.l0, if_pos hlt, if_pos h0, l1In_eq, Option.bind_some, wrap_small (n := xs.length) h0 hlt hn, ih (i + 1) (by omega) (by omega) k (by omega), ite_self]
theorem weights_ev (xs : List Int) (hn : xs.length ≤ 1048576) : ∃ b, (∀ k, xs.length < k → impl_areWeights.f k xs = some b ∧ spec_l29Ok.f k xs = some b) ∧ (b = true → xs.length ≤ 12 ∧ ∀ j : Int, 0 ≤ j → j < (xs.length : Int) → 1 ≤ rd xs j ∧ rd xs j ≤ 100) := by
  by_cases h : xs.length ≤ 12
  · obtain ⟨b, hb, hp⟩ := weights_loop xs h xs.length 0 (by omega) (by omega)
    refine ⟨b, fun k hk => ?_, fun e => ⟨h, hp e⟩⟩
    obtain ⟨h1, h2⟩ := hb k hk
    unfold impl_areWeights.f
    rw [if_pos (by omega)]
    refine ⟨?_, h2⟩
    unfold impl_allIn.f
    rw [h1]; rfl
  · refine ⟨false, fun k hk => ⟨?_, l29Ok_big xs hn (by omega) xs.length 0 (by omega) (by omega) k hk⟩, fun e => by cases e⟩
    unfold impl_areWeights.f
    rw [if_neg (by omega)]

def msum : List Int → Nat → Int
  | [], _ => 0
  | v :: t, m => ((m % 2 : Nat) : Int) * v + msum t (m / 2)
theorem reachS_iff : ∀ (l : List Int) (S : Int → Bool) (x : Int), reachS S l x = true ↔ ∃ m, m < 2 ^ l.length ∧ S (x - msum l m) = true
  | [], S, x => by
    refine ⟨fun h => ⟨0, by simp, by simpa [msum, reachS] using h⟩, fun ⟨m, _, h⟩ => by simpa [msum, reachS] using h⟩
  | v :: t, S, x => by
    have hp : 2 ^ (v :: t).length = 2 * 2 ^ t.length := by rw [List.length_cons, Nat.pow_succ]; omega
    rw [hp]
    unfold reachS
    rw [reachS_iff t]
    constructor
    · rintro ⟨m, hm, h⟩
      rw [Bool.or_eq_true] at h
      rcases h with h | h
      · refine ⟨2 * m, by omega, ?_⟩
        unfold msum
        rw [show 2 * m % 2 = 0 by omega, show 2 * m / 2 = m by omega, show x - (((0 : Nat) : Int) * v + msum t m) = x - msum t m by simp]; exact h
      · refine ⟨2 * m + 1, by omega, ?_⟩
        unfold msum
        rw [show (2 * m + 1) % 2 = 1 by omega, show (2 * m + 1) / 2 = m by omega, show x - (((1 : Nat) : Int) * v + msum t m) = x - msum t m - v by simp; omega]; exact h
    · rintro ⟨m, hm, h⟩
      refine ⟨m / 2, by omega, ?_⟩
      unfold msum at h
      rw [Bool.or_eq_true]
      rcases Nat.mod_two_eq_zero_or_one m with e | e
      · left; rw [e, show x - (((0 : Nat) : Int) * v + msum t (m / 2)) = x - msum t (m / 2) by simp] at h; exact h
      · right; rw [e, show x - (((1 : Nat) : Int) * v + msum t (m / 2)) = x - msum t (m / 2) - v by simp; omega] at h; exact h
theorem wrapNatR (n : Nat) (h : n ≤ 1073741823) : Go.IntKind.wrap .i64 (n : Int) = (n : Int) := by
  have e1 : (Go.IntKind.i64).bits = 64 := rfl
  have e2 : (Go.IntKind.i64).signed = true := rfl
  unfold Go.IntKind.wrap
  simp only [e1, e2, Bool.true_and, decide_eq_true_eq]
  have e3 : (2 : Int) ^ 64 = 18446744073709551616 := by decide
  have e4 : (2 : Int) ^ (64 - 1) = 9223372036854775808 := by decide
  rw [e3, e4, if_neg (by omega)]; omega
theorem bits_one (x : Int) (h0 : 0 ≤ x) (h1 : x < 9223372036854775808) : Go.bits .and .i64 x 1 = x % 2 := by
  obtain ⟨a, rfl⟩ : ∃ a : Nat, x = a := ⟨x.toNat, by omega⟩
  have h2 : (BitVec.ofInt 64 (a : Int)).toNat = a := by
    rw [BitVec.ofInt_natCast, BitVec.toNat_ofNat]; exact Nat.mod_eq_of_lt (by omega)
  show IntKind.i64.wrap ((BitVec.ofInt 64 (a : Int) &&& BitVec.ofInt 64 1).toNat : Int) = _
  rw [BitVec.toNat_and, h2, show (BitVec.ofInt 64 1).toNat = 1 from rfl, Nat.and_one_is_mod, wrapNatR (a % 2) (by omega)]
  omega
theorem bits_div (m d : Nat) (h : m < 4096) (hd : d ≤ 64) : Go.bits .and .i64 (shr .i64 (m : Int) (d : Int)) 1 = ((m / 2 ^ d % 2 : Nat) : Int) := by
  have hs : shr .i64 (m : Int) (d : Int) = ((m / 2 ^ d : Nat) : Int) := by
    unfold shr; rw [Nat.min_eq_left (by simp only [IntKind.bits]; omega), Int.toNat_natCast]; simp
  have hq := Nat.div_le_self m (2 ^ d)
  rw [hs]
  generalize m / 2 ^ d = q at hq ⊢
  rw [bits_one _ (by omega) (by omega)]; omega
theorem shr_ev (x i : Int) (h0 : 0 ≤ i) (h1 : i ≤ 64) : shr .i64 x i = x / 2 ^ i.toNat := by
  unfold shr; rw [Nat.min_eq_left (by simp only [IntKind.bits]; omega)]
theorem msum_nonneg : ∀ (l : List Int), (∀ v ∈ l, 1 ≤ v ∧ v ≤ 100) → ∀ m, 0 ≤ msum l m ∧ msum l m ≤ 100 * l.length
  | [], _, _ => by simp [msum]
  | v :: t, h, m => by
    have h1 := msum_nonneg t (fun u hu => h u (List.mem_cons_of_mem _ hu)) (m / 2)
    have h2 := h v List.mem_cons_self
    unfold msum
    rw [List.length_cons]
    rcases Nat.mod_two_eq_zero_or_one m with e | e
    · rw [e, show ((0 : Nat) : Int) * v = 0 by simp]; omega
    · rw [e, show ((1 : Nat) : Int) * v = v by simp]; omega

theorem reach_in (xs : List Int) (hn : xs.length ≤ 12) (hv : ∀ v ∈ xs, 0 ≤ v ∧ v ≤ 100) (sum : Int) (m : Nat) (hm : m < 4096) : ∀ (d : Nat) (i n : Int), 0 ≤ i → (xs.length : Int) - i = d → 0 ≤ n → n ≤ 100 * i → ∀ k, spec_CanReach.l1 (k + d) xs sum (m : Int) n i = spec_CanReach.l1 k xs sum (m : Int) (n + msum (xs.drop i.toNat) (m / 2 ^ i.toNat)) (xs.length : Int) := by
  intro d
  induction d with
  | zero => intro i n h0 hd hn0 hn1 k; rw [show i = (xs.length : Int) by omega, List.drop_eq_nil_of_le (by omega), msum, Int.add_zero, Nat.add_zero]
  | succ d ih =>
    intro i n h0 hd hn0 hn1 k
    have hlt : i < (xs.length : Int) := by omega
    have e2 : Go.bits .and .i64 (shr .i64 (m : Int) i) 1 = ((m / 2 ^ i.toNat % 2 : Nat) : Int) := by
      have := bits_div m i.toNat hm (by omega)
      rw [Int.toNat_of_nonneg h0] at this; exact this
    have hr : 0 ≤ rd xs i ∧ rd xs i ≤ 100 := hv _ (by
      unfold rd
      have h2 : i.toNat < xs.length := by omega
      simp [List.getD_eq_getElem?_getD, List.getElem?_eq_getElem h2])
    have e3 : msum (xs.drop i.toNat) (m / 2 ^ i.toNat) = ((m / 2 ^ i.toNat % 2 : Nat) : Int) * rd xs i + msum (xs.drop (i + 1).toNat) (m / 2 ^ (i + 1).toNat) := by
      rw [drop_step 0 xs i h0 hlt, show xs.getD i.toNat 0 = rd xs i from rfl]
      simp only [msum]
      rw [Nat.div_div_eq_div_mul, ← Nat.pow_succ, show i.toNat.succ = (i + 1).toNat by omega]
    rw [show k + (d + 1) = (k + d) + 1 by omega, e3]
    simp only [spec_CanReach.l1, if_pos hlt, if_pos h0, e2, wrap_small (n := xs.length) h0 hlt (by omega)]
    rcases Nat.mod_two_eq_zero_or_one (m / 2 ^ i.toNat) with e | e
    · rw [e, show ((0 : Nat) : Int) * rd xs i = 0 by simp, show wrap64 (n + wrap64 0) = n by unfold wrap64; omega, ih (i + 1) n (by omega) (by omega) hn0 (by omega)]; congr 1; omega
    · rw [e, show ((1 : Nat) : Int) * rd xs i = rd xs i by simp, show wrap64 (n + wrap64 (rd xs i)) = n + rd xs i by unfold wrap64; omega, ih (i + 1) (n + rd xs i) (by omega) (by omega) (by omega) (by omega)]; congr 1; omega
theorem shl_ev : ∀ n : Nat, n < 13 → shl .i64 1 (n : Int) = ((2 ^ n : Nat) : Int) := by decide
theorem reach_out (xs : List Int) (hn : xs.length ≤ 12) (hv : ∀ v ∈ xs, 0 ≤ v ∧ v ≤ 100) (sum : Int) (P : Nat) (hP : 2 ^ xs.length = P) (h4096 : P ≤ 4096) : ∀ (d m : Nat), P - m = d → m ≤ P → ∃ b, (b = true ↔ ∃ p, m ≤ p ∧ p < P ∧ msum xs p = sum) ∧ ∀ k, 14 * d + 2 < k → spec_CanReach.l0 k xs sum (m : Int) = some b := by
  intro d
  induction d with
  | zero =>
    intro m hd hm
    refine ⟨false, ⟨fun h => (by cases h), fun ⟨p, p1, p2, _⟩ => (by omega)⟩, fun k hk => ?_⟩
    obtain ⟨k, rfl⟩ : ∃ j, k = j + 1 := ⟨k - 1, by omega⟩
    simp only [spec_CanReach.l0, shl_ev xs.length (by omega), hP]
    rw [if_neg (by omega)]
  | succ d ih =>
    intro m hd hm
    obtain ⟨b, hb, hk⟩ := ih (m + 1) (by omega) (by omega)
    by_cases c : msum xs m = sum
    · refine ⟨true, ⟨fun _ => ⟨m, by omega, by omega, c⟩, fun _ => rfl⟩, fun k hk2 => ?_⟩
      obtain ⟨k, rfl⟩ : ∃ j, k = j + 1 + xs.length + 1 := ⟨k - 2 - xs.length, by omega⟩
      simp only [spec_CanReach.l0, shl_ev xs.length (by omega), hP]
      rw [if_pos (by omega), reach_in xs hn hv sum m (by omega) xs.length 0 0 (by omega) (by omega) (by omega) (by omega)]
      simp only [spec_CanReach.l1, Int.lt_irrefl, if_false, Int.toNat_zero, List.drop_zero, Nat.pow_zero, Nat.div_one, Int.zero_add, c, if_true]
    · refine ⟨b, ⟨fun h => ?_, fun h => ?_⟩, fun k hk2 => ?_⟩
      · obtain ⟨p, p1, p2, p3⟩ := hb.1 h
        exact ⟨p, by omega, p2, p3⟩
      · obtain ⟨p, p1, p2, p3⟩ := h
        refine hb.2 ⟨p, ?_, p2, p3⟩
        by_cases e : p = m
        · rw [e] at p3; exact absurd p3 c
        · exact Nat.lt_of_le_of_ne p1 (fun h => e h.symm)
      · clear hb
        obtain ⟨k, rfl⟩ : ∃ j, k = j + 1 + xs.length + 1 := ⟨k - 2 - xs.length, by omega⟩
        simp only [spec_CanReach.l0, shl_ev xs.length (by omega), hP]
        rw [if_pos (by omega), reach_in xs hn hv sum m (by omega) xs.length 0 0 (by omega) (by omega) (by omega) (by omega)]
        simp only [spec_CanReach.l1, Int.lt_irrefl, if_false, Int.toNat_zero, List.drop_zero, Nat.pow_zero, Nat.div_one, Int.zero_add, if_neg c]
        rw [show wrap64 ((m : Int) + 1) = ((m + 1 : Nat) : Int) by unfold wrap64; omega]
        exact hk k (by omega)
theorem ok_mem (xs : List Int) (h : ∀ j : Int, 0 ≤ j → j < (xs.length : Int) → 1 ≤ rd xs j ∧ rd xs j ≤ 100) : ∀ v ∈ xs, 0 ≤ v ∧ v ≤ 100 := by
  intro v hv
  obtain ⟨n, hn, rfl⟩ := List.mem_iff_getElem.mp hv
  have := h n (by omega) (by omega)
  unfold rd at this
  simp [List.getD_eq_getElem?_getD, List.getElem?_eq_getElem hn] at this
  omega
theorem ok_mem1 (xs : List Int) (h : ∀ j : Int, 0 ≤ j → j < (xs.length : Int) → 1 ≤ rd xs j ∧ rd xs j ≤ 100) : ∀ v ∈ xs, 1 ≤ v ∧ v ≤ 100 := by
  intro v hv
  obtain ⟨n, hn, rfl⟩ := List.mem_iff_getElem.mp hv
  have := h n (by omega) (by omega)
  unfold rd at this
  simp [List.getD_eq_getElem?_getD, List.getElem?_eq_getElem hn] at this
  omega
theorem reach_ev (xs : List Int) (hn : xs.length ≤ 1048576) (sum : Int) (hs : wrap64 sum = sum) : ∃ b, ∀ k, 60000 + xs.length < k → impl_CanReach.f k xs sum = some b ∧ spec_CanReach.f k xs sum = some b := by
  obtain ⟨w, hw, hp⟩ := weights_ev xs hn
  cases w with
  | false =>
    refine ⟨false, fun k hk => ?_⟩
    obtain ⟨k, rfl⟩ : ∃ m, k = m + 1 := ⟨k - 1, by omega⟩
    obtain ⟨h1, h2⟩ := hw (k + 1) (by omega)
    unfold impl_CanReach.f spec_CanReach.f
    simp only [h1, h2, Option.bind_some, Bool.false_eq_true, if_false, and_self]
  | true =>
    obtain ⟨h12, hr⟩ := hp rfl
    have hv := ok_mem xs hr
    have h4096 : 2 ^ xs.length ≤ 4096 := Nat.pow_le_pow_right (n := 2) (by omega) h12
    obtain ⟨P, hP⟩ : ∃ P, 2 ^ xs.length = P := ⟨_, rfl⟩
    rw [hP] at h4096
    obtain ⟨b, hb, hk⟩ := reach_out xs h12 hv sum P hP h4096 P 0 (by omega) (by omega)
    have e : reachS (fun x => x == 0) xs sum = b := by
      rw [Bool.eq_iff_iff, reachS_iff, hb, hP]
      constructor
      · rintro ⟨m, h1, h2⟩
        have h3 : sum - msum xs m = 0 := by simpa using h2
        exact ⟨m, by omega, h1, by omega⟩
      · rintro ⟨m, _, h1, h2⟩
        refine ⟨m, h1, ?_⟩
        rw [h2]; simp
    refine ⟨b, fun k hk2 => ?_⟩
    obtain ⟨h1, h2⟩ := hw k (by omega)
    unfold impl_CanReach.f spec_CanReach.f
    simp only [h1, h2, Option.bind_some, if_true, e]
    rw [if_pos ⟨h12, ok_mem1 xs hr, hs⟩]
    exact ⟨rfl, hk k (by omega)⟩

theorem wrap_of_wf (x : Int) (h : (Lit.int .i64 x).wf = true) : wrap64 x = x := by
  simp only [Lit.wf, IntKind.min, IntKind.max, IntKind.signed, IntKind.bits, if_true, decide_eq_true_eq, Bool.and_eq_true] at h
  unfold wrap64; omega
theorem FnExactCanReach : laws_FnExactCanReach.Stmt := by
  intro xs a1 _ ha
  by_cases hbig : (xs.length : Int) > 1048576
  · exact ⟨0, by unfold laws_FnExactCanReach.f; rw [if_pos hbig]⟩
  have hn : xs.length ≤ 1048576 := by omega
  obtain ⟨b, hb⟩ := reach_ev xs hn a1 (wrap_of_wf a1 ha)
  obtain ⟨k, hk⟩ : ∃ k, k = 60001 + xs.length := ⟨_, rfl⟩
  obtain ⟨h1, h2⟩ := hb k (by omega)
  refine ⟨k, ?_⟩
  unfold laws_FnExactCanReach.f
  rw [if_neg hbig]
  simp only [toIntS_ev xs hn k (by omega), eqIntS_ev xs hn k (by omega), h1, h2, Option.bind_some, bne_self_eq_false, Bool.false_eq_true, if_false, if_true]

end Go.Proofs.Ytegbddilobpeaaa.Pure
