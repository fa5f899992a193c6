/- For every text of at most 2^20 bytes from which numbers, signs and a flash are drawn (longer ones the statement lets pass): a number's sign is read as that number exactly when it lies in 0..9999, no sign is readable once a flash of it is turned, a sign that is read is the sign of what it is read as, turning a flash twice changes nothing, and a sign's time and its long flashes keep their bounds. No further condition. -/
import Derived.Test.YtegbddilobpeaaaSFnSigns
namespace Go.Proofs.Ytegbddilobpeaaa.Pure
open Go.RowKit Go.Proofs.Ytegbddilobpeaaa.Q Go.Proofs.YtegbddilobpeaaaW.PrintWords Go.Proofs.YtegbddilobpeaaaW.PrintLast Go.Proofs.YtegbddilobpeaaaW.PrintMore
set_option linter.unusedVariables false
set_option linter.unusedSimpArgs false

theorem ext_getD {α : Type} {d : α} {a b : List α} (h : a.length = b.length) (hj : ∀ j, j < a.length → a.getD j d = b.getD j d) : a = b := by
  apply List.ext_getElem h
  intro j h1 h2
  have := hj j h1
  simpa [List.getD_eq_getElem?_getD, List.getElem?_eq_getElem h1, List.getElem?_eq_getElem h2] using this

theorem getD_set {α : Type} {d : α} (a : List α) (i j : Nat) (v : α) (h : i < a.length) : (a.set i v).getD j d = if i = j then v else a.getD j d := by
  simp only [List.getD_eq_getElem?_getD, List.getElem?_set]
  by_cases e : i = j
  · subst e; simp [h]
  · simp [e]

theorem wrap_small {i : Int} {n : Nat} (h0 : 0 ≤ i) (h : i < (n : Int)) (hn : n ≤ 1048576) : wrap64 (i + 1) = i + 1 := by
  unfold wrap64; omega

theorem drop_step {α : Type} (d : α) (l : List α) (i : Int) (h0 : 0 ≤ i) (h : i < (l.length : Int)) : l.drop i.toNat = l.getD i.toNat d :: l.drop (i + 1).toNat := by
  have h1 : i.toNat < l.length := by omega
  rw [List.drop_eq_getElem_cons h1, show (i + 1).toNat = i.toNat + 1 by omega]
  congr 1
  simp [List.getD_eq_getElem?_getD, List.getElem?_eq_getElem h1]

theorem l1In_eq (a b c : Int) : spec_l1In.f a b c = some (decide (b ≤ a ∧ a ≤ c)) := by
  unfold spec_l1In.f
  by_cases h : a ≥ b
  · rw [if_pos h]; congr 1; have : b ≤ a := h; simp [this]
  · rw [if_neg h]; have : ¬ b ≤ a := h; simp [this]
theorem inRange_eq (a b c : Int) : impl_InRange.f a b c = some (decide (b ≤ a ∧ a ≤ c)) := by
  unfold impl_InRange.f
  by_cases h : b ≤ a
  · rw [if_pos h]; simp [h]
  · rw [if_neg h]; simp [h]

def cnt2 : Int → List Int → Int
  | c, [] => c
  | c, v :: vs => if v = 2 then cnt2 (wrap64 (c + 1)) vs else cnt2 c vs
theorem count_loop (l : List Int) (hn : l.length ≤ 1048576) : ∀ (d k : Nat) (c i : Int), 0 ≤ i → (l.length : Int) - i = d → d < k →
    spec_CountLong.l0 k l c i = some (cnt2 c (l.drop i.toNat)) ∧ impl_CountLong.l0 k c l (l.length : Int) i = some (cnt2 c (l.drop i.toNat)) := by
  intro d
  induction d with
  | zero =>
    intro k c i h0 hd hk
    obtain ⟨k, rfl⟩ : ∃ m, k = m + 1 := ⟨k - 1, by omega⟩
    simp only [spec_CountLong.l0, impl_CountLong.l0]
    rw [if_neg (by omega), if_neg (by omega), List.drop_eq_nil_of_le (by omega)]
    exact ⟨rfl, rfl⟩
  | succ d ih =>
    intro k c i h0 hd hk
    obtain ⟨k, rfl⟩ : ∃ m, k = m + 1 := ⟨k - 1, by omega⟩
    have hlt : i < (l.length : Int) := by omega
    simp only [spec_CountLong.l0, impl_CountLong.l0, if_pos hlt, if_pos h0, wrap_small (n := l.length) h0 hlt hn]
    rw [drop_step 0 l i h0 hlt, show l.getD i.toNat 0 = rd l i from rfl]
    unfold cnt2
    by_cases e : rd l i = 2
    · simp only [if_pos e]; exact ih k _ _ (by omega) (by omega) (by omega)
    · simp only [if_neg e]; exact ih k _ _ (by omega) (by omega) (by omega)
theorem count_ev (l : List Int) (hn : l.length ≤ 1048576) (k : Nat) (hk : l.length < k) : spec_CountLong.f k l = some (cnt2 0 l) ∧ impl_CountLong.f k l = some (cnt2 0 l) := by
  have := count_loop l hn l.length k 0 0 (by omega) (by omega) hk
  rw [Int.toNat_zero, List.drop_zero] at this
  exact this

theorem half_eq {n : Int} (h0 : 0 ≤ n) (h : n ≤ 4611686018427387904) : wrap64 (Int.tdiv n 2) = n / 2 := by
  rw [Int.tdiv_eq_ediv_of_nonneg h0]; unfold wrap64; omega

theorem sign_loop : ∀ (d : Nat) (n : Int) (acc : List Int), 0 ≤ n → n < 2 ^ d → n ≤ 10000 → acc.length + d ≤ 1000 →
    ∃ r, (r.length ≤ acc.length + d + 1 ∨ (d = 0 ∧ r.length ≤ acc.length + 2)) ∧ ∀ k, acc.length + 2 * d + 3 < k → impl_SignOf.l0 k n acc = some r ∧ spec_SignOf.l0 k (n / 2) ([wrap64 (1 + Int.tmod n 2)] ++ acc) = some r := by
  intro d
  induction d with
  | zero =>
    intro n acc h0 h1 h2 hl
    obtain rfl : n = 0 := by simp at h1; omega
    refine ⟨([wrap64 (1 + Int.tmod 0 2)] ++ acc) ++ [wrap64 (1 + Int.tmod (cnt2 0 ([wrap64 (1 + Int.tmod 0 2)] ++ acc)) 2)], Or.inr ⟨rfl, by simp⟩, fun k hk => ?_⟩
    obtain ⟨k, rfl⟩ : ∃ m, k = m + 1 := ⟨k - 1, by omega⟩
    have hc := count_ev ([wrap64 (1 + Int.tmod 0 2)] ++ acc) (by simp <;> omega) k (by simp <;> omega)
    have hx : ([wrap64 (1 + Int.tmod 0 2)] ++ acc).length < 17592186044416 := by simp; omega
    have hx2 : ([wrap64 (1 + Int.tmod 0 2)] : List Int).length + acc.length < 17592186044416 := by simp; omega
    have hg : ¬ ((0 : Int) / 2 > 0) := by omega
    have hz : (0 : Int) / 2 = 0 := by omega
    constructor
    · simp only [impl_SignOf.l0, half_eq (Int.le_refl 0) (by omega), Int.add_comm (Int.tmod 0 2) 1, Option.bind_some, if_pos hx2, if_pos hz, hc.2, if_pos hx]
      rw [Int.add_comm (Int.tmod _ 2) 1]
    · simp only [spec_SignOf.l0, if_neg hg, hc.1, Option.bind_some, if_pos hx]
  | succ d ih =>
    intro n acc h0 h1 h2 hl
    have hx : ([wrap64 (1 + Int.tmod n 2)] ++ acc).length < 17592186044416 := by simp; omega
    have hx2 : ([wrap64 (1 + Int.tmod n 2)] : List Int).length + acc.length < 17592186044416 := by simp; omega
    by_cases hz : n / 2 = 0
    · have hg : ¬ (n / 2 > 0) := by omega
      refine ⟨([wrap64 (1 + Int.tmod n 2)] ++ acc) ++ [wrap64 (1 + Int.tmod (cnt2 0 ([wrap64 (1 + Int.tmod n 2)] ++ acc)) 2)], Or.inl (by simp <;> omega), fun k hk => ?_⟩
      obtain ⟨k, rfl⟩ : ∃ m, k = m + 1 := ⟨k - 1, by omega⟩
      have hc := count_ev ([wrap64 (1 + Int.tmod n 2)] ++ acc) (by simp <;> omega) k (by simp <;> omega)
      constructor
      · simp only [impl_SignOf.l0, half_eq h0 (by omega), Int.add_comm (Int.tmod n 2) 1, Option.bind_some, if_pos hx2, if_pos hz, hc.2, if_pos hx]
        rw [Int.add_comm (Int.tmod (cnt2 _ _) 2) 1]
      · simp only [spec_SignOf.l0, if_neg hg, hc.1, Option.bind_some, if_pos hx]
    · have hg : n / 2 > 0 := by omega
      have h3 : n / 2 < 2 ^ d := by rw [Int.pow_succ] at h1; omega
      obtain ⟨r, hrl, hk2⟩ := ih (n / 2) ([wrap64 (1 + Int.tmod n 2)] ++ acc) (by omega) h3 (by omega) (by simp <;> omega)
      have hx3 : ([wrap64 (1 + Int.tmod (n / 2) 2)] : List Int).length + ([wrap64 (1 + Int.tmod n 2)] ++ acc).length < 17592186044416 := by simp; omega
      have hrl2 : r.length ≤ acc.length + (d + 1) + 1 := by
        rcases hrl with h | ⟨h, _⟩
        · simp at h; omega
        · subst h; simp at h3; omega
      refine ⟨r, Or.inl hrl2, fun k hk => ?_⟩
      obtain ⟨k, rfl⟩ : ∃ m, k = m + 1 := ⟨k - 1, by omega⟩
      obtain ⟨hr, hs⟩ := hk2 k (by simp <;> omega)
      constructor
      · simp only [impl_SignOf.l0, half_eq h0 (by omega), Int.add_comm (Int.tmod n 2) 1, Option.bind_some, if_pos hx2, if_neg hz]
        exact hr
      · simp only [spec_SignOf.l0, half_eq (show 0 ≤ n / 2 by omega) (by omega), Option.bind_some, if_pos hx3, if_pos hg]
        exact hs

theorem signOf_ev (n : Int) : ∃ r, r.length ≤ 15 ∧ ∀ k, 40 < k → spec_SignOf.f k n = some r ∧ impl_SignOf.f k n = some r := by
  by_cases hin : 0 ≤ n ∧ n ≤ 9999
  · obtain ⟨r, hl, hk⟩ := sign_loop 14 n [] hin.1 (by omega) (by omega) (by simp)
    have hl2 : r.length ≤ 15 := by
      rcases hl with h | ⟨h, _⟩
      · simpa using h
      · omega
    refine ⟨r, hl2, fun k h => ?_⟩
    obtain ⟨hr, hs⟩ := hk k (by simp <;> omega)
    unfold spec_SignOf.f impl_SignOf.f
    simp only [l1In_eq, inRange_eq, hin, and_self, decide_true, Option.bind_some, if_true, half_eq hin.1 (by omega)]
    exact ⟨by simpa using hs, hr⟩
  · refine ⟨[], by simp, fun k hk => ?_⟩
    unfold spec_SignOf.f impl_SignOf.f
    simp only [l1In_eq, inRange_eq, hin, decide_false, Option.bind_some, Bool.false_eq_true, if_false]
    exact ⟨trivial, trivial⟩

theorem wrapNat (n : Nat) (h : n ≤ 1073741823) : Go.IntKind.wrap .i64 (n : Int) = (n : Int) := by
  have e1 : (Go.IntKind.i64).bits = 64 := rfl
  have e2 : (Go.IntKind.i64).signed = true := rfl
  unfold Go.IntKind.wrap
  simp only [e1, e2, Bool.true_and, decide_eq_true_eq]
  have e3 : (2 : Int) ^ 64 = 18446744073709551616 := by decide
  have e4 : (2 : Int) ^ (64 - 1) = 9223372036854775808 := by decide
  rw [e3, e4, if_neg (by omega)]; omega
theorem and255 (x : Int) : 0 ≤ Go.bits .and .i64 x 255 ∧ Go.bits .and .i64 x 255 ≤ 255 := by
  have h : (BitVec.ofInt 64 x &&& BitVec.ofInt 64 255).toNat ≤ 255 := by
    rw [BitVec.toNat_and]; exact Nat.le_trans Nat.and_le_right (by decide)
  show 0 ≤ Go.IntKind.wrap .i64 ((BitVec.ofInt 64 x &&& BitVec.ofInt 64 255).toNat : Int) ∧ Go.IntKind.wrap .i64 ((BitVec.ofInt 64 x &&& BitVec.ofInt 64 255).toNat : Int) ≤ 255
  generalize (BitVec.ofInt 64 x &&& BitVec.ofInt 64 255).toNat = n at h ⊢
  rw [wrapNat n (by omega)]; omega
/-- A draw's state: its place is none below nought. -/
theorem byte_ev (d : List Int) (p s : Int) (hd : d.length ≤ 1048576) (hp : 0 ≤ p) (hp2 : p ≤ d.length) : ∃ v p' s', spec_l1Byte.f d p s = some (v, p', s') ∧ (0 ≤ v ∧ v ≤ 255) ∧ 0 ≤ p' ∧ p' ≤ d.length := by
  unfold spec_l1Byte.f
  by_cases h : p < (d.length : Int)
  · rw [if_pos h, if_pos hp]
    exact ⟨_, _, _, rfl, and255 _, by unfold wrap64; omega, by unfold wrap64; omega⟩
  · rw [if_neg h]
    exact ⟨_, _, _, rfl, and255 _, hp, hp2⟩
theorem tmod_range (x n : Int) (hx : 0 ≤ x) (hn : 0 < n) : 0 ≤ Int.tmod x n ∧ Int.tmod x n < n := by
  rw [Int.tmod_eq_emod_of_nonneg hx]
  exact ⟨Int.emod_nonneg _ (by omega), Int.emod_lt_of_pos _ hn⟩
theorem below_ev (d : List Int) (p s n : Int) (hd : d.length ≤ 1048576) (hp : 0 ≤ p) (hp2 : p ≤ d.length) : ∃ v p' s', spec_l1Below.f d p s n = some (v, p', s') ∧ (0 ≤ v ∧ (0 < n → v < n) ∧ (n ≤ 0 → v = 0)) ∧ 0 ≤ p' ∧ p' ≤ d.length := by
  unfold spec_l1Below.f
  by_cases h : n ≤ 0
  · rw [if_pos h]; exact ⟨0, p, s, rfl, ⟨by omega, by omega, by omega⟩, hp, hp2⟩
  · have hz : ¬ n = 0 := by omega
    rw [if_neg h]
    by_cases h2 : n ≤ 256
    · rw [if_pos h2]
      obtain ⟨v, p', s', hb, hv, hp', hp2'⟩ := byte_ev d p s hd hp hp2
      rw [hb]; simp only [Option.bind_some, if_neg hz]
      have := tmod_range v n hv.1 (by omega)
      exact ⟨_, _, _, rfl, ⟨this.1, fun _ => this.2, by omega⟩, hp', hp2'⟩
    · rw [if_neg h2]
      obtain ⟨v, p', s', hb, hv, hp', hp2'⟩ := byte_ev d p s hd hp hp2
      rw [hb]; simp only [Option.bind_some]
      obtain ⟨v2, p2, s2, hb2, hv2, hq, hq2⟩ := byte_ev d p' s' hd hp' hp2'
      rw [hb2]; simp only [Option.bind_some]
      obtain ⟨v3, p3, s3, hb3, hv3, hr, hr2⟩ := byte_ev d p2 s2 hd hq hq2
      rw [hb3]; simp only [Option.bind_some, if_neg hz]
      have := tmod_range (wrap64 (wrap64 (wrap64 (v * 65536) + wrap64 (v2 * 256)) + v3)) n (by unfold wrap64; omega) (by omega)
      exact ⟨_, _, _, rfl, ⟨this.1, fun _ => this.2, by omega⟩, hr, hr2⟩
theorem int_ev (d : List Int) (p s : Int) (l : List Int) (hl : 0 < l.length) (hd : d.length ≤ 1048576) (hp : 0 ≤ p) (hp2 : p ≤ d.length) : ∃ v p' s', spec_l1Int.f d p s l = some (v, p', s') ∧ v ∈ l ∧ 0 ≤ p' ∧ p' ≤ d.length := by
  unfold spec_l1Int.f
  obtain ⟨v, p', s', hb, hv, hp', hp2'⟩ := below_ev d p s (l.length : Int) hd hp hp2
  have h2 := hv.2.1 (by omega)
  rw [hb]; simp only [Option.bind_some, if_pos hv.1, if_pos h2]
  refine ⟨_, _, _, rfl, ?_, hp', hp2'⟩
  have h3 : v.toNat < l.length := by omega
  unfold rd
  simp [List.getD_eq_getElem?_getD, List.getElem?_eq_getElem h3]
theorem new_loop (d : List Int) (hd : d.length ≤ 1048576) : ∀ (e : Nat) (s i : Int), 0 ≤ i → (d.length : Int) - i ≤ e → ∃ s', ∀ k, e < k → spec_l1New.l0 k d s i = some (d, 0, s') := by
  intro e
  induction e with
  | zero =>
    intro s i h0 he
    refine ⟨s, fun k hk => ?_⟩
    obtain ⟨k, rfl⟩ : ∃ m, k = m + 1 := ⟨k - 1, by omega⟩
    simp only [spec_l1New.l0]
    rw [if_neg (by omega)]
  | succ e ih =>
    intro s i h0 he
    by_cases h : i < (d.length : Int) ∧ i < 4000
    · obtain ⟨s', hs⟩ := ih (Go.bits .and .i64 (wrap64 ((wrap64 ((wrap64 (s * 137)) + (wrap64 (rd d i)))) + 11)) 1073741823) (i + 1) (by omega) (by omega)
      refine ⟨s', fun k hk => ?_⟩
      obtain ⟨k, rfl⟩ : ∃ m, k = m + 1 := ⟨k - 1, by omega⟩
      simp only [spec_l1New.l0, if_pos h.1, if_pos h.2, if_pos h0, wrap_small (n := d.length) h0 h.1 hd]
      exact hs k (by omega)
    · refine ⟨s, fun k hk => ?_⟩
      obtain ⟨k, rfl⟩ : ∃ m, k = m + 1 := ⟨k - 1, by omega⟩
      simp only [spec_l1New.l0]
      by_cases h1 : i < (d.length : Int)
      · rw [if_pos h1, if_neg (fun h2 => h ⟨h1, h2⟩)]
      · rw [if_neg h1]
theorem new_ev (d : List Int) (hd : d.length ≤ 1048576) : ∃ s, ∀ k, d.length < k → spec_l1New.f k d = some (d, 0, s) :=
  new_loop d hd d.length _ 0 (by omega) (by omega)

def valS : Int → List Int → Int
  | x, [] => x
  | x, f :: fs => valS (2 * x + f - 1) fs
def flashes (l : List Int) : Prop := ∀ f ∈ l, f = 1 ∨ f = 2
def c2 : List Int → Int
  | [] => 0
  | v :: vs => (if v = 2 then 1 else 0) + c2 vs
theorem c2_bound : ∀ l : List Int, 0 ≤ c2 l ∧ c2 l ≤ l.length
  | [] => by simp [c2]
  | v :: vs => by
    have := c2_bound vs
    simp only [c2, List.length_cons]; split <;> omega
theorem cnt2_eq : ∀ (l : List Int) (c : Int), 0 ≤ c → c + l.length ≤ 1000000000 → cnt2 c l = c + c2 l
  | [], c, _, _ => by simp [cnt2, c2]
  | v :: vs, c, h0, h => by
    simp only [List.length_cons] at h
    unfold cnt2 c2
    by_cases e : v = 2
    · rw [if_pos e, if_pos e, show wrap64 (c + 1) = c + 1 by unfold wrap64; omega, cnt2_eq vs (c + 1) (by omega) (by omega)]; omega
    · rw [if_neg e, if_neg e, cnt2_eq vs c h0 (by omega)]; omega
theorem c2_append (a b : List Int) : c2 (a ++ b) = c2 a + c2 b := by
  induction a with
  | nil => simp [c2]
  | cons v vs ih => simp only [List.cons_append, c2, ih]; omega
theorem c2_set : ∀ (l : List Int) (i : Nat) (v : Int), i < l.length → (l.getD i 0 = 1 ∧ v = 2 → c2 (l.set i v) = c2 l + 1) ∧ (l.getD i 0 = 2 ∧ v = 1 → c2 (l.set i v) = c2 l - 1)
  | [], i, v, h => by simp at h
  | x :: xs, 0, v, _ => by
    simp only [List.getD_cons_zero, List.set_cons_zero, c2]
    constructor <;> (rintro ⟨h1, h2⟩; subst h1; subst h2; simp; try omega)
  | x :: xs, i + 1, v, h => by
    have := c2_set xs i v (by simpa using h)
    simp only [List.getD_cons_succ, List.set_cons_succ, c2]
    constructor
    · intro hh; rw [this.1 hh]; omega
    · intro hh; rw [this.2 hh]; omega
def isSg (l : List Int) : Prop := ∃ ini, l = ini ++ [1 + c2 ini % 2] ∧ flashes ini ∧ 1 ≤ ini.length
theorem two_pow_split : True := trivial
theorem sign_loop2 : ∀ (d : Nat) (n : Int) (acc : List Int), 0 ≤ n → n < 2 ^ d → n ≤ 10000 → acc.length + d ≤ 1000 → flashes acc →
    ∃ ini, flashes ini ∧ 1 ≤ ini.length ∧ valS 0 ini = valS n acc ∧ ini.length ≤ acc.length + d + 1 ∧ (1 ≤ d → ini.length ≤ acc.length + d) ∧ ∀ k, acc.length + 2 * d + 3 < k → impl_SignOf.l0 k n acc = some (ini ++ [1 + c2 ini % 2]) := by
  intro d
  induction d with
  | zero =>
    intro n acc h0 h1 h2 hl hf
    obtain rfl : n = 0 := by simp at h1; omega
    refine ⟨1 :: acc, ?_, by simp, by simp [valS], by simp, by omega, fun k hk => ?_⟩
    · intro f hm
      rcases List.mem_cons.mp hm with h | h
      · exact Or.inl h
      · exact hf f h
    obtain ⟨k, rfl⟩ : ∃ m, k = m + 1 := ⟨k - 1, by omega⟩
    have e0 : wrap64 (Int.tmod 0 2 + 1) = 1 := by unfold wrap64; decide
    have hc := (count_ev (1 :: acc) (by simp; omega) k (by simp; omega)).2
    rw [cnt2_eq (1 :: acc) 0 (by omega) (by simp; omega), Int.zero_add] at hc
    have hb := c2_bound (1 :: acc)
    have hx : (1 :: acc).length < 17592186044416 := by simp; omega
    have hx2 : ([1] : List Int).length + acc.length < 17592186044416 := by simp; omega
    have hz : (0 : Int) / 2 = 0 := by omega
    have ew : wrap64 (Int.tmod (c2 (1 :: acc)) 2 + 1) = 1 + c2 (1 :: acc) % 2 := by
      rw [Int.tmod_eq_emod_of_nonneg hb.1]; unfold wrap64; omega
    simp only [impl_SignOf.l0, half_eq (Int.le_refl 0) (by omega), e0, Option.bind_some, if_pos hx2, List.singleton_append, if_pos hz, hc, if_pos hx, ew]
  | succ d ih =>
    intro n acc h0 h1 h2 hl hf
    have em : Int.tmod n 2 = n % 2 := Int.tmod_eq_emod_of_nonneg h0
    obtain ⟨f, hfd⟩ : ∃ f, f = n % 2 + 1 := ⟨_, rfl⟩
    have e0 : wrap64 (Int.tmod n 2 + 1) = f := by rw [em]; unfold wrap64; omega
    have hf2 : flashes (f :: acc) := by
      intro g hm
      rcases List.mem_cons.mp hm with h | h
      · omega
      · exact hf g h
    have hx2 : ([f] : List Int).length + acc.length < 17592186044416 := by simp; omega
    have hx : (f :: acc).length < 17592186044416 := by simp; omega
    by_cases hz : n / 2 = 0
    · refine ⟨f :: acc, hf2, by simp, by simp only [valS]; congr 1; omega, by simp only [List.length_cons]; omega, fun _ => by simp only [List.length_cons]; omega, fun k hk => ?_⟩
      obtain ⟨k, rfl⟩ : ∃ m, k = m + 1 := ⟨k - 1, by omega⟩
      have hc := (count_ev (f :: acc) (by simp; omega) k (by simp; omega)).2
      rw [cnt2_eq (f :: acc) 0 (by omega) (by simp; omega), Int.zero_add] at hc
      have hb := c2_bound (f :: acc)
      have ew : wrap64 (Int.tmod (c2 (f :: acc)) 2 + 1) = 1 + c2 (f :: acc) % 2 := by
        rw [Int.tmod_eq_emod_of_nonneg hb.1]; unfold wrap64; omega
      simp only [impl_SignOf.l0, half_eq h0 (by omega), e0, Option.bind_some, if_pos hx2, List.singleton_append, if_pos hz, hc, if_pos hx, ew]
    · have h3 : n / 2 < 2 ^ d := by rw [Int.pow_succ] at h1; omega
      obtain ⟨ini, g1, g2, g3, g4, g5, g6⟩ := ih (n / 2) (f :: acc) (by omega) h3 (by omega) (by simp; omega) hf2
      have hd1 : 1 ≤ d := by
        rcases Nat.eq_zero_or_pos d with h | h
        · subst h; simp at h3; omega
        · exact h
      refine ⟨ini, g1, g2, ?_, ?_, ?_, fun k hk => ?_⟩
      · rw [g3]; simp only [valS]; congr 1; omega
      · have := g5 hd1; simp only [List.length_cons] at this; omega
      · intro _; have := g5 hd1; simp only [List.length_cons] at this; omega
      · obtain ⟨k, rfl⟩ : ∃ m, k = m + 1 := ⟨k - 1, by omega⟩
        have := g6 k (by simp only [List.length_cons]; omega)
        simp only [impl_SignOf.l0, half_eq h0 (by omega), e0, Option.bind_some, if_pos hx2, List.singleton_append, if_neg hz]
        exact this

theorem equalIntsI_loop (a b : List Int) (hn : a.length ≤ 1048576) (hl : a.length = b.length) : ∀ (d k : Nat) (i : Int), 0 ≤ i → (a.length : Int) - i = d → d < k →
    impl_EqualInts.l0 k a b (a.length : Int) i = some (decide (a.drop i.toNat = b.drop i.toNat)) := by
  intro d
  induction d with
  | zero =>
    intro k i h0 hd hk
    obtain ⟨k, rfl⟩ : ∃ m, k = m + 1 := ⟨k - 1, by omega⟩
    have hlt : ¬ i < (a.length : Int) := by omega
    rw [List.drop_eq_nil_of_le (show a.length ≤ i.toNat by omega), List.drop_eq_nil_of_le (show b.length ≤ i.toNat by omega)]
    simp only [impl_EqualInts.l0, if_neg hlt, decide_true]
  | succ d ih =>
    intro k i h0 hd hk
    obtain ⟨k, rfl⟩ : ∃ m, k = m + 1 := ⟨k - 1, by omega⟩
    have hlt : i < (a.length : Int) := by omega
    have hlt2 : i < (b.length : Int) := by omega
    have h1 := ih k (i + 1) (by omega) (by omega) (by omega)
    rw [drop_step 0 a i h0 hlt, drop_step 0 b i h0 hlt2, show a.getD i.toNat 0 = rd a i from rfl, show b.getD i.toNat 0 = rd b i from rfl]
    simp only [impl_EqualInts.l0, if_pos hlt, if_pos hlt2, if_pos h0, wrap_small (n := a.length) h0 hlt hn, h1, List.cons.injEq]
    by_cases e : rd a i = rd b i
    · simp [e]
    · simp [e]
theorem equalIntsI_ev (a b : List Int) (hn : a.length ≤ 1048576) (k : Nat) (hk : a.length < k) : impl_EqualInts.f k a b = some (decide (a = b)) := by
  unfold impl_EqualInts.f
  by_cases hl : a.length = b.length
  · rw [if_pos (by omega)]
    have := equalIntsI_loop a b hn hl a.length k 0 (by omega) (by omega) hk
    rw [Int.toNat_zero, List.drop_zero, List.drop_zero] at this
    exact this
  · rw [if_neg (by omega)]
    have e : ¬ a = b := fun h => hl (by rw [h])
    simp [e]

def isSign (n : Int) (r : List Int) : Prop := ∀ k, 40 < k → impl_SignOf.f k n = some r ∧ spec_SignOf.f k n = some r
theorem sign_uniq {n : Int} {r r' : List Int} (h : isSign n r) (h' : isSign n r') : r = r' :=
  Option.some.inj (((h 41 (by omega)).1).symm.trans (h' 41 (by omega)).1)
theorem sgn_ev (n : Int) : ∃ r, isSign n r ∧ r.length ≤ 15 ∧ ((0 ≤ n ∧ n ≤ 9999 ∧ ∃ ini, r = ini ++ [1 + c2 ini % 2] ∧ flashes ini ∧ 1 ≤ ini.length ∧ ini.length ≤ 14 ∧ valS 0 ini = n) ∨ (¬ (0 ≤ n ∧ n ≤ 9999) ∧ r = [])) := by
  obtain ⟨r, hl, hk⟩ := signOf_ev n
  refine ⟨r, fun k h => ⟨(hk k h).2, (hk k h).1⟩, hl, ?_⟩
  have h41 := (hk 41 (by omega)).2
  unfold impl_SignOf.f at h41
  by_cases hin : 0 ≤ n ∧ n ≤ 9999
  · obtain ⟨ini, g1, g2, g3, g4, g5, g6⟩ := sign_loop2 14 n [] hin.1 (by omega) (by omega) (by simp) (by intro f h; cases h)
    simp only [inRange_eq, hin, and_self, decide_true, Option.bind_some, if_true] at h41
    rw [g6 41 (by simp)] at h41
    have g7 := g5 (by omega)
    exact Or.inl ⟨hin.1, hin.2, ini, (Option.some.inj h41).symm, g1, g2, by simpa using g7, by simpa [valS] using g3⟩
  · simp only [inRange_eq, hin, decide_false, Option.bind_some, Bool.false_eq_true, if_false] at h41
    exact Or.inr ⟨hin, (Option.some.inj h41).symm⟩
theorem pow14 : ∀ j : Nat, j ≤ 14 → (2 : Int) ^ j ≤ 16384 := by decide
theorem read_loop2 (l L : List Int) (h15 : l.length ≤ 15) (hL : (L.length : Int) ≤ 1048576) : ∀ (d : Nat) (i n : Int) (j : Nat), 0 ≤ i → (L.length : Int) - i = d → 0 ≤ n → n < 2 ^ j → j + d ≤ 14 →
    ∃ v, (∀ k, 60 + 2 * d < k → impl_ReadSign.l0 k l n L (L.length : Int) i = some v) ∧ (v = (0, false) ∨ (flashes (L.drop i.toNat) ∧ v = (valS n (L.drop i.toNat), true) ∧ isSign (valS n (L.drop i.toNat)) l)) ∧ (flashes (L.drop i.toNat) → isSign (valS n (L.drop i.toNat)) l → v = (valS n (L.drop i.toNat), true)) := by
  intro d
  induction d with
  | zero =>
    intro i n j h0 hd hn0 hn1 hj
    have hlt : ¬ i < (L.length : Int) := by omega
    rw [List.drop_eq_nil_of_le (by omega)]
    obtain ⟨r, hr, hk2⟩ := signOf_ev n
    have hs : isSign n r := fun k h => ⟨(hk2 k h).2, (hk2 k h).1⟩
    refine ⟨if decide (r = l) = true then (n, true) else (0, false), fun k hk => ?_, ?_, ?_⟩
    · obtain ⟨k, rfl⟩ : ∃ m, k = m + 1 := ⟨k - 1, by omega⟩
      have a1 := (hk2 k (by omega)).2
      have e2 := equalIntsI_ev r l (by omega) k (by omega)
      simp only [impl_ReadSign.l0, if_neg hlt, a1, Option.bind_some, e2]
      split <;> rfl
    · by_cases e : r = l
      · subst e; right; exact ⟨fun f h => (by cases h), by simp [valS], by simpa [valS] using hs⟩
      · left; simp [e]
    · intro _ h
      have e : r = l := sign_uniq hs (by simpa [valS] using h)
      simp [e, valS]
  | succ d ih =>
    intro i n j h0 hd hn0 hn1 hj
    have hlt : i < (L.length : Int) := by omega
    have hwi : wrap64 (i + 1) = i + 1 := by
      have hL : (L.length : Int) ≤ 1048576 := hL
      unfold wrap64; omega
    have hp := pow14 j (by omega)
    rw [drop_step 0 L i h0 hlt, show L.getD i.toNat 0 = rd L i from rfl]
    by_cases e : 1 ≤ rd L i ∧ rd L i ≤ 2
    · have hw : wrap64 (wrap64 (wrap64 (2 * n) + rd L i) - 1) = 2 * n + rd L i - 1 := by unfold wrap64; omega
      obtain ⟨v, hv, hv2, hv3⟩ := ih (i + 1) (2 * n + rd L i - 1) (j + 1) (by omega) (by omega) (by omega) (by rw [Int.pow_succ]; omega) (by omega)
      refine ⟨v, fun k hk => ?_, ?_, ?_⟩
      · obtain ⟨k, rfl⟩ : ∃ m, k = m + 1 := ⟨k - 1, by omega⟩
        rw [impl_ReadSign.l0]
        simp only [if_pos hlt, if_pos h0, inRange_eq, e, and_self, decide_true, Option.bind_some, if_true, hwi, hw]
        exact hv k (by omega)
      · rcases hv2 with h | ⟨a1, a2, a3⟩
        · exact Or.inl h
        · refine Or.inr ⟨?_, a2, a3⟩
          intro f hf
          rcases List.mem_cons.mp hf with h | h
          · omega
          · exact a1 f h
      · intro hf hs
        exact hv3 (fun f h => hf f (List.mem_cons_of_mem _ h)) hs
    · refine ⟨(0, false), fun k hk => ?_, Or.inl rfl, fun hf => ?_⟩
      · obtain ⟨k, rfl⟩ : ∃ m, k = m + 1 := ⟨k - 1, by omega⟩
        rw [impl_ReadSign.l0]
        simp only [if_pos hlt, if_pos h0, inRange_eq, e, decide_false, Option.bind_some, Bool.false_eq_true, if_false]
      · exfalso
        have := hf (rd L i) (List.mem_cons_self ..)
        omega
theorem read_ev2 (l : List Int) : ∃ v, (∀ k, 64 + 2 * l.length < k → impl_ReadSign.f k l = some v) ∧ (v = (0, false) ∨ ∃ ini x, l = ini ++ [x] ∧ flashes ini ∧ v = (valS 0 ini, true) ∧ isSign (valS 0 ini) l) ∧ (∀ ini x, l = ini ++ [x] → 1 ≤ ini.length → ini.length ≤ 14 → flashes ini → isSign (valS 0 ini) l → v = (valS 0 ini, true)) := by
  by_cases hin : 2 ≤ (l.length : Int) ∧ (l.length : Int) ≤ 15
  · have hw : wrap64 ((l.length : Int) - 1) = (l.length : Int) - 1 := by unfold wrap64; omega
    have hL : (l.take ((l.length : Int) - 1).toNat).length = l.length - 1 := by rw [List.length_take]; omega
    have hLi : ((l.take ((l.length : Int) - 1).toNat).length : Int) = (l.length : Int) - 1 := by rw [hL]; omega
    obtain ⟨v, hv, hv2, hv3⟩ := read_loop2 l (l.take ((l.length : Int) - 1).toNat) (by omega) (by omega) (l.length - 1) 0 0 0 (by omega) (by omega) (by omega) (by decide) (by omega)
    rw [Int.toNat_zero, List.drop_zero] at hv2 hv3
    refine ⟨v, fun k hk => ?_, ?_, ?_⟩
    · have g1 : 0 ≤ (l.length : Int) - 1 := by omega
      have g2 : (l.length : Int) - 1 ≤ (l.length : Int) := by omega
      unfold impl_ReadSign.f
      simp only [inRange_eq, hin, and_self, decide_true, Option.bind_some, if_true, hw, if_pos g1, if_pos g2]
      exact hv k (by omega)
    · rcases hv2 with h | ⟨a1, a2, a3⟩
      · exact Or.inl h
      · refine Or.inr ⟨_, l.getLast (by intro h; rw [h] at hin; simp at hin), ?_, a1, a2, a3⟩
        rw [show ((l.length : Int) - 1).toNat = l.length - 1 by omega, ← List.dropLast_eq_take, List.dropLast_concat_getLast]
    · intro ini x he h1 h14 hf hs
      have : l.take ((l.length : Int) - 1).toNat = ini := by
        rw [he, show (((ini ++ [x]).length : Int) - 1).toNat = ini.length by simp]; simp
      rw [this] at hv3
      exact hv3 hf hs
  · refine ⟨(0, false), fun k hk => ?_, Or.inl rfl, fun ini x he h1 h14 => ?_⟩
    · unfold impl_ReadSign.f
      simp only [inRange_eq, hin, decide_false, Option.bind_some, Bool.false_eq_true, if_false]
    · exfalso; apply hin; rw [he]; simp; omega
theorem sg_even (ini : List Int) : c2 (ini ++ [1 + c2 ini % 2]) % 2 = 0 := by
  rw [c2_append]; simp only [c2]; split <;> omega
theorem not_sign_odd {n : Int} {l : List Int} (h : isSign n l) (ho : c2 l % 2 = 1) : False := by
  obtain ⟨r, hr, _, hc⟩ := sgn_ev n
  have e := sign_uniq h hr
  subst e
  rcases hc with ⟨_, _, ini, he, _⟩ | ⟨_, he⟩
  · rw [he, sg_even] at ho; omega
  · rw [he] at ho; simp [c2] at ho
theorem sg_flashes {ini : List Int} (h : flashes ini) : flashes (ini ++ [1 + c2 ini % 2]) := by
  intro f hf
  rcases List.mem_append.mp hf with h1 | h1
  · exact h f h1
  · rw [List.mem_singleton] at h1; omega

theorem same_loop (a b : List Int) (hn : a.length ≤ 1048576) (h : a = b) : ∀ (d k : Nat) (i : Int), 0 ≤ i → (a.length : Int) - i = d → d < k → laws_sameInts.l0 k a b i = some true := by
  subst h
  intro d
  induction d with
  | zero =>
    intro k i h0 hd hk
    obtain ⟨k, rfl⟩ : ∃ m, k = m + 1 := ⟨k - 1, by omega⟩
    simp only [laws_sameInts.l0]
    rw [if_neg (by omega)]
  | succ d ih =>
    intro k i h0 hd hk
    obtain ⟨k, rfl⟩ : ∃ m, k = m + 1 := ⟨k - 1, by omega⟩
    have hlt : i < (a.length : Int) := by omega
    simp only [laws_sameInts.l0, if_pos hlt, if_pos h0, if_true, wrap_small (n := a.length) h0 hlt hn]
    exact ih k (i + 1) (by omega) (by omega) (by omega)
theorem same_ev (a : List Int) (hn : a.length ≤ 1048576) (k : Nat) (hk : a.length < k) : laws_sameInts.f k a a = some true := by
  unfold laws_sameInts.f
  rw [if_pos rfl]
  exact same_loop a a hn rfl a.length k 0 (by omega) (by omega) hk
theorem signTime_loop (l : List Int) (hn : l.length ≤ 1000) : ∀ (d : Nat) (i x : Int), 0 ≤ i → (l.length : Int) - i = d → 0 ≤ x → x + 3 * d ≤ 1000000 → ∃ t, x ≤ t ∧ ∀ k, d < k → impl_SignTime.l0 k x l (l.length : Int) i = some t := by
  intro d
  induction d with
  | zero =>
    intro i x h0 hd hx hx2
    refine ⟨x, by omega, fun k hk => ?_⟩
    obtain ⟨k, rfl⟩ : ∃ m, k = m + 1 := ⟨k - 1, by omega⟩
    simp only [impl_SignTime.l0]
    rw [if_neg (by omega)]
  | succ d ih =>
    intro i x h0 hd hx hx2
    have hlt : i < (l.length : Int) := by omega
    have hw1 : wrap64 (x + 1) = x + 1 := by unfold wrap64; omega
    have hw3 : wrap64 (x + 3) = x + 3 := by unfold wrap64; omega
    by_cases e1 : rd l i = 1
    · obtain ⟨t, ht, hk2⟩ := ih (i + 1) (x + 1) (by omega) (by omega) (by omega) (by omega)
      refine ⟨t, by omega, fun k hk => ?_⟩
      obtain ⟨k, rfl⟩ : ∃ m, k = m + 1 := ⟨k - 1, by omega⟩
      simp only [impl_SignTime.l0, if_pos hlt, if_pos h0, if_pos e1, hw1, wrap_small (n := l.length) h0 hlt (by omega)]
      exact hk2 k (by omega)
    · by_cases e2 : rd l i = 2
      · obtain ⟨t, ht, hk2⟩ := ih (i + 1) (x + 3) (by omega) (by omega) (by omega) (by omega)
        refine ⟨t, by omega, fun k hk => ?_⟩
        obtain ⟨k, rfl⟩ : ∃ m, k = m + 1 := ⟨k - 1, by omega⟩
        simp only [impl_SignTime.l0, if_pos hlt, if_pos h0, if_neg e1, if_pos e2, hw3, wrap_small (n := l.length) h0 hlt (by omega)]
        exact hk2 k (by omega)
      · obtain ⟨t, ht, hk2⟩ := ih (i + 1) x (by omega) (by omega) (by omega) (by omega)
        refine ⟨t, by omega, fun k hk => ?_⟩
        obtain ⟨k, rfl⟩ : ∃ m, k = m + 1 := ⟨k - 1, by omega⟩
        simp only [impl_SignTime.l0, if_pos hlt, if_pos h0, if_neg e1, if_neg e2, wrap_small (n := l.length) h0 hlt (by omega)]
        exact hk2 k (by omega)
theorem signTime_ev (l : List Int) (hn : l.length ≤ 1000) : ∃ t, (l.length : Int) - 1 ≤ t ∧ ∀ k, l.length < k → impl_SignTime.f k l = some t := by
  have hw : wrap64 ((l.length : Int) - 1) = (l.length : Int) - 1 := by unfold wrap64; omega
  have hm : (l.length : Int) - 1 ≤ mx ((l.length : Int) - 1) 0 ∧ 0 ≤ mx ((l.length : Int) - 1) 0 ∧ mx ((l.length : Int) - 1) 0 ≤ 1000 := by unfold mx; split <;> omega
  obtain ⟨t, ht, hk2⟩ := signTime_loop l hn l.length 0 (mx ((l.length : Int) - 1) 0) (by omega) (by omega) (by omega) (by omega)
  refine ⟨t, by omega, fun k hk => ?_⟩
  unfold impl_SignTime.f
  rw [hw]
  exact hk2 k hk
def flipS (l : List Int) (a : Int) : List Int := if 0 ≤ a ∧ a ≤ (l.length : Int) - 1 ∧ 1 ≤ rd l a ∧ rd l a ≤ 2 then l.set a.toNat (3 - rd l a) else l
theorem flipS_len (l : List Int) (a : Int) : (flipS l a).length = l.length := by unfold flipS; split <;> simp
theorem flip_ev (l : List Int) (a : Int) (hn : l.length ≤ 1048576) : impl_FlipFlash.f l a = some (flipS l a) ∧ spec_FlipFlash.f l a = some (flipS l a) := by
  have hlen : l.length < 17592186044416 := by omega
  have hwl : wrap64 ((l.length : Int) - 1) = (l.length : Int) - 1 := by unfold wrap64; omega
  unfold spec_FlipFlash.f impl_FlipFlash.f impl_copyOf.f flipS
  simp only [Option.bind_some, List.length_nil, List.nil_append, Nat.zero_add, hwl, if_pos hlen, l1In_eq, inRange_eq]
  by_cases h1 : 0 ≤ a ∧ a ≤ (l.length : Int) - 1
  · have h1' : a < (l.length : Int) := by omega
    simp only [h1, and_self, decide_true, Option.bind_some, if_true, if_pos h1', true_and]
    by_cases h2 : 1 ≤ rd l a ∧ rd l a ≤ 2
    · have hw : wrap64 (3 - rd l a) = 3 - rd l a := by unfold wrap64; omega
      simp only [h2, and_self, decide_true, if_true, hw]
    · simp only [h2, decide_false, Bool.false_eq_true, if_false, and_self]
  · have h2 : ¬ (0 ≤ a ∧ a ≤ (l.length : Int) - 1 ∧ 1 ≤ rd l a ∧ rd l a ≤ 2) := fun h => h1 ⟨h.1, h.2.1⟩
    rw [if_neg h2]
    simp only [h1, decide_false, Option.bind_some, Bool.false_eq_true, if_false, and_self]
theorem rd_set_self (l : List Int) (i : Int) (v : Int) (h0 : 0 ≤ i) (h : i < (l.length : Int)) : rd (l.set i.toNat v) i = v := by
  unfold rd; rw [getD_set _ _ _ _ (by omega), if_pos rfl]
theorem flipS_twice (l : List Int) (a : Int) : flipS (flipS l a) a = l := by
  by_cases h : 0 ≤ a ∧ a ≤ (l.length : Int) - 1 ∧ 1 ≤ rd l a ∧ rd l a ≤ 2
  · have e : flipS l a = l.set a.toNat (3 - rd l a) := by unfold flipS; rw [if_pos h]
    have er : rd (l.set a.toNat (3 - rd l a)) a = 3 - rd l a := rd_set_self l a _ h.1 (by omega)
    rw [e]
    unfold flipS
    rw [er, List.length_set, if_pos ⟨h.1, h.2.1, by omega, by omega⟩, List.set_set, show 3 - (3 - rd l a) = rd l a by omega]
    apply List.ext_getElem (by simp)
    intro j h1 h2
    rw [List.getElem_set]
    split
    · rename_i hj
      have h3 : a.toNat < l.length := by omega
      subst hj
      unfold rd; simp [List.getD_eq_getElem?_getD, List.getElem?_eq_getElem h3]
    · rfl
  · have e : flipS l a = l := by unfold flipS; rw [if_neg h]
    rw [e, e]
theorem flip_odd (l : List Int) (a : Int) (hf : flashes l) (he : c2 l % 2 = 0) (h0 : 0 ≤ a) (h1 : a < (l.length : Int)) : c2 (flipS l a) % 2 = 1 := by
  have h2 : a.toNat < l.length := by omega
  have h3 := hf (rd l a) (by unfold rd; simp [List.getD_eq_getElem?_getD, List.getElem?_eq_getElem h2])
  unfold flipS
  rw [if_pos ⟨h0, by omega, by omega, by omega⟩]
  have h4 := c2_set l a.toNat (3 - rd l a) h2
  rw [show l.getD a.toNat 0 = rd l a from rfl] at h4
  rcases h3 with h | h
  · rw [h4.1 ⟨h, by omega⟩]; omega
  · rw [h4.2 ⟨h, by omega⟩]; omega
theorem read_no {l : List Int} (hn : l.length ≤ 1048576) (ho : c2 l % 2 = 1) (k : Nat) (hk : 64 + 2 * l.length < k) : ∃ m, impl_ReadSign.f k l = some (m, false) := by
  obtain ⟨v, hv, hv2, _⟩ := read_ev2 l
  rcases hv2 with h | ⟨ini, x, _, _, _, hs⟩
  · exact ⟨0, by rw [hv k hk, h]⟩
  · exact (not_sign_odd hs ho).elim
theorem drawRead_ev (d : List Int) (hd : d.length ≤ 1048576) : ∃ l, l.length ≤ 16 ∧ ∀ k, d.length + 60 < k → spec_DrawReadSign.f k d = some l := by
  obtain ⟨s, hs⟩ := new_ev d hd
  obtain ⟨v, p, s1, e1, hv, hp0, hp1⟩ := below_ev d 0 s 300 hd (by omega) (by omega)
  obtain ⟨r, hr, hrl, hc⟩ := sgn_ev v
  have hv1 := hv.2.1 (by omega)
  have hr1 : 1 ≤ r.length := by
    rcases hc with ⟨_, _, ini, he, _⟩ | ⟨h, _⟩
    · rw [he]; simp
    · exfalso; apply h; omega
  obtain ⟨w, p2, s2, e2, _, hq0, hq1⟩ := below_ev d p s1 6 hd hp0 hp1
  unfold spec_DrawReadSign.f
  by_cases c0 : w = 0
  · obtain ⟨u, p3, s3, e3, _, _, _⟩ := below_ev d p2 s2 (r.length : Int) hd hq0 hq1
    refine ⟨flipS r u, by rw [flipS_len]; omega, fun k hk => ?_⟩
    simp only [hs k (by omega), Option.bind_some, e1, (hr k (by omega)).2, e2, if_pos c0, e3, (flip_ev r u (by omega)).2]
  · by_cases c1 : w = 1
    · refine ⟨[1] ++ r, by simp; omega, fun k hk => ?_⟩
      have hl : ([1] : List Int).length + r.length < 17592186044416 := by simp; omega
      simp only [hs k (by omega), Option.bind_some, e1, (hr k (by omega)).2, e2, if_neg c0, if_pos c1, if_pos hl]
    · by_cases c2' : w = 2
      · obtain ⟨u, p3, s3, e3, _, _, _⟩ := below_ev d p2 s2 4 hd hq0 hq1
        refine ⟨r.set 0 u, by simp; omega, fun k hk => ?_⟩
        have hl : (0 : Int) < (r.length : Int) := by omega
        simp only [hs k (by omega), Option.bind_some, e1, (hr k (by omega)).2, e2, if_neg c0, if_neg c1, if_pos c2', e3, if_pos hl]
        rfl
      · refine ⟨r, by omega, fun k hk => ?_⟩
        simp only [hs k (by omega), Option.bind_some, e1, (hr k (by omega)).2, e2, if_neg c0, if_neg c1, if_neg c2']
theorem drawFlip_ev (d : List Int) (hd : d.length ≤ 1048576) : ∃ l i, l.length ≤ 16 ∧ ∀ k, d.length + 60 < k → spec_DrawFlipFlash.f k d = some (l, i) := by
  obtain ⟨l, hl, hk2⟩ := drawRead_ev d hd
  obtain ⟨s, hs⟩ := new_ev d hd
  obtain ⟨v, p, s1, e1, _, _, _⟩ := below_ev d 0 s 14 hd (by omega) (by omega)
  refine ⟨l, wrap64 (v - 1), hl, fun k hk => ?_⟩
  unfold spec_DrawFlipFlash.f
  simp only [hk2 k hk, hs k (by omega), Option.bind_some, e1]
theorem drawSign_ev (d : List Int) (hd : d.length ≤ 1048576) : ∃ n, ∀ k, d.length < k → spec_DrawSignOf.f k d = some n := by
  obtain ⟨s, hs⟩ := new_ev d hd
  obtain ⟨v, p, s1, e1, _, hp0, hp1⟩ := below_ev d 0 s 9999 hd (by omega) (by omega)
  obtain ⟨n, p2, s2, e2, _, _, _⟩ := int_ev d p s1 [0, 1, 2, 5, 1023, 1024, 9999, 10000, (-1), v] (by simp) hd hp0 hp1
  refine ⟨n, fun k hk => ?_⟩
  unfold spec_DrawSignOf.f
  simp only [hs k hk, Option.bind_some, e1, e2]

theorem signs_end (d : List Int) (hd : d.length ≤ 1048576) (k : Nat) (hk : d.length + 200 < k) : laws_FnSigns.j2 k d false = some true := by
  obtain ⟨k, rfl⟩ : ∃ m, k = m + 1 := ⟨k - 1, by omega⟩
  obtain ⟨l, i, hl, h1⟩ := drawFlip_ev d hd
  have f1 := (flip_ev l i (by omega)).1
  have f2 := (flip_ev (flipS l i) i (by rw [flipS_len]; omega)).1
  rw [flipS_twice] at f2
  obtain ⟨t, ht, ht2⟩ := signTime_ev l (by omega)
  have hw : wrap64 ((l.length : Int) - 1) = (l.length : Int) - 1 := by unfold wrap64; omega
  have hc := (count_ev l (by omega) k (by omega)).2
  rw [cnt2_eq l 0 (by omega) (by omega), Int.zero_add] at hc
  have hb := (c2_bound l).2
  have hge : t ≥ (l.length : Int) - 1 := ht
  simp only [laws_FnSigns.j2, Bool.false_eq_true, if_false, h1 k (by omega), Option.bind_some, f1, f2, same_ev l (by omega) k (by omega), if_true, ht2 k (by omega), hw, if_pos hge, hc, hb, decide_true]
theorem signs_mid (d : List Int) (hd : d.length ≤ 1048576) (s : List Int) (hs : s.length ≤ 15) (hf : flashes s) (he : c2 s % 2 = 0) : ∀ (e : Nat) (i : Int), 0 ≤ i → (s.length : Int) - i = e → ∀ k, e + d.length + 300 < k → laws_FnSigns.l0 k d s i = some true := by
  intro e
  induction e with
  | zero =>
    intro i h0 hd2 k hk
    obtain ⟨k, rfl⟩ : ∃ m, k = m + 1 := ⟨k - 1, by omega⟩
    have hlt : ¬ i < (s.length : Int) := by omega
    obtain ⟨l, hl, h1⟩ := drawRead_ev d hd
    obtain ⟨v, hv, hv2, _⟩ := read_ev2 l
    simp only [laws_FnSigns.l0, if_neg hlt, h1 k (by omega), Option.bind_some, hv k (by omega)]
    rcases hv2 with h | ⟨ini, x, _, _, h, hs2⟩
    · simp only [h, Bool.false_eq_true, if_false]
      exact signs_end d hd k (by omega)
    · simp only [h, if_true, (hs2 k (by omega)).1, Option.bind_some, same_ev l (by omega) k (by omega), Bool.not_true]
      exact signs_end d hd k (by omega)
  | succ e ih =>
    intro i h0 hd2 k hk
    obtain ⟨k, rfl⟩ : ∃ m, k = m + 1 := ⟨k - 1, by omega⟩
    have hlt : i < (s.length : Int) := by omega
    have f1 := (flip_ev s i (by omega)).1
    obtain ⟨m, hm⟩ := read_no (l := flipS s i) (by rw [flipS_len]; omega) (flip_odd s i hf he h0 hlt) k (by rw [flipS_len]; omega)
    simp only [laws_FnSigns.l0, if_pos hlt, f1, Option.bind_some, hm, Bool.false_eq_true, if_false, wrap_small (n := s.length) h0 hlt (by omega)]
    exact ih (i + 1) (by omega) (by omega) k (by omega)
theorem signs_j0 (d : List Int) (hd : d.length ≤ 1048576) (s : List Int) (hs : s.length ≤ 15) (hf : flashes s) (he : c2 s % 2 = 0) (k : Nat) (hk : s.length + d.length + 301 < k) : laws_FnSigns.j0 k d s false = some true := by
  obtain ⟨k, rfl⟩ : ∃ m, k = m + 1 := ⟨k - 1, by omega⟩
  simp only [laws_FnSigns.j0, Bool.false_eq_true, if_false]
  exact signs_mid d hd s hs hf he s.length 0 (by omega) (by omega) k (by omega)
theorem FnSigns : laws_FnSigns.Stmt := by
  intro d _
  by_cases hbig : (d.length : Int) > 1048576
  · exact ⟨0, by unfold laws_FnSigns.f laws_big.f; simp only [hbig, decide_true, Option.bind_some, if_true]⟩
  have hd : d.length ≤ 1048576 := by omega
  obtain ⟨n, hn⟩ := drawSign_ev d hd
  obtain ⟨s, hs, hsl, hc⟩ := sgn_ev n
  obtain ⟨v, hv, hv2, hv3⟩ := read_ev2 s
  obtain ⟨k, hk⟩ : ∃ k, k = d.length + 500 := ⟨_, rfl⟩
  refine ⟨k, ?_⟩
  unfold laws_FnSigns.f laws_big.f
  simp only [hbig, decide_false, Option.bind_some, Bool.false_eq_true, if_false, hn k (by omega), (hs k (by omega)).1, hv k (by omega)]
  rcases hc with ⟨h0, h1, ini, he, g1, g2, g3, g4⟩ | ⟨hno, he⟩
  · have hv4 := hv3 ini _ he g2 g3 g1 (by rw [g4]; exact hs)
    rw [g4] at hv4
    have hge : n ≥ 0 := h0
    have hj := signs_j0 d hd s hsl (by rw [he]; exact sg_flashes g1) (by rw [he]; exact sg_even ini) k (by omega)
    simp only [hv4, if_pos hge, h1, decide_true, bne_self_eq_false, Bool.false_eq_true, if_false, if_true, hj]
  · have hv4 : v = (0, false) := by
      rcases hv2 with h | ⟨ini, x, h, _⟩
      · exact h
      · rw [he] at h; simp at h
    have hj := signs_j0 d hd s hsl (by rw [he]; intro f hf; cases hf) (by rw [he]; rfl) k (by omega)
    by_cases hge : n ≥ 0
    · have h1 : ¬ n ≤ 9999 := by omega
      simp only [hv4, if_pos hge, h1, decide_false, bne_self_eq_false, Bool.false_eq_true, if_false, hj]
    · simp only [hv4, if_neg hge, bne_self_eq_false, Bool.false_eq_true, if_false, hj]

end Go.Proofs.Ytegbddilobpeaaa.Pure
