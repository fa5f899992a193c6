/- The program's FlipFlash returns what the reference's FlipFlash returns, for every list of integers no longer than 2^20 and every index; the result is new memory and the argument stays as it was. No further condition. -/
import Derived.Test.YtfaepjoaihkonaaSFnExactFlipFlash
namespace Go.Proofs.Ytfaepjoaihkonaa.Pure
open Go.RowKit Go.Proofs.Ytfaepjoaihkonaa.PFnExactFlipFlash Go.Proofs.YtfaepjoaihkonaaW.PrintWords Go.Proofs.YtfaepjoaihkonaaW.PrintLast Go.Proofs.YtfaepjoaihkonaaW.PrintMore

theorem ext_getD {α : Type} {d : α} {a b : List α} (h : a.length = b.length) (hj : ∀ j, j < a.length → a.getD j d = b.getD j d) : a = b := by
  apply List.ext_getElem h
  intro j h1 h2
  have := hj j h1
  simpa [List.getD_eq_getElem?_getD, List.getElem?_eq_getElem h1, List.getElem?_eq_getElem h2] using this

theorem getD_set {α : Type} {d : α} (a : List α) (i j : Nat) (v : α) (h : i < a.length) : (a.set i v).getD j d = if i = j then v else a.getD j d := by
  simp only [List.getD_eq_getElem?_getD, List.getElem?_set]
  by_cases e : i = j
  · subst e; simp [h]
  · simp [e]

theorem wrap_small {i : Int} {n : Nat} (h0 : 0 ≤ i) (h : i < (n : Int)) (hn : n ≤ 1048576) : wrap64 (i + 1) = i + 1 := by
  unfold wrap64; omega

theorem toIntS_loop (xs : List Int) (hn : xs.length ≤ 1048576) : ∀ (d k : Nat) (acc : List Int) (i : Int), acc.length = xs.length → 0 ≤ i → (xs.length : Int) - i = d → d < k →
    (∀ j : Nat, (j : Int) < i → acc.getD j 0 = xs.getD j 0) → laws_toIntS.l0 k xs acc i = some xs := by
  intro d
  induction d with
  | zero =>
    intro k acc i hl h0 hd hk hj
    obtain ⟨k, rfl⟩ : ∃ m, k = m + 1 := ⟨k - 1, by omega⟩
    simp only [laws_toIntS.l0]
    rw [if_neg (by omega)]
    exact congrArg some (ext_getD hl (fun j h => hj j (by omega)))
  | succ d ih =>
    intro k acc i hl h0 hd hk hj
    obtain ⟨k, rfl⟩ : ∃ m, k = m + 1 := ⟨k - 1, by omega⟩
    simp only [laws_toIntS.l0]
    rw [if_pos (by omega), if_pos h0, if_pos (by omega), wrap_small (n := xs.length) h0 (by omega) hn]
    refine ih k _ _ (by simpa using hl) (by omega) (by omega) (by omega) ?_
    intro j hj'
    rw [getD_set _ _ _ _ (by omega)]
    by_cases e : i.toNat = j
    · rw [if_pos e]; unfold rd; rw [e]
    · rw [if_neg e]; exact hj j (by omega)

theorem toIntS_ev (xs : List Int) (hn : xs.length ≤ 1048576) (k : Nat) (hk : xs.length < k) : laws_toIntS.f k xs = some xs := by
  unfold laws_toIntS.f
  rw [if_pos (by omega), if_pos (by omega)]
  exact toIntS_loop xs hn xs.length k _ 0 (by simp) (by omega) (by omega) hk (fun j hj => by omega)

theorem eqIntS_loop (xs : List Int) (hn : xs.length ≤ 1048576) : ∀ (d k : Nat) (i : Int), 0 ≤ i → (xs.length : Int) - i = d → d < k → laws_eqIntS.l0 k xs xs i = some true := by
  intro d
  induction d with
  | zero =>
    intro k i h0 hd hk
    obtain ⟨k, rfl⟩ : ∃ m, k = m + 1 := ⟨k - 1, by omega⟩
    simp only [laws_eqIntS.l0]
    rw [if_neg (by omega)]
  | succ d ih =>
    intro k i h0 hd hk
    obtain ⟨k, rfl⟩ : ∃ m, k = m + 1 := ⟨k - 1, by omega⟩
    simp only [laws_eqIntS.l0]
    rw [if_pos (by omega), if_pos h0, if_pos (by omega), if_pos trivial, wrap_small (n := xs.length) h0 (by omega) hn]
    exact ih k _ (by omega) (by omega) (by omega)

theorem eqIntS_ev (xs : List Int) (hn : xs.length ≤ 1048576) (k : Nat) (hk : xs.length < k) : laws_eqIntS.f k xs xs = some true := by
  unfold laws_eqIntS.f
  rw [if_pos rfl]
  exact eqIntS_loop xs hn xs.length k 0 (by omega) (by omega) hk

theorem markIntS_loop (n : Nat) (hn : n ≤ 1048576) : ∀ (d k : Nat) (acc : List Int) (c i : Int), acc.length = n → 0 ≤ i → (n : Int) - i = d → 0 ≤ c → c + d ≤ 4611686018427387904 → d < k →
    ∃ r, laws_markIntS.l0 k acc c i = some (c + d, r) ∧ r.length = n ∧ ∀ j : Nat, j < n → r.getD j 0 = if (j : Int) < i then acc.getD j 0 else c + (j - i) := by
  intro d
  induction d with
  | zero =>
    intro k acc c i hl h0 hd hc hb hk
    obtain ⟨k, rfl⟩ : ∃ m, k = m + 1 := ⟨k - 1, by omega⟩
    simp only [laws_markIntS.l0]
    rw [if_neg (by omega)]
    exact ⟨acc, by simp, hl, fun j hj => by rw [if_pos (by omega)]⟩
  | succ d ih =>
    intro k acc c i hl h0 hd hc hb hk
    obtain ⟨k, rfl⟩ : ∃ m, k = m + 1 := ⟨k - 1, by omega⟩
    simp only [laws_markIntS.l0]
    rw [if_pos (by omega), if_pos h0, wrap_small (n := n) h0 (by omega) hn, show wrap64 (c + 1) = c + 1 by unfold wrap64; omega]
    obtain ⟨r, hr, hrl, hrj⟩ := ih k (acc.set i.toNat c) (c + 1) (i + 1) (by simpa using hl) (by omega) (by omega) (by omega) (by omega) (by omega)
    refine ⟨r, by rw [hr]; congr 2; omega, hrl, fun j hj => ?_⟩
    rw [hrj j hj, getD_set _ _ _ _ (by omega)]
    by_cases h1 : (j : Int) < i
    · rw [if_pos (by omega), if_neg (by omega), if_pos h1]
    · rw [if_neg h1]
      by_cases h2 : (j : Int) = i
      · rw [if_pos (by omega), if_pos (by omega)]; omega
      · rw [if_neg (by omega)]; omega

theorem markIntS_ev (l : List Int) (hn : l.length ≤ 1048576) (c : Int) (hc : 0 ≤ c) (hb : c + l.length ≤ 4611686018427387904) (k : Nat) (hk : l.length < k) :
    ∃ r, laws_markIntS.f k l c = some (c + l.length, r) ∧ r.length = l.length ∧ ∀ j : Nat, j < l.length → r.getD j 0 = c + j := by
  obtain ⟨r, h1, h2, h3⟩ := markIntS_loop l.length hn l.length k l c 0 rfl (by omega) (by omega) hc hb hk
  refine ⟨r, h1, h2, fun j hj => ?_⟩
  rw [h3 j hj, if_neg (by omega)]; omega

theorem heldIntS_loop (l : List Int) (hn : l.length ≤ 1048576) : ∀ (d k : Nat) (c i : Int), 0 ≤ i → (l.length : Int) - i = d → 0 ≤ c → c + d ≤ 4611686018427387904 → d < k →
    (∀ j : Nat, i ≤ j → j < l.length → l.getD j 0 = c + (j - i)) → laws_heldIntS.l0 k l c i = some (c + d) := by
  intro d
  induction d with
  | zero =>
    intro k c i h0 hd hc hb hk hj
    obtain ⟨k, rfl⟩ : ∃ m, k = m + 1 := ⟨k - 1, by omega⟩
    simp only [laws_heldIntS.l0]
    rw [if_neg (by omega)]; simp
  | succ d ih =>
    intro k c i h0 hd hc hb hk hj
    obtain ⟨k, rfl⟩ : ∃ m, k = m + 1 := ⟨k - 1, by omega⟩
    have h1 : rd l i = c := by
      have := hj i.toNat (by omega) (by omega)
      unfold rd; rw [this]; omega
    simp only [laws_heldIntS.l0]
    rw [if_pos (by omega), if_pos h0, if_pos h1, wrap_small (n := l.length) h0 (by omega) hn, show wrap64 (c + 1) = c + 1 by unfold wrap64; omega]
    rw [ih k (c + 1) (i + 1) (by omega) (by omega) (by omega) (by omega) (by omega) (fun j h2 h3 => by rw [hj j (by omega) h3]; omega)]
    congr 1; omega

theorem heldIntS_ev (l : List Int) (hn : l.length ≤ 1048576) (c : Int) (hc : 0 ≤ c) (hb : c + l.length ≤ 4611686018427387904) (k : Nat) (hk : l.length < k) (hj : ∀ j : Nat, j < l.length → l.getD j 0 = c + j) :
    laws_heldIntS.f k l c = some (c + l.length) :=
  heldIntS_loop l hn l.length k c 0 (by omega) (by omega) hc hb hk (fun j _ h => by rw [hj j h]; omega)

theorem wrap_len {n : Nat} (hn : n ≤ 1048576) : wrap64 ((n : Int) - 1) = (n : Int) - 1 := by
  unfold wrap64; omega

theorem flip_both (l : List Int) (a : Int) (hn : l.length ≤ 1048576) : ∃ r, spec_FlipFlash.f l a = some r ∧ impl_FlipFlash.f l a = some r ∧ r.length = l.length := by
  have hlen : l.length < 17592186044416 := by omega
  unfold spec_FlipFlash.f impl_FlipFlash.f impl_copyOf.f spec_l1In.f impl_InRange.f
  simp only [Option.bind_some, List.length_nil, List.nil_append, Nat.zero_add, wrap_len hn, if_pos hlen, ge_iff_le]
  by_cases h0 : 0 ≤ a
  · simp only [if_pos h0]
    by_cases h1 : a ≤ (l.length : Int) - 1
    · have h1' : a < (l.length : Int) := by omega
      simp only [h1, decide_true, Option.bind_some, if_true, if_pos h1']
      by_cases h2 : 1 ≤ rd l a
      · simp only [if_pos h2]
        by_cases h3 : rd l a ≤ 2
        · simp only [h3, decide_true, Option.bind_some, if_true]
          exact ⟨_, rfl, rfl, by simp⟩
        · simp only [h3, decide_false, Option.bind_some]
          exact ⟨_, rfl, rfl, rfl⟩
      · simp only [if_neg h2, Option.bind_some]
        exact ⟨_, rfl, rfl, rfl⟩
    · simp only [h1, decide_false, Option.bind_some]
      exact ⟨_, rfl, rfl, rfl⟩
  · simp only [if_neg h0, Option.bind_some]
    exact ⟨_, rfl, rfl, rfl⟩

theorem FnExactFlipFlash : laws_FnExactFlipFlash.Stmt := by
  intro xs a _ _
  by_cases hbig : (xs.length : Int) > 1048576
  · exact ⟨0, by unfold laws_FnExactFlipFlash.f; rw [if_pos hbig]⟩
  · have hn : xs.length ≤ 1048576 := by omega
    obtain ⟨r, hs, hi, hl⟩ := flip_both xs a hn
    have t1 := fun k hk => toIntS_ev xs hn k hk
    have q1 := fun k hk => eqIntS_ev xs hn k hk
    have q2 := fun k hk => eqIntS_ev r (by omega) k hk
    refine ⟨xs.length + 2, ?_⟩
    obtain ⟨m1, hm1, _, _⟩ := markIntS_ev xs hn 1 (by omega) (by omega) (xs.length + 2) (by omega)
    obtain ⟨m2, hm2, hm2l, hm2j⟩ := markIntS_ev r (by omega) 1 (by omega) (by omega) (xs.length + 1) (by omega)
    have hh := heldIntS_ev m2 (by omega) 1 (by omega) (by omega) (xs.length + 1) (by omega) (fun j hj => hm2j j (by omega))
    rw [hm2l] at hh
    have hj0 : laws_FnExactFlipFlash.j0 (xs.length + 2) xs a r r false = some true := by
      simp only [laws_FnExactFlipFlash.j0]
      rw [if_neg (by simp), hm2]; simp only [Option.bind_some]
      rw [hh]; simp only [Option.bind_some]
      rw [if_neg (by omega), if_pos trivial, t1 _ (by omega)]; simp only [Option.bind_some]
      rw [hi]; simp only [Option.bind_some]
      rw [q2 _ (by omega)]; simp only [Option.bind_some, if_true]
      rw [if_neg (by omega)]
    unfold laws_FnExactFlipFlash.f
    rw [if_neg hbig, t1 _ (by omega)]; simp only [Option.bind_some]
    rw [hs]; simp only [Option.bind_some]
    rw [hi]; simp only [Option.bind_some]
    rw [q2 _ (by omega)]; simp only [Option.bind_some, if_true]
    rw [q1 _ (by omega)]; simp only [Option.bind_some, if_true]
    rw [hm1]; simp only [Option.bind_some]
    rw [if_neg (by omega)]
    exact hj0

end Go.Proofs.Ytfaepjoaihkonaa.Pure
