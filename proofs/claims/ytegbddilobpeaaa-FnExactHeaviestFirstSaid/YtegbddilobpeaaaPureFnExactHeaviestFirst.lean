/- The program's HeaviestFirst returns what the reference's HeaviestFirst returns, for every list of integers no longer than 2^20 (longer ones the statement lets pass), and leaves its argument as it was; each result is new memory. No further condition. -/
import Derived.Test.YtegbddilobpeaaaSFnExactHeaviestFirst
namespace Go.Proofs.Ytegbddilobpeaaa.Pure
open Go.RowKit Go.Proofs.Ytegbddilobpeaaa.Q Go.Proofs.YtegbddilobpeaaaW.PrintWords Go.Proofs.YtegbddilobpeaaaW.PrintLast Go.Proofs.YtegbddilobpeaaaW.PrintMore
set_option linter.unusedVariables false
set_option linter.unusedSimpArgs false

theorem ext_getD {α : Type} {d : α} {a b : List α} (h : a.length = b.length) (hj : ∀ j, j < a.length → a.getD j d = b.getD j d) : a = b := by
  apply List.ext_getElem h
  intro j h1 h2
  have := hj j h1
  simpa [List.getD_eq_getElem?_getD, List.getElem?_eq_getElem h1, List.getElem?_eq_getElem h2] using this

theorem getD_set {α : Type} {d : α} (a : List α) (i j : Nat) (v : α) (h : i < a.length) : (a.set i v).getD j d = if i = j then v else a.getD j d := by
  simp only [List.getD_eq_getElem?_getD, List.getElem?_set]
  by_cases e : i = j
  · subst e; simp [h]
  · simp [e]

theorem wrap_small {i : Int} {n : Nat} (h0 : 0 ≤ i) (h : i < (n : Int)) (hn : n ≤ 1048576) : wrap64 (i + 1) = i + 1 := by
  unfold wrap64; omega

theorem toIntS_loop (xs : List Int) (hn : xs.length ≤ 1048576) : ∀ (d k : Nat) (acc : List Int) (i : Int), acc.length = xs.length → 0 ≤ i → (xs.length : Int) - i = d → d < k →
    (∀ j : Nat, (j : Int) < i → acc.getD j 0 = xs.getD j 0) → laws_toIntS.l0 k xs acc i = some xs := by
  intro d
  induction d with
  | zero =>
    intro k acc i hl h0 hd hk hj
    obtain ⟨k, rfl⟩ : ∃ m, k = m + 1 := ⟨k - 1, by omega⟩
    simp only [laws_toIntS.l0]
    rw [if_neg (by omega)]
    exact congrArg some (ext_getD hl (fun j h => hj j (by omega)))
  | succ d ih =>
    intro k acc i hl h0 hd hk hj
    obtain ⟨k, rfl⟩ : ∃ m, k = m + 1 := ⟨k - 1, by omega⟩
    simp only [laws_toIntS.l0]
    rw [if_pos (by omega), if_pos h0, if_pos (by omega), wrap_small (n := xs.length) h0 (by omega) hn]
    refine ih k _ _ (by simpa using hl) (by omega) (by omega) (by omega) ?_
    intro j hj'
    rw [getD_set _ _ _ _ (by omega)]
    by_cases e : i.toNat = j
    · rw [if_pos e]; unfold rd; rw [e]
    · rw [if_neg e]; exact hj j (by omega)

theorem toIntS_ev (xs : List Int) (hn : xs.length ≤ 1048576) (k : Nat) (hk : xs.length < k) : laws_toIntS.f k xs = some xs := by
  unfold laws_toIntS.f
  rw [if_pos (by omega), if_pos (by omega)]
  exact toIntS_loop xs hn xs.length k _ 0 (by simp) (by omega) (by omega) hk (fun j hj => by omega)

theorem eqIntS_loop (xs : List Int) (hn : xs.length ≤ 1048576) : ∀ (d k : Nat) (i : Int), 0 ≤ i → (xs.length : Int) - i = d → d < k → laws_eqIntS.l0 k xs xs i = some true := by
  intro d
  induction d with
  | zero =>
    intro k i h0 hd hk
    obtain ⟨k, rfl⟩ : ∃ m, k = m + 1 := ⟨k - 1, by omega⟩
    simp only [laws_eqIntS.l0]
    rw [if_neg (by omega)]
  | succ d ih =>
    intro k i h0 hd hk
    obtain ⟨k, rfl⟩ : ∃ m, k = m + 1 := ⟨k - 1, by omega⟩
    simp only [laws_eqIntS.l0]
    rw [if_pos (by omega), if_pos h0, if_pos (by omega), if_pos trivial, wrap_small (n := xs.length) h0 (by omega) hn]
    exact ih k _ (by omega) (by omega) (by omega)

theorem eqIntS_ev (xs : List Int) (hn : xs.length ≤ 1048576) (k : Nat) (hk : xs.length < k) : laws_eqIntS.f k xs xs = some true := by
  unfold laws_eqIntS.f
  rw [if_pos rfl]
  exact eqIntS_loop xs hn xs.length k 0 (by omega) (by omega) hk

theorem markIntS_loop (n : Nat) (hn : n ≤ 1048576) : ∀ (d k : Nat) (acc : List Int) (c i : Int), acc.length = n → 0 ≤ i → (n : Int) - i = d → 0 ≤ c → c + d ≤ 4611686018427387904 → d < k →
    ∃ r, laws_markIntS.l0 k acc c i = some (c + d, r) ∧ r.length = n ∧ ∀ j : Nat, j < n → r.getD j 0 = if (j : Int) < i then acc.getD j 0 else c + (j - i) := by
  intro d
  induction d with
  | zero =>
    intro k acc c i hl h0 hd hc hb hk
    obtain ⟨k, rfl⟩ : ∃ m, k = m + 1 := ⟨k - 1, by omega⟩
    simp only [laws_markIntS.l0]
    rw [if_neg (by omega)]
    exact ⟨acc, by simp, hl, fun j hj => by rw [if_pos (by omega)]⟩
  | succ d ih =>
    intro k acc c i hl h0 hd hc hb hk
    obtain ⟨k, rfl⟩ : ∃ m, k = m + 1 := ⟨k - 1, by omega⟩
    simp only [laws_markIntS.l0]
    rw [if_pos (by omega), if_pos h0, wrap_small (n := n) h0 (by omega) hn, show wrap64 (c + 1) = c + 1 by unfold wrap64; omega]
    obtain ⟨r, hr, hrl, hrj⟩ := ih k (acc.set i.toNat c) (c + 1) (i + 1) (by simpa using hl) (by omega) (by omega) (by omega) (by omega) (by omega)
    refine ⟨r, by rw [hr]; congr 2; omega, hrl, fun j hj => ?_⟩
    rw [hrj j hj, getD_set _ _ _ _ (by omega)]
    by_cases h1 : (j : Int) < i
    · rw [if_pos (by omega), if_neg (by omega), if_pos h1]
    · rw [if_neg h1]
      by_cases h2 : (j : Int) = i
      · rw [if_pos (by omega), if_pos (by omega)]; omega
      · rw [if_neg (by omega)]; omega

theorem markIntS_ev (l : List Int) (hn : l.length ≤ 1048576) (c : Int) (hc : 0 ≤ c) (hb : c + l.length ≤ 4611686018427387904) (k : Nat) (hk : l.length < k) :
    ∃ r, laws_markIntS.f k l c = some (c + l.length, r) ∧ r.length = l.length ∧ ∀ j : Nat, j < l.length → r.getD j 0 = c + j := by
  obtain ⟨r, h1, h2, h3⟩ := markIntS_loop l.length hn l.length k l c 0 rfl (by omega) (by omega) hc hb hk
  refine ⟨r, h1, h2, fun j hj => ?_⟩
  rw [h3 j hj, if_neg (by omega)]; omega

theorem heldIntS_loop (l : List Int) (hn : l.length ≤ 1048576) : ∀ (d k : Nat) (c i : Int), 0 ≤ i → (l.length : Int) - i = d → 0 ≤ c → c + d ≤ 4611686018427387904 → d < k →
    (∀ j : Nat, i ≤ j → j < l.length → l.getD j 0 = c + (j - i)) → laws_heldIntS.l0 k l c i = some (c + d) := by
  intro d
  induction d with
  | zero =>
    intro k c i h0 hd hc hb hk hj
    obtain ⟨k, rfl⟩ : ∃ m, k = m + 1 := ⟨k - 1, by omega⟩
    simp only [laws_heldIntS.l0]
    rw [if_neg (by omega)]; simp
  | succ d ih =>
    intro k c i h0 hd hc hb hk hj
    obtain ⟨k, rfl⟩ : ∃ m, k = m + 1 := ⟨k - 1, by omega⟩
    have h1 : rd l i = c := by
      have := hj i.toNat (by omega) (by omega)
      unfold rd; rw [this]; omega
    simp only [laws_heldIntS.l0]
    rw [if_pos (by omega), if_pos h0, if_pos h1, wrap_small (n := l.length) h0 (by omega) hn, show wrap64 (c + 1) = c + 1 by unfold wrap64; omega]
    rw [ih k (c + 1) (i + 1) (by omega) (by omega) (by omega) (by omega) (by omega) (fun j h2 h3 => by rw [hj j (by omega) h3]; omega)]
    congr 1; omega

theorem heldIntS_ev (l : List Int) (hn : l.length ≤ 1048576) (c : Int) (hc : 0 ≤ c) (hb : c + l.length ≤ 4611686018427387904) (k : Nat) (hk : l.length < k) (hj : ∀ j : Nat, j < l.length → l.getD j 0 = c + j) :
    laws_heldIntS.f k l c = some (c + l.length) :=
  heldIntS_loop l hn l.length k c 0 (by omega) (by omega) hc hb hk (fun j _ h => by rw [hj j h]; omega)

def insA (x : List Int) (k : Nat) (v : Int) : List Int := (([] : List Int) ++ x.take k ++ [v]) ++ x.drop k
theorem insA_len (x : List Int) (k : Nat) (v : Int) (h : k ≤ x.length) : (insA x k v).length = x.length + 1 := by
  unfold insA; simp; omega
theorem insA_eq : ∀ (x : List Int) (k : Nat) (v : Int), k ≤ x.length → (shf (x ++ [0]) k).set k v = insA x k v
  | [], 0, v, _ => by simp [shf, insA]
  | a :: xs, 0, v, _ => by
    unfold shf insA
    simp only [List.cons_append, List.drop_zero, List.take_zero, List.nil_append, Nat.zero_add, List.take_succ_cons, List.length_cons, List.length_append, List.length_nil, List.set_cons_zero]
    congr 1
    rw [show xs.length + 1 + 1 - 1 = xs.length + 1 by omega, List.take_succ_cons]
    congr 1
    rw [List.take_left' rfl]
  | a :: xs, k + 1, v, h => by
    have ih := insA_eq xs k v (by simpa using h)
    have e : shf (a :: xs ++ [0]) (k + 1) = a :: shf (xs ++ [0]) k := by
      unfold shf
      simp only [List.cons_append, List.take_succ_cons, List.drop_succ_cons, List.length_cons, Nat.add_sub_add_right]
    rw [e, List.set_cons_succ, ih]
    unfold insA
    simp only [List.nil_append, List.take_succ_cons, List.drop_succ_cons, List.cons_append]
def okIdx (l out : List Int) : Prop := ∀ v ∈ out, 0 ≤ v ∧ v < (l.length : Int)
theorem okIdx_rd {l out : List Int} (h : okIdx l out) (j : Int) (h0 : 0 ≤ j) (h1 : j < (out.length : Int)) : 0 ≤ rd out j ∧ rd out j < (l.length : Int) := h _ (by
  unfold rd
  have h2 : j.toNat < out.length := by omega
  simp [List.getD_eq_getElem?_getD, List.getElem?_eq_getElem h2])
theorem okIdx_ins {l out : List Int} (h : okIdx l out) (k : Nat) (v : Int) (hv : 0 ≤ v ∧ v < (l.length : Int)) : okIdx l (insA out k v) := by
  intro x hx
  unfold insA at hx
  simp only [List.nil_append, List.mem_append, List.mem_singleton] at hx
  rcases hx with (hx | hx) | hx
  · exact h x (List.mem_of_mem_take hx)
  · rw [hx]; exact hv
  · exact h x (List.mem_of_mem_drop hx)
theorem heavy_inner (l out : List Int) (hn : l.length ≤ 1048576) (i : Int) (h0 : 0 ≤ i) (hi : i < (l.length : Int)) (hol : (out.length : Int) = i) (hok : okIdx l out)
    (hnext : ∀ p : Nat, p ≤ out.length → ∃ K r, r.length = l.length ∧ ∀ k, K < k → impl_HeaviestFirst.l0 k l (insA out p i) l (l.length : Int) (i + 1) = some r ∧ spec_HeaviestFirst.l0 k l (insA out p i) (i + 1) = some r) :
    ∀ (d : Nat), d ≤ out.length → ∃ K r, r.length = l.length ∧ ∀ k, K < k → impl_HeaviestFirst.l1 k l out i (rd l i) (d : Int) l (l.length : Int) i = some r ∧ spec_HeaviestFirst.l1 k l out i (d : Int) = some r := by
  have hlen : out.length < 17592186044416 := by omega
  have hlen2 : out.length + 1 < 17592186044416 := by omega
  have hwi : wrap64 (i + 1) = i + 1 := by unfold wrap64; omega
  have place : ∀ (d : Nat), d ≤ out.length → ∃ K r, r.length = l.length ∧ ∀ k, K < k → (impl_HeaviestFirst.l0 k l ((shf (out ++ [0]) (d : Int).toNat).set (d : Int).toNat i) l (l.length : Int) (i + 1) = some r ∧ spec_HeaviestFirst.l0 k l ((([] : List Int) ++ out.take (d : Int).toNat ++ [i]) ++ out.drop (d : Int).toNat) (i + 1) = some r) := by
    intro d hd
    obtain ⟨K, r, hr, h⟩ := hnext d hd
    refine ⟨K, r, hr, fun k hk => ?_⟩
    rw [Int.toNat_natCast, insA_eq out d i hd]
    exact h k hk
  intro d
  induction d with
  | zero =>
    intro hd
    obtain ⟨K, r, hr, h⟩ := place 0 hd
    refine ⟨K + 1, r, hr, fun k hk => ?_⟩
    obtain ⟨k, rfl⟩ : ∃ m, k = m + 1 := ⟨k - 1, by omega⟩
    have hz : ¬ ((0 : Nat) : Int) > 0 := by omega
    have g0 : (0 : Int) ≤ ((0 : Nat) : Int) := by omega
    have g1 : ((0 : Nat) : Int) < ((out ++ [0]).length : Int) := by rw [List.length_append, List.length_singleton]; omega
    have g2 : ((0 : Nat) : Int) ≤ (out.length : Int) := by omega
    simp only [impl_HeaviestFirst.l1, spec_HeaviestFirst.l1, if_neg hz, if_pos hlen, if_pos hlen2, Option.bind_some, if_pos g0, if_pos g1, if_pos g2, hwi]
    exact h k (by omega)
  | succ d ih =>
    intro hd
    have hz : ((d + 1 : Nat) : Int) > 0 := by omega
    have hw : wrap64 (((d + 1 : Nat) : Int) - 1) = (d : Int) := by unfold wrap64; omega
    have a0 : (0 : Int) ≤ (d : Int) := by omega
    have a1 : (d : Int) < (out.length : Int) := by omega
    obtain ⟨b0, b1⟩ := okIdx_rd hok (d : Int) a0 a1
    by_cases hc : rd l (rd out (d : Int)) < rd l i
    · obtain ⟨K, r, hr, h⟩ := ih (by omega)
      refine ⟨K + 1, r, hr, fun k hk => ?_⟩
      obtain ⟨k, rfl⟩ : ∃ m, k = m + 1 := ⟨k - 1, by omega⟩
      simp only [impl_HeaviestFirst.l1, spec_HeaviestFirst.l1, if_pos hz, hw, if_pos a0, if_pos a1, if_pos b0, if_pos b1, if_pos hc, if_pos h0, if_pos hi]
      exact h k (by omega)
    · obtain ⟨K, r, hr, h⟩ := place (d + 1) hd
      refine ⟨K + 1, r, hr, fun k hk => ?_⟩
      obtain ⟨k, rfl⟩ : ∃ m, k = m + 1 := ⟨k - 1, by omega⟩
      have g0 : (0 : Int) ≤ ((d + 1 : Nat) : Int) := by omega
      have g1 : ((d + 1 : Nat) : Int) < ((out ++ [0]).length : Int) := by rw [List.length_append, List.length_singleton]; omega
      have g2 : ((d + 1 : Nat) : Int) ≤ (out.length : Int) := by omega
      simp only [impl_HeaviestFirst.l1, spec_HeaviestFirst.l1, if_pos hz, hw, if_pos a0, if_pos a1, if_pos b0, if_pos b1, if_neg hc, if_pos h0, if_pos hi, if_pos hlen, if_pos hlen2, Option.bind_some, if_pos g0, if_pos g1, if_pos g2, hwi]
      exact h k (by omega)
theorem heavy_outer (l : List Int) (hn : l.length ≤ 1048576) : ∀ (e : Nat) (i : Int) (out : List Int), 0 ≤ i → (l.length : Int) - i = e → (out.length : Int) = i → okIdx l out →
    ∃ K r, r.length = l.length ∧ ∀ k, K < k → impl_HeaviestFirst.l0 k l out l (l.length : Int) i = some r ∧ spec_HeaviestFirst.l0 k l out i = some r := by
  intro e
  induction e with
  | zero =>
    intro i out h0 hd hol hok
    have hlt : ¬ i < (l.length : Int) := by omega
    refine ⟨0, out, by omega, fun k hk => ?_⟩
    obtain ⟨k, rfl⟩ : ∃ m, k = m + 1 := ⟨k - 1, by omega⟩
    simp only [impl_HeaviestFirst.l0, spec_HeaviestFirst.l0, if_neg hlt, and_self]
  | succ e ih =>
    intro i out h0 hd hol hok
    have hlt : i < (l.length : Int) := by omega
    obtain ⟨K, r, hr, h⟩ := heavy_inner l out hn i h0 hlt hol hok (fun p hp => ih (i + 1) (insA out p i) (by omega) (by omega) (by rw [insA_len out p i hp]; omega) (okIdx_ins hok p i ⟨h0, hlt⟩)) out.length (Nat.le_refl _)
    refine ⟨K + 1, r, hr, fun k hk => ?_⟩
    obtain ⟨k, rfl⟩ : ∃ m, k = m + 1 := ⟨k - 1, by omega⟩
    simp only [impl_HeaviestFirst.l0, spec_HeaviestFirst.l0, if_pos hlt, if_pos h0]
    exact h k (by omega)
theorem heavy_ev (l : List Int) (hn : l.length ≤ 1048576) : ∃ K r, r.length = l.length ∧ ∀ k, K < k → impl_HeaviestFirst.f k l = some r ∧ spec_HeaviestFirst.f k l = some r :=
  heavy_outer l hn l.length 0 [] (by omega) (by omega) (by simp) (by intro v hv; cases hv)

theorem FnExactHeaviestFirst : laws_FnExactHeaviestFirst.Stmt := by
  intro xs _
  by_cases hbig : (xs.length : Int) > 1048576
  · exact ⟨0, by unfold laws_FnExactHeaviestFirst.f; rw [if_pos hbig]⟩
  have hn : xs.length ≤ 1048576 := by omega
  obtain ⟨K, r, hrl, hr⟩ := heavy_ev xs hn
  obtain ⟨k, hk⟩ : ∃ k, k = K + xs.length + 10 := ⟨_, rfl⟩
  have hrn : r.length ≤ 1048576 := by omega
  obtain ⟨m1, hm1, _, _⟩ := markIntS_ev xs hn 1 (by omega) (by omega) (k + 1) (by omega)
  obtain ⟨m2, hm2, hm2l, hm2j⟩ := markIntS_ev r hrn 1 (by omega) (by omega) k (by omega)
  have hh := heldIntS_ev m2 (by omega) 1 (by omega) (by omega) k (by omega) (fun j hj => hm2j j (by omega))
  rw [hm2l] at hh
  obtain ⟨a1, a2⟩ := hr (k + 1) (by omega)
  obtain ⟨b1, _⟩ := hr k (by omega)
  have hneg : ¬ (1 + (r.length : Int) < 0) := by omega
  have hneg1 : ¬ (1 + (xs.length : Int) < 0) := by omega
  refine ⟨k + 1, ?_⟩
  unfold laws_FnExactHeaviestFirst.f
  rw [if_neg hbig]
  simp only [toIntS_ev xs hn (k + 1) (by omega), toIntS_ev xs hn k (by omega), a1, a2, b1, eqIntS_ev r hrn (k + 1) (by omega), eqIntS_ev r hrn k (by omega), eqIntS_ev xs hn (k + 1) (by omega), Option.bind_some, if_true, hm1, if_neg hneg1, laws_FnExactHeaviestFirst.j0, Bool.not_true, Bool.false_eq_true, if_false, hm2, hh, if_neg hneg]

end Go.Proofs.Ytegbddilobpeaaa.Pure
