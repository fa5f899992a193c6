/- Walks of 1 functions of the program: each comes to what a plain function tells. -/
import Derived.Test.YtegbddilobpeaaaG0
namespace Go.Proofs.Ytegbddilobpeaaa.Q
open Go.RowKit Go.Proofs.YtegbddilobpeaaaW.PrintWords Go.Proofs.YtegbddilobpeaaaW.PrintLast Go.Proofs.YtegbddilobpeaaaW.PrintMore Go.Proofs.YtegbddilobpeaaaW.Zip
attribute [local go_sem] max2_int min2_int max_two min_two max_three min_three max_four min_four   -- for this text's walks alone
set_option linter.unusedVariables false
set_option linter.unusedSimpArgs false


/-! ### impl_HeaviestFirst: function 15 -/
/-! #### copy within a row of the call's own -/
def shf (y : List Int) (k : Nat) : List Int := y.take (k + 1) ++ (y.drop k).take (y.length - (k + 1))
theorem shf_len (y : List Int) (k : Nat) (h : k < y.length) : (shf y k).length = y.length := by
  unfold shf; simp only [List.length_append, List.length_take, List.length_drop]; omega
def putAll : Nat → List Int → List Int → List Int
  | _, [], y => y
  | o, v :: r, y => putAll (o + 1) r (y.set o v)
theorem putAll_eq : ∀ (vs : List Int) (o : Nat) (y : List Int), o + vs.length ≤ y.length → putAll o vs y = y.take o ++ vs ++ y.drop (o + vs.length)
  | [], o, y, h => by simp [putAll]
  | v :: r, o, y, h => by
    simp only [List.length_cons] at h
    rw [putAll, putAll_eq r (o + 1) (y.set o v) (by simp; omega)]
    rw [List.take_set, List.drop_set]
    have h1 : o < y.length := by omega
    rw [if_pos (by omega), List.take_succ_eq_append_getElem h1, List.length_cons, show o + 1 + r.length = o + (r.length + 1) by omega]
    congr 1
    rw [List.set_append_right _ _ (by simp; omega)]
    simp [Nat.min_eq_left (Nat.le_of_lt h1)]
theorem R_putAll {e base g n cap : Nat} {ok : Nat → Prop} : ∀ (vs : List Int) (o : Nat) (W : World) (xs : List Int), (Kd.int .i64).R e W base ok (.slice (some ⟨g, 0, none⟩) n cap) xs →
    (Kd.int .i64).R e (W.setCells g o (vs.map (Value.int .i64))) base ok (.slice (some ⟨g, 0, none⟩) n cap) (putAll o vs xs) ∧ W.grownBy (W.setCells g o (vs.map (Value.int .i64))) (some g)
  | [], o, W, xs, h => ⟨h, World.grownBy.refl _ _⟩
  | v :: r, o, W, xs, h => by
    obtain ⟨h1, h2⟩ := Kd.R_putg h (o : Int) v
    rw [Int.toNat_natCast] at h1 h2
    obtain ⟨h3, h4⟩ := R_putAll r (o + 1) _ _ h1
    exact ⟨h3, h2.trans h4⟩
theorem run_shift {P : Program} {W : World} {t e ty : TypeId} {base g n cap : Nat} {ok : Nat → Prop} {xs : List Int} (ht : P.underlying t = some (.slice e)) (hs : (P.info? e).map (·.size) = some 1)
    (h : (Kd.int .i64).R e W base ok (.slice (some ⟨g, 0, none⟩) n cap) xs) (k : Nat) (hk : k < xs.length) (A B : Option Addr) (hA : k + 1 < xs.length → A = some ⟨g, k + 1, none⟩) (hB : B = some ⟨g, k, none⟩) (c1 c2 : Nat) :
    ∃ v W1, (Builtin.copy_ #[t, t] ty #[.slice A (xs.length - (k + 1)) c1, .slice B (xs.length - k) c2]).run P W = .ok v W1 ∧ (Kd.int .i64).R e W1 base ok (.slice (some ⟨g, 0, none⟩) n cap) (shf xs k) ∧ W.grownBy W1 (some g) := by
  obtain ⟨hn, hc, _⟩ := Kd.R_reads' h
  by_cases h1 : k + 1 < xs.length
  · obtain rfl := hA h1
    subst hB
    have hl : ((xs.drop k).take (xs.length - (k + 1))).length = xs.length - (k + 1) := by rw [List.length_take, List.length_drop]; omega
    have hr := run_copy_cells (P := P) W t t ty e g (k + 1) (xs.length - (k + 1)) c1 ⟨g, k, none⟩ (xs.length - k) c2 (((xs.drop k).take (xs.length - (k + 1))).map (Value.int .i64)) ht hs
      (by rw [List.length_map, hl]; exact (Nat.min_eq_right (by omega)).symm)
      (fun j v hv => by
        rw [List.getElem?_map] at hv
        have hj : j < xs.length - (k + 1) := by
          rcases Nat.lt_or_ge j ((xs.drop k).take (xs.length - (k + 1))).length with hj | hj
          · omega
          · rw [List.getElem?_eq_none hj] at hv; cases hv
        rw [List.getElem?_take_of_lt hj, List.getElem?_drop, List.getElem?_eq_getElem (by omega)] at hv
        simp only [Option.map_some, Option.some.injEq] at hv
        have h2 := (Kd.R_celln 0 h ((k + j : Nat) : Int) (by omega) (by omega)).1
        rw [Int.toNat_natCast] at h2
        have h3 : rdOf (0 : Int) xs ((k + j : Nat) : Int) = xs[k + j] := by unfold rdOf; rw [Int.toNat_natCast, List.getD_eq_getElem?_getD, List.getElem?_eq_getElem (by omega)]; rfl
        rw [h3] at h2
        rw [← hv, show (⟨g, k, none⟩ : Addr).add j = ⟨g, k + j, none⟩ by simp [Addr.add]]
        exact h2)
      (fun j hj => by
        rw [List.length_map, hl] at hj
        have h2 := (Kd.R_celln 0 h ((k + 1 + j : Nat) : Int) (by omega) (by omega)).1
        rw [Int.toNat_natCast] at h2
        rw [h2]; rfl)
      (fun j hj => by
        rw [List.length_map, hl] at hj
        have h2 := (Kd.R_celln 0 h ((k + 1 + j : Nat) : Int) (by omega) (by omega)).2
        rwa [Int.toNat_natCast] at h2)
      (fun v hv => by
        obtain ⟨x, _, rfl⟩ := List.mem_map.1 hv
        rfl)
    obtain ⟨h3, h4⟩ := R_putAll ((xs.drop k).take (xs.length - (k + 1))) (k + 1) W xs h
    refine ⟨_, _, hr, ?_, h4⟩
    have e0 : xs.drop (k + 1 + (xs.length - (k + 1))) = [] := List.drop_eq_nil_of_le (by omega)
    rw [putAll_eq _ _ _ (by rw [hl]; omega), hl, e0, List.append_nil] at h3
    exact h3
  · refine ⟨_, W, run_copy_none W t t ty e A B _ c1 _ c2 ht hs (by rw [show xs.length - (k + 1) = 0 by omega]; exact Nat.min_eq_right (Nat.zero_le _)), ?_, World.grownBy.refl _ _⟩
    have e1 : shf xs k = xs := by
      unfold shf
      rw [show xs.length - (k + 1) = 0 by omega, List.take_zero, List.append_nil, List.take_of_length_le (by omega)]
    rw [e1]; exact h
theorem drop_own {P : Program} (t e : TypeId) {i : TypeInfo} (ht : P.underlying t = some (.slice e)) (hi : P.info? e = some i) (hsz : i.size = 1) (g n c : Nat) (j : Int) (h0 : 0 ≤ j) (hm : j ≤ n) (hc : n ≤ c) :
    ∃ A' : Option Addr, (∀ W : World, (Instr.slice t (.slice (some ⟨g, 0, none⟩) n c) (some (.int .i64 j)) none none).run P W = .ok (.slice A' (n - j.toNat) (c - j.toNat)) W) ∧ (j < n → A' = some ⟨g, j.toNat, none⟩) := by
  have hel : P.elem t = e := by simp [Program.elem, ht]
  have hu : P.underlying t = some (.slice (P.elem t)) := by rw [hel]; exact ht
  refine ⟨if c = j.toNat then some ⟨g, 0, none⟩ else some ((⟨g, 0, none⟩ : Addr).add j.toNat), fun W => ?_, fun h => ?_⟩
  · rw [run_slice_l W t _ n c hu .i64 j h0 (by omega), hel]
    simp [sizeOf, typeInfo, hi, hsz, sliced, Result.andThen]
  · rw [if_neg (by omega)]
    by_cases hz : j.toNat = 0
    · simp [Addr.add, hz]
    · simp [Addr.add, hz]
theorem step_copy {P : Program} {ops : Array Oper} {o : Oper} {a : Act} {w : World} {K : Act → World → Prop} {Q : Exit → Act → World → Prop} {E : Prop} {v : Value} {W1 : World} {t ty : TypeId} {u y : Value} (hr : (Builtin.copy_ #[t, t] ty #[u, y]).run P w = .ok v W1) (s x : Operand)
    (hg : o.guard = none) (hty : o.type = ty) (hop : o.op = .call { callee := .builtin .copy, args := #[s, x], argTypes := #[t, t] }) (hs : a.eval s = u) (hx : a.eval x = y)
    (N : Option Tmp) (hN : o.dst = N) (hK : K (a.put N v) W1) : if Region.wanted o (yielded ops a.tmps) = true then Oper.wp P o a w K Q else E := by
  have hw : Region.wanted o (yielded ops a.tmps) = true := by simp [Region.wanted, hg]
  rw [if_pos hw]
  subst hty
  subst hN
  unfold Oper.wp
  simp [execOp, hop, resolve, invoke, builtin, hs, hx, hr, Result.andThen]
  exact hK
mutual
def impl_HeaviestFirst.l0 : Nat → List Int → List Int → List Int → Int → Int → Option (List Int)
  | 0, _, _, _, _, _ => none
  | k + 1, x0, x3, x8, x9, x10 => if x10 < x9 then (if 0 ≤ x10 then (if x10 < (x8.length : Int) then (impl_HeaviestFirst.l1 k x0 x3 x10 (rd x8 x10) (x3.length : Int) x8 x9 x10) else (none)) else (none)) else (some x3)
def impl_HeaviestFirst.l1 : Nat → List Int → List Int → Int → Int → Int → List Int → Int → Int → Option (List Int)
  | 0, _, _, _, _, _, _, _, _ => none
  | k + 1, x0, x3, x4, x5, x6, x8, x9, x10 => if x6 > 0 then (if 0 ≤ (wrap64 (x6 - 1)) then (if (wrap64 (x6 - 1)) < (x3.length : Int) then (if 0 ≤ (rd x3 (wrap64 (x6 - 1))) then (if (rd x3 (wrap64 (x6 - 1))) < (x0.length : Int) then (if (rd x0 (rd x3 (wrap64 (x6 - 1)))) < x5 then (impl_HeaviestFirst.l1 k x0 x3 x4 x5 (wrap64 (x6 - 1)) x8 x9 x10) else (if x3.length < 17592186044416 then ((some (x3 ++ [0] : List Int)).bind fun y164 => (if 0 ≤ x6 then (if x6 < (y164.length : Int) then (impl_HeaviestFirst.l0 k x0 ((shf y164 (x6 : Int).toNat).set (x6 : Int).toNat x4) x8 x9 (wrap64 (x10 + 1))) else (none)) else (none))) else (none))) else (none)) else (none)) else (none)) else (none)) else (if x3.length < 17592186044416 then ((some (x3 ++ [0] : List Int)).bind fun y168 => (if 0 ≤ x6 then (if x6 < (y168.length : Int) then (impl_HeaviestFirst.l0 k x0 ((shf y168 (x6 : Int).toNat).set (x6 : Int).toNat x4) x8 x9 (wrap64 (x10 + 1))) else (none)) else (none))) else (none))
end
def impl_HeaviestFirst.f (k : Nat) (l0 : List Int) : Option (List Int) := impl_HeaviestFirst.l0 k l0 (([] : List Int)) l0 (l0.length : Int) 0
theorem impl_HeaviestFirst.mono_l : ∀ k, (∀ y0 y1 y2 y3 y4, LeO (impl_HeaviestFirst.l0 k y0 y1 y2 y3 y4) (impl_HeaviestFirst.l0 (k + 1) y0 y1 y2 y3 y4)) ∧ (∀ y0 y1 y2 y3 y4 y5 y6 y7, LeO (impl_HeaviestFirst.l1 k y0 y1 y2 y3 y4 y5 y6 y7) (impl_HeaviestFirst.l1 (k + 1) y0 y1 y2 y3 y4 y5 y6 y7))
  | 0 => ⟨fun _ _ _ _ _ r h => by simp [impl_HeaviestFirst.l0] at h, fun _ _ _ _ _ _ _ _ r h => by simp [impl_HeaviestFirst.l1] at h⟩
  | k + 1 => by
    obtain ⟨ih0, ih1⟩ := impl_HeaviestFirst.mono_l k
    refine ⟨?_, ?_⟩
    · intro y0 y1 y2 y3 y4
      unfold impl_HeaviestFirst.l0
      repeat' first
      | (with_reducible exact ih0 _ _ _ _ _)
      | (with_reducible exact ih1 _ _ _ _ _ _ _ _)
      | (with_reducible exact LeO.refl _)
      | (with_reducible exact LeO.none _)
      | (with_reducible refine LeO.ite ?_ ?_)
      | (with_reducible refine LeO.bind ?_ (fun _ => ?_))
      | exact ih0 _ _ _ _ _
      | exact ih1 _ _ _ _ _ _ _ _
      | exact LeO.none _
      | refine LeO.ite ?_ ?_
      | refine LeO.bind ?_ (fun _ => ?_)
    · intro y0 y1 y2 y3 y4 y5 y6 y7
      unfold impl_HeaviestFirst.l1
      repeat' first
      | (with_reducible exact ih0 _ _ _ _ _)
      | (with_reducible exact ih1 _ _ _ _ _ _ _ _)
      | (with_reducible exact LeO.refl _)
      | (with_reducible exact LeO.none _)
      | (with_reducible refine LeO.ite ?_ ?_)
      | (with_reducible refine LeO.bind ?_ (fun _ => ?_))
      | exact ih0 _ _ _ _ _
      | exact ih1 _ _ _ _ _ _ _ _
      | exact LeO.none _
      | refine LeO.ite ?_ ?_
      | refine LeO.bind ?_ (fun _ => ?_)
theorem impl_HeaviestFirst.mono : ∀ a0 k, LeO (impl_HeaviestFirst.f k a0) (impl_HeaviestFirst.f (k + 1) a0) := by
  intro a0 k
  obtain ⟨ih0, ih1⟩ := impl_HeaviestFirst.mono_l k
  unfold impl_HeaviestFirst.f
  repeat' first
      | (with_reducible exact ih0 _ _ _ _ _)
      | (with_reducible exact ih1 _ _ _ _ _ _ _ _)
      | (with_reducible exact LeO.refl _)
      | (with_reducible exact LeO.none _)
      | (with_reducible refine LeO.ite ?_ ?_)
      | (with_reducible refine LeO.bind ?_ (fun _ => ?_))
      | exact ih0 _ _ _ _ _
      | exact ih1 _ _ _ _ _ _ _ _
      | exact LeO.none _
      | refine LeO.ite ?_ ?_
      | refine LeO.bind ?_ (fun _ => ?_)
def impl_HeaviestFirst.T9 : Bool × List (List Nat × List Nat) := (true, [([], []), ([], []), ([1], [1]), ([0, 2], [0, 2]), ([], []), ([], []), ([4, 5], [4, 5]), ([3, 6], [3, 6])])
theorem impl_HeaviestFirst.tab9 : rtab .any (opsOf Try.f15 9) = impl_HeaviestFirst.T9 := by kernel_rfl
set_option maxHeartbeats 8000000 in
set_option maxRecDepth 100000 in
theorem impl_HeaviestFirst.calls (k : Nat) (A0 : Option Addr) (c0 : Nat) (l0 : List Int) (r : List Int) (w : World) (hr0 : Kd.C (Kd.int .i64) w A0 l0.length l0) (hc0 : l0.length ≤ c0) (h : impl_HeaviestFirst.f k l0 = some r) :
    Calls Try.prog 15 #[.slice A0 l0.length c0] w fun e w' => ∃ v0_ : Value, e = .returned (v0_) ∧ Kd.R (Kd.int .i64) 3 w' w.heap.size (fun _ => True) v0_ r ∧ Below w.heap.size w w' := by
  have HR0 := Aside0.mk hr0
  have HC0 := Aside0.mk hc0
  clear hr0 hc0
  have HB := Aside0.mk (Below.refl w.heap.size w)
  have H : (impl_HeaviestFirst.l0 k l0 (([] : List Int)) l0 (l0.length : Int) 0) = some r := h
  clear h
  obtain ⟨y158, hy158⟩ : ∃ y_ : List Int, y_ = (([] : List Int)) := ⟨_, rfl⟩
  replace H : (impl_HeaviestFirst.l0 k l0 y158 l0 (l0.length : Int) 0) = some r := by first | (rw [hy158]; with_reducible exact H) | (have H2_ := (Option.bind_some _ _).symm.trans H; rw [hy158]; with_reducible exact H2_) | (have H2_ := (Option.bind_some _ _).symm.trans H; with_reducible exact H2_) | with_reducible exact H | (rw [hy158]; exact H) | exact H
  have Ny158 := Aside0.mk hy158
  clear hy158
  have H' := Aside0.mk H
  clear H
  go_enter Try.func15, Try.ntmps15
  go_wp2_with (first | ((with_reducible refine gate_dst (N := 7) rfl ?_); refine Kd.R_lit (Kd.int .i64) _ 3 ?hg (N := 7) ?hd (xs := ([] : List Int)) (inner := []) (ok := fun _ => True) (okp := fun _ => True) ?hr ?hp (fun _ hk => hk) trivial (Below.refl _ _) (Nat.le_refl _) (by simp) ?_; (case hd => rfl); (case hg => rfl); (case hr => first | (go_simp; done) | (go_simp; rfl)); (case hp => exact (Reps.none _ _)); intro v159 w2 ho3 hb hg_ hnew_; clear hg_ hnew_; (first | rw [← Ny158.out] at ho3 | (simp only [Int.reduceToNat] at ho3; rw [← Ny158.out] at ho3)); have n0_ := Aside0.mk (Kd.R_lower ho3 (below_size (by repeat (first | (with_reducible first | exact HB.out | apply below_alloc | apply pw_below_drewN | apply below_drew1) | exact HB.out)))); have n1_ := Aside0.mk (below_step (by repeat (first | (with_reducible first | exact HB.out | apply below_alloc | apply pw_below_drewN | apply below_drew1) | exact HB.out)) hb); clear HB; have HO160 := n0_; have HB := n1_; clear n0_ n1_; clear hb ho3))
  go_loopg [3, 10] k (fun kq v3 v10 w' => ∃ (x3_1 : List Int) (x10_1 : Int), v10 = .int .i64 x10_1 ∧ Aside0 (impl_HeaviestFirst.l0 kq l0 x3_1 l0 (l0.length : Int) x10_1 = some r) ∧ Aside0 (kq ≤ k) ∧ Aside0 (Kd.R (Kd.int .i64) 3 w' w.heap.size (fun _ => True) v3 x3_1) ∧ Aside0 (Below w.heap.size w w'))
  case atStart => exact ⟨(y158), (0), (by first | rfl | (simp; done) | (simp [*]; done)), H', ⟨Nat.le_refl _⟩, ⟨by (with_reducible repeat (first | apply Kd.R_alloc | apply Kd.R_drewN | apply Kd.R_drew)); exact HO160.out⟩, ⟨by repeat (first | (with_reducible first | exact HB.out | apply below_alloc | apply pw_below_drewN | apply below_drew1) | exact HB.out)⟩⟩
  case round =>
    clear H'
    try clear c1
    try clear p2
    obtain ⟨x3_1, x10_1, rfl, HA, HK1, HO_3, HB⟩ := hrel
    cases gk with
    | zero => exact absurd HA.out (by simp [impl_HeaviestFirst.l0])
    | succ k1 =>
      have H := HA.out
      clear HA
      simp only [impl_HeaviestFirst.l0] at H
      by_cases c4 : x10_1 < (l0.length : Int)
      · rw [if_pos c4] at H
        have c4b0 : decide (x10_1 < (l0.length : Int)) = true := decide_eq_true c4
        clear c4
        by_cases c5 : 0 ≤ x10_1
        · rw [if_pos c5] at H
          have c5b0 : decide (0 ≤ x10_1) = true := decide_eq_true c5
          clear c5
          by_cases c6 : x10_1 < (l0.length : Int)
          · rw [if_pos c6] at H
            have c6b0 : decide (x10_1 < (l0.length : Int)) = true := decide_eq_true c6
            clear c6
            have H' := Aside0.mk H
            clear H
            have p161 : 0 ≤ (x10_1 : Int) := of_decide_eq_true (by first | (with_reducible assumption) | assumption)
            have q161 : x10_1 < (l0.length : Int) := of_decide_eq_true (by first | (with_reducible assumption) | assumption)
            obtain ⟨ad161, e161, hx161_0⟩ := Kd.at_int HR0.out x10_1 p161 q161
            cases e161
            replace hx161_0 := (HB.out.cell (World.block_lt_of_cell? w _ hx161_0)).trans hx161_0
            replace p161 := eq_true p161
            replace q161 := eq_true q161
            obtain ⟨Ao7, co7, eo7⟩ := Kd.R_slice HO_3.out
            subst eo7
            go_wp2
            go_loopg [6] k1 (fun kq v6 w' => ∃ (x6_2 : Int), v6 = .int .i64 x6_2 ∧ Aside0 (impl_HeaviestFirst.l1 kq l0 x3_1 x10_1 (rd l0 x10_1) x6_2 l0 (l0.length : Int) x10_1 = some r) ∧ Aside0 (kq ≤ k1) ∧ Aside0 (Kd.R (Kd.int .i64) 3 w' w.heap.size (fun _ => True) (.slice Ao7 x3_1.length co7) x3_1) ∧ Aside0 (Below w.heap.size w w'))
            case atStart => exact ⟨((x3_1.length : Int)), (by first | rfl | (simp; done) | (simp [*]; done)), H', ⟨Nat.le_refl _⟩, ⟨by (with_reducible repeat (first | apply Kd.R_alloc | apply Kd.R_drewN | apply Kd.R_drew)); exact HO_3.out⟩, ⟨by repeat (first | (with_reducible first | exact HB.out | apply below_alloc | apply pw_below_drewN | apply below_drew1) | exact HB.out)⟩⟩
            case round =>
              clear H'
              try clear c1
              try clear p1
              try clear q1
              try clear hx1
              try clear p2
              try clear c4
              try clear c4b0
              try clear c5
              try clear c5b0
              try clear c6
              try clear c6b0
              try clear hx161_0
              try clear p161
              try clear p2
              try clear q161
              obtain ⟨x6_2, rfl, HA, HK2, HO_3, HB⟩ := hrel
              cases gk with
              | zero => exact absurd HA.out (by simp [impl_HeaviestFirst.l1])
              | succ k2 =>
                have H := HA.out
                clear HA
                simp only [impl_HeaviestFirst.l1] at H
                by_cases c8 : x6_2 > 0
                · rw [if_pos c8] at H
                  have c8b0 : decide (0 < x6_2) = true := decide_eq_true c8
                  clear c8
                  obtain ⟨ji9, hji9⟩ : ∃ j_ : Int, (wrap64 (x6_2 - 1)) = j_ := ⟨_, rfl⟩
                  replace H : (if 0 ≤ (ji9) then (if (ji9) < (x3_1.length : Int) then (if 0 ≤ (rd x3_1 (ji9)) then (if (rd x3_1 (ji9)) < (l0.length : Int) then (if (rd l0 (rd x3_1 (ji9))) < (rd l0 x10_1) then (impl_HeaviestFirst.l1 k2 l0 x3_1 x10_1 (rd l0 x10_1) ji9 l0 (l0.length : Int) x10_1) else (if x3_1.length < 17592186044416 then ((some (x3_1 ++ [0] : List Int)).bind fun y164 => (if 0 ≤ x6_2 then (if x6_2 < (y164.length : Int) then (impl_HeaviestFirst.l0 k2 l0 ((shf y164 (x6_2 : Int).toNat).set (x6_2 : Int).toNat x10_1) l0 (l0.length : Int) (wrap64 (x10_1 + 1))) else (none)) else (none))) else (none))) else (none)) else (none)) else (none)) else (none)) = some r := by first | (rw [hji9] at H; exact H) | (simp only [hji9] at H ⊢; exact H)
                  have hji9w : (IntKind.i64.wrap (x6_2 - 1)) = ji9 := (i64_w _).trans hji9
                  by_cases c10 : 0 ≤ (ji9)
                  · rw [if_pos c10] at H
                    have c10b0 : decide (0 ≤ (ji9)) = true := decide_eq_true c10
                    clear c10
                    by_cases c11 : (ji9) < (x3_1.length : Int)
                    · rw [if_pos c11] at H
                      have c11b0 : decide ((ji9) < (x3_1.length : Int)) = true := decide_eq_true c11
                      clear c11
                      by_cases c12 : 0 ≤ (rd x3_1 (ji9))
                      · rw [if_pos c12] at H
                        have c12b0 : decide (0 ≤ (rd x3_1 (ji9))) = true := decide_eq_true c12
                        clear c12
                        by_cases c13 : (rd x3_1 (ji9)) < (l0.length : Int)
                        · rw [if_pos c13] at H
                          have c13b0 : decide ((rd x3_1 (ji9)) < (l0.length : Int)) = true := decide_eq_true c13
                          clear c13
                          by_cases c14 : (rd l0 (rd x3_1 (ji9))) < (rd l0 x10_1)
                          · rw [if_pos c14] at H
                            have c14b0 : decide ((rd l0 (rd x3_1 (ji9))) < (rd l0 x10_1)) = true := decide_eq_true c14
                            clear c14
                            have H' := Aside0.mk H
                            clear H
                            have p162 : 0 ≤ ((ji9) : Int) := of_decide_eq_true (by first | (with_reducible assumption) | assumption)
                            have q162 : (ji9) < (x3_1.length : Int) := of_decide_eq_true (by first | (with_reducible assumption) | assumption)
                            obtain ⟨ad162, e162, hx162_0⟩ := Kd.at_int (Kd.R_reads' HO_3.out).2.2 (ji9) p162 q162
                            cases e162
                            replace p162 := eq_true p162
                            replace q162 := eq_true q162
                            have p163 : 0 ≤ ((rd x3_1 (ji9)) : Int) := of_decide_eq_true (by first | (with_reducible assumption) | assumption)
                            have q163 : (rd x3_1 (ji9)) < (l0.length : Int) := of_decide_eq_true (by first | (with_reducible assumption) | assumption)
                            obtain ⟨ad163, e163, hx163_0⟩ := Kd.at_int HR0.out (rd x3_1 (ji9)) p163 q163
                            obtain rfl : ad161 = ad163 := (by injection e163)
                            replace hx163_0 := (HB.out.cell (World.block_lt_of_cell? w _ hx163_0)).trans hx163_0
                            replace p163 := eq_true p163
                            replace q163 := eq_true q163
                            go_wp2
                            go_roundg k2
                            case measure => have := HK1.out; have := HK2.out; omega
                            case rel => exact ⟨(ji9), (by first | rfl | (simp; done) | (simp only [← hji9] <;> (first | rfl | simp)) | (simp [*]; done)), H', ⟨by have := HK1.out; have := HK2.out; omega⟩, ⟨by (with_reducible repeat (first | apply Kd.R_alloc | apply Kd.R_drewN | apply Kd.R_drew)); exact HO_3.out⟩, ⟨by repeat (first | (with_reducible first | exact HB.out | apply below_alloc | apply pw_below_drewN | apply below_drew1) | exact HB.out)⟩⟩
                          · rw [if_neg c14] at H
                            have c14b0 : decide ((rd l0 (rd x3_1 (ji9))) < (rd l0 x10_1)) = false := decide_eq_false c14
                            clear c14
                            by_cases c15 : x3_1.length < 17592186044416
                            · rw [if_pos c15] at H
                              have LMc15 := Aside0.mk c15
                              clear c15
                              obtain ⟨y164, hy164⟩ : ∃ y_ : List Int, y_ = (x3_1 ++ [0]) := ⟨_, rfl⟩
                              replace H : (if 0 ≤ x6_2 then (if x6_2 < (y164.length : Int) then (impl_HeaviestFirst.l0 k2 l0 ((shf y164 (x6_2 : Int).toNat).set (x6_2 : Int).toNat x10_1) l0 (l0.length : Int) (wrap64 (x10_1 + 1))) else (none)) else (none)) = some r := by first | (rw [hy164]; with_reducible exact H) | (have H2_ := (Option.bind_some _ _).symm.trans H; rw [hy164]; with_reducible exact H2_) | (have H2_ := (Option.bind_some _ _).symm.trans H; with_reducible exact H2_) | with_reducible exact H | (rw [hy164]; exact H) | exact H
                              have Ny164 := Aside0.mk hy164
                              clear hy164
                              by_cases c16 : 0 ≤ x6_2
                              · rw [if_pos c16] at H
                                have c16b0 : decide (0 ≤ x6_2) = true := decide_eq_true c16
                                clear c16
                                by_cases c17 : x6_2 < (y164.length : Int)
                                · rw [if_pos c17] at H
                                  have c17b0 : decide (x6_2 < (y164.length : Int)) = true := decide_eq_true c17
                                  clear c17
                                  obtain ⟨y167, hy167⟩ : ∃ y_ : List Int, y_ = ((shf y164 (x6_2 : Int).toNat).set (x6_2 : Int).toNat x10_1) := ⟨_, rfl⟩
                                  replace H : (impl_HeaviestFirst.l0 k2 l0 y167 l0 (l0.length : Int) (wrap64 (x10_1 + 1))) = some r := by first | (rw [hy167]; with_reducible exact H) | (have H2_ := (Option.bind_some _ _).symm.trans H; rw [hy167]; with_reducible exact H2_) | (have H2_ := (Option.bind_some _ _).symm.trans H; with_reducible exact H2_) | with_reducible exact H | (rw [hy167]; exact H) | exact H
                                  have Ny167 := Aside0.mk hy167
                                  clear hy167
                                  have H' := Aside0.mk H
                                  clear H
                                  have p162 : 0 ≤ ((ji9) : Int) := of_decide_eq_true (by first | (with_reducible assumption) | assumption)
                                  have q162 : (ji9) < (x3_1.length : Int) := of_decide_eq_true (by first | (with_reducible assumption) | assumption)
                                  obtain ⟨ad162, e162, hx162_0⟩ := Kd.at_int (Kd.R_reads' HO_3.out).2.2 (ji9) p162 q162
                                  cases e162
                                  replace p162 := eq_true p162
                                  replace q162 := eq_true q162
                                  have p163 : 0 ≤ ((rd x3_1 (ji9)) : Int) := of_decide_eq_true (by first | (with_reducible assumption) | assumption)
                                  have q163 : (rd x3_1 (ji9)) < (l0.length : Int) := of_decide_eq_true (by first | (with_reducible assumption) | assumption)
                                  obtain ⟨ad163, e163, hx163_0⟩ := Kd.at_int HR0.out (rd x3_1 (ji9)) p163 q163
                                  obtain rfl : ad161 = ad163 := (by injection e163)
                                  replace hx163_0 := (HB.out.cell (World.block_lt_of_cell? w _ hx163_0)).trans hx163_0
                                  replace p163 := eq_true p163
                                  replace q163 := eq_true q163
                                  go_wp2_with (first | ((with_reducible refine gate_builtin (b := .append) (xs := #[.tmp 33, .tmp 34]) rfl ?_); at_builtin; refine Kd.R_append (Kd.int .i64) (w0 := w) w.heap.size rfl (.tmp 33) (.tmp 34) 22 3 (.int .i64 0) 8 rfl Try.underlying22 info3 rfl (by decide) (by omega) (.slice (some ad162) x3_1.length co7) x3_1 0 [.int .i64 0] (fun _ => True) (fun _ => False) rfl rfl ?aP (fun _ hk => hk.elim) ?aF ?aO ?aB ?aS ?aL ?_; (case aP => exact rfl); (case aB => exact (by repeat (first | (with_reducible first | exact HB.out | apply below_alloc | apply pw_below_drewN | apply below_drew1) | exact HB.out))); (case aF => exact (fun _ _ => trivial)); (case aO => exact (by (with_reducible repeat (first | apply Kd.R_alloc | apply Kd.R_drewN | apply Kd.R_drew)); exact HO_3.out)); (case aS => exact (below_size (by repeat (first | (with_reducible first | exact HB.out | apply below_alloc | apply pw_below_drewN | apply below_drew1) | exact HB.out)))); (case aL => have := LMc15.out; omega); intro v165 w19 ho hb hg hat; rw [← Ny164.out] at ho; have n0_ := Aside0.mk (hb); have n1_ := Aside0.mk (ho); clear HB; clear HO_3; have HB := n0_; have HO166 := n1_; clear n0_ n1_; clear ho hb hg hat))
                                  have p18 : 0 ≤ (x6_2 : Int) := of_decide_eq_true (by first | (with_reducible assumption) | assumption); have q18 : (x6_2 : Int) < ((y164.length : Int) : Int) := of_decide_eq_true (by first | (with_reducible assumption) | assumption); obtain ⟨go18, co18, eo18, gb18, gl18, cl18, HG18⟩ := Kd.R_form HO166.out (by omega); (first | cases eo18 | (injection eo18 with ea_ en_ ec_; (first | subst ea_ | (injection ea_ with ea_; subst ea_)); subst ec_; clear en_)); have GB18 := Aside0.mk gb18; have GG18 := Aside0.mk HG18; clear gb18 gl18 HG18; have YL := shf_len y164 (x6_2 : Int).toNat (by omega); obtain ⟨i0c, hi0c, _, hszc, _⟩ := info_parts info3; obtain ⟨hnn_, hcc_, _⟩ := Kd.R_reads' HO166.out; have j1w_ : IntKind.i64.wrap (x6_2 + 1) = x6_2 + 1 := (i64_w _).trans (by have hly_ := congrArg List.length Ny164.out; simp only [List.length_append, List.length_singleton] at hly_; have hlm_ := LMc15.out; unfold wrap64; omega); obtain ⟨Ad_, hcd_, had_⟩ := drop_own (P := Try.prog) 22 3 Try.underlying22 hi0c hszc go18 y164.length co18 (x6_2 + 1) (by omega) (by omega) hcc_; obtain ⟨As_, hcs_, has_⟩ := drop_own (P := Try.prog) 22 3 Try.underlying22 hi0c hszc go18 y164.length co18 x6_2 (by omega) (by omega) hcc_; have k1_ : (x6_2 + 1).toNat = x6_2.toNat + 1 := (by omega); rw [k1_] at hcd_ had_; obtain rfl := (has_ (by omega)).symm; have RUN_ := Aside0.mk (fun (w_ : World) (h_ : Kd.R (Kd.int .i64) 3 w_ w.heap.size (fun _ => True) (.slice (some ⟨go18, 0, none⟩) y164.length co18) y164) => run_shift (P := Try.prog) (t := 22) (e := 3) (ty := 3) Try.underlying22 (by simp [hi0c, hszc]) h_ x6_2.toNat (by omega) Ad_ _ (fun h_ => had_ (by omega)) rfl (co18 - (x6_2.toNat + 1)) (co18 - x6_2.toNat)); clear hszc hi0c hnn_ hcc_ had_ has_
                                  go_wp2_with fail
                                  refine start_ (n := 8) (S := fun _ => True) (ds := []) _ (by kernel_rfl) rfl rfl trivial (fun _ => ?_); refine with_tab impl_HeaviestFirst.tab9 (fun HT_ => ?_); replace HO166 := Aside0.mk (Kd.R_drew HO166.out); replace HB := Aside0.mk (below_drew1 HB.out); generalize w19.drew = wd_ at HO166 HB ⊢
                                  obtain ⟨vc_, wc_, e_, r_, g_⟩ := RUN_.out wd_ HO166.out; have BB_ := Aside0.mk (Below.grown HB.out g_ (below_size HB.out) (fun k_ hk_ => by injection hk_ with hk_; rw [← hk_]; exact GB18.out)); have RR_ := Aside0.mk r_; have EE_ := Aside0.mk e_; clear e_ r_ g_ RUN_
                                  refine zp 0 36 HT_ ?_; refine zp 1 37 HT_ ?_; refine zp 2 38 HT_ ?_; refine zp 3 39 HT_ ?_; refine zp 4 40 HT_ ?_; refine zp 5 41 HT_ ?_; refine zp 6 42 HT_ ?_
                                  refine zo 7 43 HT_ (fun K hK => ?_)
                                  refine step_copy EE_.out (.tmp 39) (.tmp 42) (by rfl) (by rfl) (by rfl) (by rfl) (by rfl) (some 43) (by rfl) ?_
                                  refine hK.out _ _ trivial (fun _ => ?_); clear hK K; refine norm_ (a' := ?_) ?_ ?_; rotate_left
                                  · show Act.put _ (some 43) _ = _
                                    simp only [Act.put, List.setIfInBounds_toArray, List.set_cons_zero, List.set_cons_succ, i64_w, i32_w]; rfl
                                  refine done_ (done_of HT_.out (by kernel_rfl)) ?_
                                  have n0_ := RR_; have n1_ := BB_; clear HB; clear HO166; have HB := n1_; have HO166 := n0_; clear n0_ n1_ RR_ BB_ EE_
                                  obtain ⟨hx18_0, hf18_0⟩ := Kd.R_celln 0 HO166.out (x6_2 : Int) p18 q18; replace p18 := eq_true p18; replace q18 := eq_true q18; obtain ⟨hy20_, hz20_⟩ := Kd.R_celln 0 HO166.out (x6_2 : Int) (of_decide_eq_true (by first | (with_reducible assumption) | assumption)) (of_decide_eq_true (by first | (with_reducible assumption) | assumption)); have HP20 := Kd.R_putg HO166.out (x6_2 : Int) x10_1
                                  go_wp2_with (first | ((with_reducible refine gate_store (t := 3) (p := 47) rfl ?_); refine store_event (t := 3) (p := 47) (v := ?vo_w21) (w1 := (wc_.setCell ⟨go18, (x6_2 : Int).toNat, none⟩ (.int .i64 x10_1))) ?hg ?ho ?hn ?hr ?_; (case ho => rfl); (case hg => rfl); (case hn => rfl); (case hr => first | (go_simp; done) | (go_simp; rfl)); intro w21 hw; have hg : wc_.grownBy w21 (some go18) := (by rw [hw]; exact HP20.2); have hp_ : Kd.R (Kd.int .i64) 3 w21 w.heap.size (fun _ => True) (.slice (some ⟨go18, 0, none⟩) y164.length co18) y167 := (by rw [hw, Ny167.out]; exact HP20.1); clear HP20; have n0_ := Aside0.mk (hp_); have n1_ := Aside0.mk ((by rw [hw]; exact below_set (HB.out) GB18.out : Below w.heap.size w w21)); clear HO166; clear HB; have HO166 := n0_; have HB := n1_; clear n0_ n1_; clear hg hw hp_))
                                  go_roundg k2
                                  case measure => have := HK1.out; have := HK2.out; omega
                                  case rel => exact ⟨(y167), (wrap64 (x10_1 + 1)), (by first | rfl | (simp; done) | (simp [*]; done)), H', ⟨by have := HK1.out; have := HK2.out; omega⟩, ⟨by (with_reducible repeat (first | apply Kd.R_alloc | apply Kd.R_drewN | apply Kd.R_drew)); exact HO166.out⟩, ⟨by repeat (first | (with_reducible first | exact HB.out | apply below_alloc | apply pw_below_drewN | apply below_drew1) | exact HB.out)⟩⟩
                                · rw [if_neg c17] at H
                                  exact absurd H (by simp)
                              · rw [if_neg c16] at H
                                exact absurd H (by simp)
                            · rw [if_neg c15] at H
                              exact absurd H (by simp)
                        · rw [if_neg c13] at H
                          exact absurd H (by simp)
                      · rw [if_neg c12] at H
                        exact absurd H (by simp)
                    · rw [if_neg c11] at H
                      exact absurd H (by simp)
                  · rw [if_neg c10] at H
                    exact absurd H (by simp)
                · rw [if_neg c8] at H
                  have c8b0 : decide (0 < x6_2) = false := decide_eq_false c8
                  clear c8
                  by_cases c22 : x3_1.length < 17592186044416
                  · rw [if_pos c22] at H
                    have LMc22 := Aside0.mk c22
                    clear c22
                    obtain ⟨y168, hy168⟩ : ∃ y_ : List Int, y_ = (x3_1 ++ [0]) := ⟨_, rfl⟩
                    replace H : (if 0 ≤ x6_2 then (if x6_2 < (y168.length : Int) then (impl_HeaviestFirst.l0 k2 l0 ((shf y168 (x6_2 : Int).toNat).set (x6_2 : Int).toNat x10_1) l0 (l0.length : Int) (wrap64 (x10_1 + 1))) else (none)) else (none)) = some r := by first | (rw [hy168]; with_reducible exact H) | (have H2_ := (Option.bind_some _ _).symm.trans H; rw [hy168]; with_reducible exact H2_) | (have H2_ := (Option.bind_some _ _).symm.trans H; with_reducible exact H2_) | with_reducible exact H | (rw [hy168]; exact H) | exact H
                    have Ny168 := Aside0.mk hy168
                    clear hy168
                    by_cases c23 : 0 ≤ x6_2
                    · rw [if_pos c23] at H
                      have c23b0 : decide (0 ≤ x6_2) = true := decide_eq_true c23
                      clear c23
                      by_cases c24 : x6_2 < (y168.length : Int)
                      · rw [if_pos c24] at H
                        have c24b0 : decide (x6_2 < (y168.length : Int)) = true := decide_eq_true c24
                        clear c24
                        obtain ⟨y171, hy171⟩ : ∃ y_ : List Int, y_ = ((shf y168 (x6_2 : Int).toNat).set (x6_2 : Int).toNat x10_1) := ⟨_, rfl⟩
                        replace H : (impl_HeaviestFirst.l0 k2 l0 y171 l0 (l0.length : Int) (wrap64 (x10_1 + 1))) = some r := by first | (rw [hy171]; with_reducible exact H) | (have H2_ := (Option.bind_some _ _).symm.trans H; rw [hy171]; with_reducible exact H2_) | (have H2_ := (Option.bind_some _ _).symm.trans H; with_reducible exact H2_) | with_reducible exact H | (rw [hy171]; exact H) | exact H
                        have Ny171 := Aside0.mk hy171
                        clear hy171
                        have H' := Aside0.mk H
                        clear H
                        go_wp2_with (first | ((with_reducible refine gate_builtin (b := .append) (xs := #[.tmp 33, .tmp 34]) rfl ?_); at_builtin; refine Kd.R_append (Kd.int .i64) (w0 := w) w.heap.size rfl (.tmp 33) (.tmp 34) 22 3 (.int .i64 0) 8 rfl Try.underlying22 info3 rfl (by decide) (by omega) (.slice Ao7 x3_1.length co7) x3_1 0 [.int .i64 0] (fun _ => True) (fun _ => False) rfl rfl ?aP (fun _ hk => hk.elim) ?aF ?aO ?aB ?aS ?aL ?_; (case aP => exact rfl); (case aB => exact (by repeat (first | (with_reducible first | exact HB.out | apply below_alloc | apply pw_below_drewN | apply below_drew1) | exact HB.out))); (case aF => exact (fun _ _ => trivial)); (case aO => exact (by (with_reducible repeat (first | apply Kd.R_alloc | apply Kd.R_drewN | apply Kd.R_drew)); exact HO_3.out)); (case aS => exact (below_size (by repeat (first | (with_reducible first | exact HB.out | apply below_alloc | apply pw_below_drewN | apply below_drew1) | exact HB.out)))); (case aL => have := LMc22.out; omega); intro v169 w26 ho hb hg hat; rw [← Ny168.out] at ho; have n0_ := Aside0.mk (hb); have n1_ := Aside0.mk (ho); clear HB; clear HO_3; have HB := n0_; have HO170 := n1_; clear n0_ n1_; clear ho hb hg hat))
                        have p25 : 0 ≤ (x6_2 : Int) := of_decide_eq_true (by first | (with_reducible assumption) | assumption); have q25 : (x6_2 : Int) < ((y168.length : Int) : Int) := of_decide_eq_true (by first | (with_reducible assumption) | assumption); obtain ⟨go25, co25, eo25, gb25, gl25, cl25, HG25⟩ := Kd.R_form HO170.out (by omega); (first | cases eo25 | (injection eo25 with ea_ en_ ec_; (first | subst ea_ | (injection ea_ with ea_; subst ea_)); subst ec_; clear en_)); have GB25 := Aside0.mk gb25; have GG25 := Aside0.mk HG25; clear gb25 gl25 HG25; have YL := shf_len y168 (x6_2 : Int).toNat (by omega); obtain ⟨i0c, hi0c, _, hszc, _⟩ := info_parts info3; obtain ⟨hnn_, hcc_, _⟩ := Kd.R_reads' HO170.out; have j1w_ : IntKind.i64.wrap (x6_2 + 1) = x6_2 + 1 := (i64_w _).trans (by have hly_ := congrArg List.length Ny168.out; simp only [List.length_append, List.length_singleton] at hly_; have hlm_ := LMc22.out; unfold wrap64; omega); obtain ⟨Ad_, hcd_, had_⟩ := drop_own (P := Try.prog) 22 3 Try.underlying22 hi0c hszc go25 y168.length co25 (x6_2 + 1) (by omega) (by omega) hcc_; obtain ⟨As_, hcs_, has_⟩ := drop_own (P := Try.prog) 22 3 Try.underlying22 hi0c hszc go25 y168.length co25 x6_2 (by omega) (by omega) hcc_; have k1_ : (x6_2 + 1).toNat = x6_2.toNat + 1 := (by omega); rw [k1_] at hcd_ had_; obtain rfl := (has_ (by omega)).symm; have RUN_ := Aside0.mk (fun (w_ : World) (h_ : Kd.R (Kd.int .i64) 3 w_ w.heap.size (fun _ => True) (.slice (some ⟨go25, 0, none⟩) y168.length co25) y168) => run_shift (P := Try.prog) (t := 22) (e := 3) (ty := 3) Try.underlying22 (by simp [hi0c, hszc]) h_ x6_2.toNat (by omega) Ad_ _ (fun h_ => had_ (by omega)) rfl (co25 - (x6_2.toNat + 1)) (co25 - x6_2.toNat)); clear hszc hi0c hnn_ hcc_ had_ has_
                        go_wp2_with fail
                        refine start_ (n := 8) (S := fun _ => True) (ds := []) _ (by kernel_rfl) rfl rfl trivial (fun _ => ?_); refine with_tab impl_HeaviestFirst.tab9 (fun HT_ => ?_); replace HO170 := Aside0.mk (Kd.R_drew HO170.out); replace HB := Aside0.mk (below_drew1 HB.out); generalize w26.drew = wd_ at HO170 HB ⊢
                        obtain ⟨vc_, wc_, e_, r_, g_⟩ := RUN_.out wd_ HO170.out; have BB_ := Aside0.mk (Below.grown HB.out g_ (below_size HB.out) (fun k_ hk_ => by injection hk_ with hk_; rw [← hk_]; exact GB25.out)); have RR_ := Aside0.mk r_; have EE_ := Aside0.mk e_; clear e_ r_ g_ RUN_
                        refine zp 0 36 HT_ ?_; refine zp 1 37 HT_ ?_; refine zp 2 38 HT_ ?_; refine zp 3 39 HT_ ?_; refine zp 4 40 HT_ ?_; refine zp 5 41 HT_ ?_; refine zp 6 42 HT_ ?_
                        refine zo 7 43 HT_ (fun K hK => ?_)
                        refine step_copy EE_.out (.tmp 39) (.tmp 42) (by rfl) (by rfl) (by rfl) (by rfl) (by rfl) (some 43) (by rfl) ?_
                        refine hK.out _ _ trivial (fun _ => ?_); clear hK K; refine norm_ (a' := ?_) ?_ ?_; rotate_left
                        · show Act.put _ (some 43) _ = _
                          simp only [Act.put, List.setIfInBounds_toArray, List.set_cons_zero, List.set_cons_succ, i64_w, i32_w]; rfl
                        refine done_ (done_of HT_.out (by kernel_rfl)) ?_
                        have n0_ := RR_; have n1_ := BB_; clear HB; clear HO170; have HB := n1_; have HO170 := n0_; clear n0_ n1_ RR_ BB_ EE_
                        obtain ⟨hx25_0, hf25_0⟩ := Kd.R_celln 0 HO170.out (x6_2 : Int) p25 q25; replace p25 := eq_true p25; replace q25 := eq_true q25; obtain ⟨hy27_, hz27_⟩ := Kd.R_celln 0 HO170.out (x6_2 : Int) (of_decide_eq_true (by first | (with_reducible assumption) | assumption)) (of_decide_eq_true (by first | (with_reducible assumption) | assumption)); have HP27 := Kd.R_putg HO170.out (x6_2 : Int) x10_1
                        go_wp2_with (first | ((with_reducible refine gate_store (t := 3) (p := 47) rfl ?_); refine store_event (t := 3) (p := 47) (v := ?vo_w28) (w1 := (wc_.setCell ⟨go25, (x6_2 : Int).toNat, none⟩ (.int .i64 x10_1))) ?hg ?ho ?hn ?hr ?_; (case ho => rfl); (case hg => rfl); (case hn => rfl); (case hr => first | (go_simp; done) | (go_simp; rfl)); intro w28 hw; have hg : wc_.grownBy w28 (some go25) := (by rw [hw]; exact HP27.2); have hp_ : Kd.R (Kd.int .i64) 3 w28 w.heap.size (fun _ => True) (.slice (some ⟨go25, 0, none⟩) y168.length co25) y171 := (by rw [hw, Ny171.out]; exact HP27.1); clear HP27; have n0_ := Aside0.mk (hp_); have n1_ := Aside0.mk ((by rw [hw]; exact below_set (HB.out) GB25.out : Below w.heap.size w w28)); clear HO170; clear HB; have HO170 := n0_; have HB := n1_; clear n0_ n1_; clear hg hw hp_))
                        go_roundg k2
                        case measure => have := HK1.out; have := HK2.out; omega
                        case rel => exact ⟨(y171), (wrap64 (x10_1 + 1)), (by first | rfl | (simp; done) | (simp [*]; done)), H', ⟨by have := HK1.out; have := HK2.out; omega⟩, ⟨by (with_reducible repeat (first | apply Kd.R_alloc | apply Kd.R_drewN | apply Kd.R_drew)); exact HO170.out⟩, ⟨by repeat (first | (with_reducible first | exact HB.out | apply below_alloc | apply pw_below_drewN | apply below_drew1) | exact HB.out)⟩⟩
                      · rw [if_neg c24] at H
                        exact absurd H (by simp)
                    · rw [if_neg c23] at H
                      exact absurd H (by simp)
                  · rw [if_neg c22] at H
                    exact absurd H (by simp)
          · rw [if_neg c6] at H
            exact absurd H (by simp)
        · rw [if_neg c5] at H
          exact absurd H (by simp)
      · rw [if_neg c4] at H
        have c4b0 : decide (x10_1 < (l0.length : Int)) = false := decide_eq_false c4
        clear c4
        obtain rfl := Option.some.inj H
        go_wp2
        go_ret
        exact ⟨_, by first | rfl | (simp [errW_none, errW_some] <;> rfl) | (simp [*, errW_none, errW_some] <;> rfl), by (with_reducible repeat (first | apply Kd.R_alloc | apply Kd.R_drewN | apply Kd.R_drew)); exact HO_3.out, by repeat (first | (with_reducible first | exact HB.out | apply below_alloc | apply pw_below_drewN | apply below_drew1) | exact HB.out)⟩
end Go.Proofs.Ytegbddilobpeaaa.Q
