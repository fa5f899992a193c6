/- Walks of 1 functions of the program: each comes to what a plain function tells. -/
import Derived.Test.YtcokbhkjfdddkaaG0
import Derived.Test.YtcokbhkjfdddkaaG19
import Derived.Test.YtcokbhkjfdddkaaG20
namespace Go.Proofs.Ytcokbhkjfdddkaa.Q
open Go.RowKit Go.Proofs.YtcokbhkjfdddkaaW.PrintWords Go.Proofs.YtcokbhkjfdddkaaW.PrintLast Go.Proofs.YtcokbhkjfdddkaaW.PrintMore Go.Proofs.YtcokbhkjfdddkaaW.Zip
attribute [local go_sem] max2_int min2_int max_two min_two max_three min_three max_four min_four   -- for this text's walks alone
set_option linter.unusedVariables false
set_option linter.unusedSimpArgs false
attribute [local go_sem high] eqA81

/-! ### impl_BestSplit: function 64 -/
mutual
def impl_BestSplit.l0 : Nat → List Int → List Int → Int → Int → Int → Option (List Int)
  | 0, _, _, _, _, _ => none
  | k + 1, x0, x3, x4, x5, x6 => if x6 ≥ 0 then (impl_BestSplit.l1 k x0 x3 x4 x5 x6 (([] : List Int)) x5 0) else (some x3)
def impl_BestSplit.l1 : Nat → List Int → List Int → Int → Int → Int → List Int → Int → Int → Option (List Int)
  | 0, _, _, _, _, _, _, _, _ => none
  | k + 1, x0, x3, x4, x5, x6, x7, x24, x25 => if x25 < x24 then (if 0 ≤ (wrap64 ((wrap64 (x5 - 1)) - x25)) then (if (Go.bits .and .i64 (shr .i64 x6 (wrap64 ((wrap64 (x5 - 1)) - x25))) 1) = 1 then (if x7.length < 17592186044416 then (impl_BestSplit.l1 k x0 x3 x4 x5 x6 (x7 ++ [x25]) x24 (wrap64 (x25 + 1))) else (none)) else (impl_BestSplit.l1 k x0 x3 x4 x5 x6 x7 x24 (wrap64 (x25 + 1)))) else (none)) else ((impl_SplitGap.f k x0 x7).bind fun t682 => (if x4 < 0 then (impl_BestSplit.l0 k x0 x7 t682 x5 (wrap64 (x6 - 1))) else (if t682 < x4 then (impl_BestSplit.l0 k x0 x7 t682 x5 (wrap64 (x6 - 1))) else (impl_BestSplit.l0 k x0 x3 x4 x5 (wrap64 (x6 - 1))))))
end
def impl_BestSplit.f (k : Nat) (l0 : List Int) : Option (List Int) := (impl_areWeights.f k l0).bind fun t672 => (if t672 = true then (impl_BestSplit.l0 k l0 (([] : List Int)) (-1) (l0.length : Int) (wrap64 ((shl .i64 1 (l0.length : Int)) - 1))) else (some ([] : List Int)))
set_option maxHeartbeats 8000000 in
set_option maxRecDepth 100000 in
theorem impl_BestSplit.calls (k : Nat) (A0 : Option Addr) (c0 : Nat) (l0 : List Int) (r : List Int) (w : World) (hr0 : Kd.C (Kd.int .i64) w A0 l0.length l0) (hc0 : l0.length ≤ c0) (h : impl_BestSplit.f k l0 = some r) :
    Calls Try.prog 64 #[.slice A0 l0.length c0] w fun e w' => ∃ v0_ : Value, e = .returned (v0_) ∧ Kd.R (Kd.int .i64) 3 w' w.heap.size (fun _ => True) v0_ r ∧ Below w.heap.size w w' := by
  have HR0 := Aside0.mk hr0; have HC0 := Aside0.mk hc0; clear hr0 hc0; have HB := Aside0.mk (Below.refl w.heap.size w); have H := h; clear h; unfold impl_BestSplit.f at H; replace H := Option.bind_eq_some_iff.mp H; obtain ⟨t672, A20, H⟩ := H; have A2 := Aside0.mk A20; clear A20
  by_cases c3 : t672 = true
  · subst c3; rw [if_pos rfl] at H; obtain ⟨y673, hy673⟩ : ∃ y_ : List Int, y_ = (([] : List Int)) := ⟨_, rfl⟩
    replace H : (impl_BestSplit.l0 k l0 y673 (-1) (l0.length : Int) (wrap64 ((shl .i64 1 (l0.length : Int)) - 1))) = some r := by first | (rw [hy673]; with_reducible exact H) | (have H2_ := (Option.bind_some _ _).symm.trans H; rw [hy673]; with_reducible exact H2_) | (have H2_ := (Option.bind_some _ _).symm.trans H; with_reducible exact H2_) | with_reducible exact H | (rw [hy673]; exact H) | exact H
    have Ny673 := Aside0.mk hy673; clear hy673; obtain ⟨ji4, hji4⟩ : ∃ j_ : Int, (shl .i64 1 (l0.length : Int)) = j_ := ⟨_, rfl⟩
    replace H : (impl_BestSplit.l0 k l0 y673 (-1) (l0.length : Int) (wrap64 ((ji4) - 1))) = some r := by first | (rw [hji4] at H; exact H) | (simp only [hji4] at H ⊢; exact H)
    (try rw [hji4] at A2); have hji4_ : (IntKind.i64.wrap (1 * 2 ^ min (l0.length : Int).toNat 64)) = ji4 := hji4; have hji4z : (l0.length : Int) ≤ 64 → (IntKind.i64.wrap (1 * 2 ^ (l0.length : Int).toNat)) = ji4 := shl_small hji4; have hji4p : (IntKind.i64.wrap (1 * 2 ^ min l0.length 64)) = ji4 := hji4_; have hji4q : (l0.length : Int) ≤ 64 → (IntKind.i64.wrap (1 * 2 ^ l0.length)) = ji4 := hji4z
    have hji4r : (IntKind.i64.wrap (2 ^ min l0.length 64)) = ji4 := by have h_ := hji4p; rw [Int.one_mul] at h_; exact h_
    have hji4s : (l0.length : Int) ≤ 64 → (IntKind.i64.wrap (2 ^ l0.length)) = ji4 := fun hle_ => by have h_ := hji4q hle_; rw [Int.one_mul] at h_; exact h_
    have hji4u : (IntKind.i64.wrap (2 ^ min (l0.length : Int).toNat 64)) = ji4 := by have h_ := hji4_; rw [Int.one_mul] at h_; exact h_
    have hji4v : (l0.length : Int) ≤ 64 → (IntKind.i64.wrap (2 ^ (l0.length : Int).toNat)) = ji4 := fun hle_ => by have h_ := hji4z hle_; rw [Int.one_mul] at h_; exact h_
    have hji4y : (wrap64 (1 * 2 ^ min (l0.length : Int).toNat 64)) = ji4 := (i64_w _).symm.trans hji4_; have hji4x : (l0.length : Int) ≤ 64 → (wrap64 (1 * 2 ^ (l0.length : Int).toNat)) = ji4 := fun h_ => (i64_w _).symm.trans (hji4z h_); have H' := Aside0.mk H; clear H; go_enter Try.func64, Try.ntmps64
    go_wp2_with (first | ((with_reducible refine gate_callee (f := 109) rfl ?_); refine zgl 11 Try.func109 #[.slice A0 l0.length c0] ?_; (with_reducible refine (impl_areWeights.calls k _ _ l0 true _ ?side1 ?side2 A2.out).mono ?_); (case side1 => exact zCx HR0.out); (case side2 => exact HC0.out); rintro e w' ⟨rfl, ⟨nd, rfl⟩⟩; refine ⟨_, rfl, ?_⟩) | ((with_reducible refine gate_dst (N := 13) rfl ?_); refine Kd.R_lit (Kd.int .i64) _ 3 ?hg (N := 13) ?hd (xs := ([] : List Int)) (inner := []) (ok := fun _ => True) (okp := fun _ => True) ?hr ?hp (fun _ hk => hk) trivial (Below.refl _ _) (Nat.le_refl _) (by simp) ?_; (case hd => rfl); (case hg => rfl); (case hr => first | (go_simp; done) | (go_simp; rfl)); (case hp => exact (Reps.none _ _)); intro v674 w5 ho6 hb hg_ hnew_; clear hg_ hnew_; (first | rw [← Ny673.out] at ho6 | (simp only [Int.reduceToNat] at ho6; rw [← Ny673.out] at ho6)); have HO675 := Aside0.mk (Kd.R_lower ho6 (below_size zb)); replace HB := zbs hb; clear hb ho6))
    go_loopg [3, 4, 6] k (fun kq v3 v4 v6 w' => ∃ (x3_1 : List Int) (x4_1 : Int) (x6_1 : Int), v4 = .int .i64 x4_1 ∧ v6 = .int .i64 x6_1 ∧ Aside0 (impl_BestSplit.l0 kq l0 x3_1 x4_1 (l0.length : Int) x6_1 = some r) ∧ Aside0 (kq ≤ k) ∧ Aside0 (Kd.R (Kd.int .i64) 3 w' w.heap.size (fun _ => True) v3 x3_1) ∧ Aside0 (Below w.heap.size w w'))
    case atStart => exact ⟨(y673), ((-1)), (wrap64 ((ji4) - 1)), zr, (by first | rfl | (simp; done) | (simp only [← hji4] <;> (first | rfl | simp)) | (simp [*]; done)), H', ⟨Nat.le_refl _⟩, ⟨zR HO675⟩, ⟨zb⟩⟩
    case round =>
      clear H'; (try clear c1); (try clear p2); (try clear c3); (try clear c6); (try clear p6); obtain ⟨x3_1, x4_1, x6_1, rfl, rfl, HA, HK1, HO_3, HB⟩ := hrel
      cases gk with
      | zero => exact absurd HA.out (by simp [impl_BestSplit.l0])
      | succ k1 =>
        have H := HA.out; clear HA; simp only [impl_BestSplit.l0] at H
        by_cases c7 : x6_1 ≥ 0
        · rw [if_pos c7] at H; have c7b0 : decide (0 ≤ x6_1) = true := decide_eq_true c7; clear c7; obtain ⟨y676, hy676⟩ : ∃ y_ : List Int, y_ = (([] : List Int)) := ⟨_, rfl⟩
          replace H : (impl_BestSplit.l1 k1 l0 x3_1 x4_1 (l0.length : Int) x6_1 y676 (l0.length : Int) 0) = some r := by first | (rw [hy676]; with_reducible exact H) | (have H2_ := (Option.bind_some _ _).symm.trans H; rw [hy676]; with_reducible exact H2_) | (have H2_ := (Option.bind_some _ _).symm.trans H; with_reducible exact H2_) | with_reducible exact H | (rw [hy676]; exact H) | exact H
          have Ny676 := Aside0.mk hy676; clear hy676; have H' := Aside0.mk H; clear H
          go_wp2_with (first | ((with_reducible refine gate_dst (N := 23) rfl ?_); refine Kd.R_lit (Kd.int .i64) _ 3 ?hg (N := 23) ?hd (xs := ([] : List Int)) (inner := []) (ok := fun _ => True) (okp := fun _ => True) ?hr ?hp (fun _ hk => hk) trivial (Below.refl _ _) (Nat.le_refl _) (by simp) ?_; (case hd => rfl); (case hg => rfl); (case hr => first | (go_simp; done) | (go_simp; rfl)); (case hp => exact (Reps.none _ _)); intro v677 w8 ho9 hb hg_ hnew_; clear hg_ hnew_; (first | rw [← Ny676.out] at ho9 | (simp only [Int.reduceToNat] at ho9; rw [← Ny676.out] at ho9)); have HO678 := Aside0.mk (Kd.R_lower (Kd.R_new' ho9 (Kd.R_lt (zR HO_3))) (below_size zb)); replace HO_3 := Aside0.mk (Kd.R_elder' (zR HO_3) (Kd.R_base ho9) hb); replace HB := zbs hb; clear hb ho9))
          go_loopg [7, 25] k1 (fun kq v7 v25 w' => ∃ (x7_2 : List Int) (x25_2 : Int), v25 = .int .i64 x25_2 ∧ Aside0 (impl_BestSplit.l1 kq l0 x3_1 x4_1 (l0.length : Int) x6_1 x7_2 (l0.length : Int) x25_2 = some r) ∧ Aside0 (kq ≤ k1) ∧ Aside0 (Kd.R (Kd.int .i64) 3 w' w.heap.size (fun k_ => some k_ ≠ (v7 : Value).ownBlock) u3 x3_1) ∧ Aside0 (Kd.R (Kd.int .i64) 3 w' w.heap.size (fun k_ => some k_ ≠ (u3 : Value).ownBlock) v7 x7_2) ∧ Aside0 (Below w.heap.size w w'))
          case atStart => exact ⟨(y676), (0), zr, H', ⟨Nat.le_refl _⟩, ⟨by (with_reducible repeat (first | apply Kd.R_alloc | apply Kd.R_drewN | apply Kd.R_drew)); exact Kd.R_mono HO_3.out (fun _ hk => hk.2)⟩, ⟨by (with_reducible repeat (first | apply Kd.R_alloc | apply Kd.R_drewN | apply Kd.R_drew)); exact Kd.R_mono HO678.out (fun _ hk => hk.2)⟩, ⟨zb⟩⟩
          case round =>
            clear H'; (try clear c1); (try clear p2); (try clear c3); (try clear c6); (try clear p6); (try clear c7); (try clear c7b0); (try clear p2); (try clear p6); obtain ⟨x7_2, x25_2, rfl, HA, HK2, HO_3, HO_7, HB⟩ := hrel
            cases gk with
            | zero => exact absurd HA.out (by simp [impl_BestSplit.l1])
            | succ k2 =>
              have H := HA.out; clear HA; simp only [impl_BestSplit.l1] at H
              by_cases c10 : x25_2 < (l0.length : Int)
              · rw [if_pos c10] at H; have c10b0 := decide_eq_true c10; clear c10; obtain ⟨ji11, hji11⟩ : ∃ j_ : Int, (wrap64 ((wrap64 ((l0.length : Int) - 1)) - x25_2)) = j_ := ⟨_, rfl⟩
                replace H : (if 0 ≤ (ji11) then (if (Go.bits .and .i64 (shr .i64 x6_1 (ji11)) 1) = 1 then (if x7_2.length < 17592186044416 then (impl_BestSplit.l1 k2 l0 x3_1 x4_1 (l0.length : Int) x6_1 (x7_2 ++ [x25_2]) (l0.length : Int) (wrap64 (x25_2 + 1))) else (none)) else (impl_BestSplit.l1 k2 l0 x3_1 x4_1 (l0.length : Int) x6_1 x7_2 (l0.length : Int) (wrap64 (x25_2 + 1)))) else (none)) = some r := by first | (rw [hji11] at H; exact H) | (simp only [hji11] at H ⊢; exact H)
                have hji11w : (IntKind.i64.wrap ((wrap64 ((l0.length : Int) - 1)) - x25_2)) = ji11 := (i64_w _).trans hji11; obtain ⟨c12, H⟩ := zif H; have c12b0 := eq_true c12; have c12b1 := decide_eq_true c12; clear c12; obtain ⟨ji13, hji13⟩ : ∃ j_ : Int, (shr .i64 x6_1 (ji11)) = j_ := ⟨_, rfl⟩
                replace H : (if (Go.bits .and .i64 (ji13) 1) = 1 then (if x7_2.length < 17592186044416 then (impl_BestSplit.l1 k2 l0 x3_1 x4_1 (l0.length : Int) x6_1 (x7_2 ++ [x25_2]) (l0.length : Int) (wrap64 (x25_2 + 1))) else (none)) else (impl_BestSplit.l1 k2 l0 x3_1 x4_1 (l0.length : Int) x6_1 x7_2 (l0.length : Int) (wrap64 (x25_2 + 1)))) = some r := by first | (rw [hji13] at H; exact H) | (simp only [hji13] at H ⊢; exact H)
                have hji13_ : (x6_1 / 2 ^ min (ji11).toNat 64) = ji13 := hji13; have hji13z : (ji11) ≤ 64 → (x6_1 / 2 ^ (ji11).toNat) = ji13 := shr_small hji13
                by_cases c14 : (Go.bits .and .i64 (ji13) 1) = 1
                · rw [if_pos c14] at H; have c14b0 : ((Go.bits .and .i64 (ji13) 1) == 1) = true := beq_iff_eq.mpr c14; have c14b1 : ((Go.bits .and .i64 (ji13) 1) != 1) = false := bne_eq_false_iff_eq.mpr c14; clear c14; obtain ⟨c15, H⟩ := zif H; have LMc15 := Aside0.mk c15; clear c15; obtain ⟨y679, hy679⟩ : ∃ y_ : List Int, y_ = (x7_2 ++ [x25_2]) := ⟨_, rfl⟩
                  replace H : (impl_BestSplit.l1 k2 l0 x3_1 x4_1 (l0.length : Int) x6_1 y679 (l0.length : Int) (wrap64 (x25_2 + 1))) = some r := by first | (rw [hy679]; with_reducible exact H) | (have H2_ := (Option.bind_some _ _).symm.trans H; rw [hy679]; with_reducible exact H2_) | (have H2_ := (Option.bind_some _ _).symm.trans H; with_reducible exact H2_) | with_reducible exact H | (rw [hy679]; exact H) | exact H
                  have Ny679 := Aside0.mk hy679; clear hy679; have H' := Aside0.mk H; clear H
                  go_wp2_with (first | ((with_reducible refine gate_builtin (b := .append) (xs := #[.tmp 36, .tmp 38]) rfl ?_); at_builtin; refine Kd.R_append (Kd.int .i64) (w0 := w) w.heap.size rfl (.tmp 36) (.tmp 38) 22 3 (.int .i64 0) 8 rfl Try.underlying22 info3 rfl (by decide) (by omega) u7 x7_2 x25_2 [.int .i64 x25_2] (fun k_ => some k_ ≠ (u3 : Value).ownBlock) (fun _ => False) rfl rfl ?aP (fun _ hk => hk.elim) ?aF ?aO ?aB ?aS ?aL ?_; (case aP => exact rfl); (case aB => exact zb); (case aF => exact (fun k_ hk => Kd.fresh' (Kd.R_lt (zR HO_3)) k_ hk)); (case aO => exact (zR HO_7)); (case aS => exact (below_size zb)); (case aL => have := LMc15.out; omega); intro v680 w16 ho hb hg hat; rw [← Ny679.out] at ho; replace HO_3 := Aside0.mk (Kd.R_after (ok := (fun _ => True)) (by (with_reducible repeat (first | apply Kd.R_alloc | apply Kd.R_drewN | apply Kd.R_drew)); exact Kd.R_mono HO_3.out (fun _ hk => ⟨trivial, hk⟩)) hg hat); replace HB := Aside0.mk (hb); have HO681 := Aside0.mk (ho); clear HO_7; clear ho hb hg hat))
                  go_roundg k2
                  case measure => have := HK1.out; have := HK2.out; omega
                  case rel => exact ⟨(y679), (wrap64 (x25_2 + 1)), zr, H', ⟨by have := HK1.out; have := HK2.out; omega⟩, ⟨by (with_reducible repeat (first | apply Kd.R_alloc | apply Kd.R_drewN | apply Kd.R_drew)); exact Kd.R_mono HO_3.out (fun _ hk => hk.2)⟩, ⟨zR HO681⟩, ⟨zb⟩⟩
                · rw [if_neg c14] at H; have c14b0 : ((Go.bits .and .i64 (ji13) 1) == 1) = false := beq_eq_false_iff_ne.mpr c14; have c14b1 : ((Go.bits .and .i64 (ji13) 1) != 1) = true := bne_iff_ne.mpr c14; have H' := Aside0.mk H; clear H; go_wp2
                  go_roundg k2
                  case measure => have := HK1.out; have := HK2.out; omega
                  case rel => exact ⟨(x7_2), (wrap64 (x25_2 + 1)), zr, H', ⟨by have := HK1.out; have := HK2.out; omega⟩, ⟨zR HO_3⟩, ⟨zR HO_7⟩, ⟨zb⟩⟩
              · rw [if_neg c10] at H; have c10b0 := decide_eq_false c10; clear c10; replace H := Option.bind_eq_some_iff.mp H; obtain ⟨t682, A170, H⟩ := H; have A17 := Aside0.mk A170; clear A170
                by_cases c18 : x4_1 < 0
                · rw [if_pos c18] at H; have c18b0 := decide_eq_true c18; clear c18; have H' := Aside0.mk H; clear H; obtain ⟨Ao19, co19, eo19⟩ := Kd.R_slice HO_7.out; subst eo19
                  go_wp2_with (first | ((with_reducible refine gate_callee (f := 30) rfl ?_); refine zgl 43 Try.func30 #[.slice A0 l0.length c0, .slice Ao19 x7_2.length co19] ?_; (with_reducible refine (impl_SplitGap.calls k2 _ _ l0 _ _ x7_2 t682 _ ?side1 ?side2 ?side3 ?side4 A17.out).mono ?_); (case side1 => exact zCb HR0); (case side2 => exact HC0.out); (case side3 => exact zCx (Kd.R_reads' HO_7.out).2.2); (case side4 => exact (Kd.R_reads' HO_7.out).2.1); rintro e w20 ⟨rfl, hb⟩; refine ⟨_, rfl, ?_⟩; replace HO_3 := zRb HO_3 hb; replace HO_7 := zRb HO_7 hb; replace HB := zbs hb; (try clear hb); (try clear hb2); (try clear hk); (try clear hi)))
                  go_roundg k2
                  case measure => have := HK1.out; have := HK2.out; omega
                  case rel => exact ⟨(x7_2), (t682), (wrap64 (x6_1 - 1)), zr, zr, H', ⟨by have := HK1.out; have := HK2.out; omega⟩, ⟨by (with_reducible repeat (first | apply Kd.R_alloc | apply Kd.R_drewN | apply Kd.R_drew)); exact Kd.R_mono HO_7.out (fun _ hk => trivial)⟩, ⟨zb⟩⟩
                · rw [if_neg c18] at H; have c18b0 := decide_eq_false c18; clear c18
                  by_cases c21 : t682 < x4_1
                  · rw [if_pos c21] at H; have c21b0 := decide_eq_true c21; clear c21; have H' := Aside0.mk H; clear H; obtain ⟨Ao22, co22, eo22⟩ := Kd.R_slice HO_7.out; subst eo22
                    go_wp2_with (first | ((with_reducible refine gate_callee (f := 30) rfl ?_); refine zgl 43 Try.func30 #[.slice A0 l0.length c0, .slice Ao22 x7_2.length co22] ?_; (with_reducible refine (impl_SplitGap.calls k2 _ _ l0 _ _ x7_2 t682 _ ?side1 ?side2 ?side3 ?side4 A17.out).mono ?_); (case side1 => exact zCb HR0); (case side2 => exact HC0.out); (case side3 => exact zCx (Kd.R_reads' HO_7.out).2.2); (case side4 => exact (Kd.R_reads' HO_7.out).2.1); rintro e w23 ⟨rfl, hb⟩; refine ⟨_, rfl, ?_⟩; replace HO_3 := zRb HO_3 hb; replace HO_7 := zRb HO_7 hb; replace HB := zbs hb; (try clear hb); (try clear hb2); (try clear hk); (try clear hi)))
                    go_roundg k2
                    case measure => have := HK1.out; have := HK2.out; omega
                    case rel => exact ⟨(x7_2), (t682), (wrap64 (x6_1 - 1)), zr, zr, H', ⟨by have := HK1.out; have := HK2.out; omega⟩, ⟨by (with_reducible repeat (first | apply Kd.R_alloc | apply Kd.R_drewN | apply Kd.R_drew)); exact Kd.R_mono HO_7.out (fun _ hk => trivial)⟩, ⟨zb⟩⟩
                  · rw [if_neg c21] at H; have c21b0 := decide_eq_false c21; clear c21; have H' := Aside0.mk H; clear H; obtain ⟨Ao24, co24, eo24⟩ := Kd.R_slice HO_7.out; subst eo24
                    go_wp2_with (first | ((with_reducible refine gate_callee (f := 30) rfl ?_); refine zgl 43 Try.func30 #[.slice A0 l0.length c0, .slice Ao24 x7_2.length co24] ?_; (with_reducible refine (impl_SplitGap.calls k2 _ _ l0 _ _ x7_2 t682 _ ?side1 ?side2 ?side3 ?side4 A17.out).mono ?_); (case side1 => exact zCb HR0); (case side2 => exact HC0.out); (case side3 => exact zCx (Kd.R_reads' HO_7.out).2.2); (case side4 => exact (Kd.R_reads' HO_7.out).2.1); rintro e w25 ⟨rfl, hb⟩; refine ⟨_, rfl, ?_⟩; replace HO_3 := zRb HO_3 hb; replace HO_7 := zRb HO_7 hb; replace HB := zbs hb; (try clear hb); (try clear hb2); (try clear hk); (try clear hi)))
                    go_roundg k2
                    case measure => have := HK1.out; have := HK2.out; omega
                    case rel => exact ⟨(x3_1), (x4_1), (wrap64 (x6_1 - 1)), zr, zr, H', ⟨by have := HK1.out; have := HK2.out; omega⟩, ⟨by (with_reducible repeat (first | apply Kd.R_alloc | apply Kd.R_drewN | apply Kd.R_drew)); exact Kd.R_mono HO_3.out (fun _ hk => trivial)⟩, ⟨zb⟩⟩
        · rw [if_neg c7] at H; have c7b0 : decide (0 ≤ x6_1) = false := decide_eq_false c7; clear c7; obtain rfl := Option.some.inj H; go_wp2; go_ret; exact ⟨_, by first | rfl | (simp [errW_none, errW_some] <;> rfl) | (simp only [← hji4]; first | rfl | (simp [errW_none, errW_some] <;> rfl)) | (simp [*, errW_none, errW_some] <;> rfl), zR HO_3, zb⟩
  · replace c3 := Bool.eq_false_iff.mpr c3; subst c3; rw [if_neg (show ¬ (false = true) by decide)] at H; obtain rfl := Option.some.inj H; go_enter Try.func64, Try.ntmps64
    go_wp2_with (first | ((with_reducible refine gate_callee (f := 109) rfl ?_); refine zgl 11 Try.func109 #[.slice A0 l0.length c0] ?_; (with_reducible refine (impl_areWeights.calls k _ _ l0 false _ ?side1 ?side2 A2.out).mono ?_); (case side1 => exact zCx HR0.out); (case side2 => exact HC0.out); rintro e w' ⟨rfl, ⟨nd, rfl⟩⟩; refine ⟨_, rfl, ?_⟩))
    go_ret; exact ⟨_, by first | rfl | (simp [errW_none, errW_some] <;> rfl) | (simp [*, errW_none, errW_some] <;> rfl), by first | exact Kd.R_nil _ _ _ _ _ | exact Kd.N_nil _ _ _ _ _ | exact Kd.V_nil _ _ _ _ _ | exact Kd.Q_nil _ _ _ _ _ | exact Kd.S_nil _ _ _ _ _, zb⟩
end Go.Proofs.Ytcokbhkjfdddkaa.Q
