/- Walks of 2 functions of the program: each comes to what a plain function tells. -/
import Derived.Test.YtcokbhkjfdddkaaG0
import Derived.Test.YtcokbhkjfdddkaaG1
import Derived.Test.YtcokbhkjfdddkaaG2
import Derived.Test.YtcokbhkjfdddkaaG4
import Derived.Test.YtcokbhkjfdddkaaG8
import Derived.Test.YtcokbhkjfdddkaaG17
import Derived.Test.YtcokbhkjfdddkaaG28
namespace Go.Proofs.Ytcokbhkjfdddkaa.Q
open Go.RowKit Go.Proofs.YtcokbhkjfdddkaaW.PrintWords Go.Proofs.YtcokbhkjfdddkaaW.PrintLast Go.Proofs.YtcokbhkjfdddkaaW.PrintMore Go.Proofs.YtcokbhkjfdddkaaW.Zip
attribute [local go_sem] max2_int min2_int max_two min_two max_three min_three max_four min_four   -- for this text's walks alone
set_option linter.unusedVariables false
set_option linter.unusedSimpArgs false
attribute [local go_sem high] eqA81

/-! ### spec_ShareFood: function 75 -/
mutual
def spec_ShareFood.j0 : Nat → List (S81) → Int → List Int → Bool → Option (List Int)
  | 0, _, _, _, _ => none
  | k + 1, x0, x1, x5, x17 => if x17 = true then (some x5) else (spec_ShareFood.l0 k x0 x1 x5 x1 0)
def spec_ShareFood.l0 : Nat → List (S81) → Int → List Int → Int → Int → Option (List Int)
  | 0, _, _, _, _, _ => none
  | k + 1, x0, x1, x5, x6, x7 => if x7 < (x0.length : Int) then (if 0 ≤ x7 then ((spec_NeedOf.f k x0).bind fun t973 => (if t973 = 0 then (none) else (if x5.length < 17592186044416 then ((some (x5 ++ [wrap64 (Int.tdiv (wrap64 (x1 * ((rd_T81 x0 x7).f2))) t973)] : List Int)).bind fun y974 => (if x7 < (y974.length : Int) then (spec_ShareFood.l0 k x0 x1 y974 (wrap64 (x6 - (rd y974 x7))) (wrap64 (x7 + 1))) else (none))) else (none)))) else (none)) else (spec_ShareFood.l1 k x5 x6 0)
def spec_ShareFood.l1 : Nat → List Int → Int → Int → Option (List Int)
  | 0, _, _, _ => none
  | k + 1, x5, x6, x8 => if x8 < x6 then (if 0 ≤ x8 then (if x8 < (x5.length : Int) then (spec_ShareFood.l1 k (x5.set (x8 : Int).toNat (wrap64 ((rd x5 x8) + 1))) x6 (wrap64 (x8 + 1))) else (none)) else (none)) else (some x5)
end
def spec_ShareFood.f (k : Nat) (l0 : List (S81)) (a1 : Int) : Option (List Int) := (some (([] : List Int) : List Int)).bind fun y967 => ((spec_AreCrew.f k l0).bind fun t970 => (if t970 = true then ((spec_l1In.f a1 0 10000).bind fun t971 => (spec_ShareFood.j0 k l0 a1 y967 (!t971))) else (spec_ShareFood.j0 k l0 a1 y967 true)))
def spec_ShareFood.T8 : Bool × List (List Nat × List Nat) := (true, [([], []), ([], []), ([], []), ([], []), ([2, 3], [2, 3]), ([4], [4]), ([5], [5]), ([1, 6], [1, 6]), ([], []), ([8], [8]), ([7, 9], [7, 9]), ([10], [10]), ([0, 11, 9], [0, 11]), ([12, 12, 0, 1, 2, 3, 4, 5, 6, 7, 8, 9, 10, 11, 12], [0, 12])])
def spec_ShareFood.B8 : List Nat := [0, 0, 0, 0, 12, 28, 60, 126, 0, 256, 1022, 2046, 4095, 8191]
theorem spec_ShareFood.tab8 : rtab .any (opsOf Try.f75 8) = spec_ShareFood.T8 := by kernel_rfl
theorem spec_ShareFood.bits8 : waitsOk spec_ShareFood.T8.2 spec_ShareFood.B8 = true := by kernel_rfl
set_option maxHeartbeats 8000000 in
set_option maxRecDepth 100000 in
theorem spec_ShareFood.calls (k : Nat) (A0 : Option Addr) (c0 : Nat) (l0 : List (S81)) (a1 : Int) (r : List Int) (w : World) (hr0 : Kd.C k81 w A0 l0.length l0) (hc0 : l0.length ≤ c0) (h : spec_ShareFood.f k l0 a1 = some r) :
    Calls Try.prog 75 #[.slice A0 l0.length c0, .int .i64 a1] w fun e w' => ∃ v0_ : Value, e = .returned (v0_) ∧ Kd.R (Kd.int .i64) 3 w' w.heap.size (fun _ => True) v0_ r ∧ Below w.heap.size w w' := by
  have HR0 := Aside0.mk hr0; have HC0 := Aside0.mk hc0; clear hr0 hc0; have HB := Aside0.mk (Below.refl w.heap.size w); have H := h; clear h; unfold spec_ShareFood.f at H; obtain ⟨y967, hy967⟩ : ∃ y_ : List Int, y_ = (([] : List Int)) := ⟨_, rfl⟩
  replace H : ((spec_AreCrew.f k l0).bind fun t970 => (if t970 = true then ((spec_l1In.f a1 0 10000).bind fun t971 => (spec_ShareFood.j0 k l0 a1 y967 (!t971))) else (spec_ShareFood.j0 k l0 a1 y967 true))) = some r := by first | (rw [hy967]; with_reducible exact H) | (have H2_ := (Option.bind_some _ _).symm.trans H; rw [hy967]; with_reducible exact H2_) | (have H2_ := (Option.bind_some _ _).symm.trans H; with_reducible exact H2_) | with_reducible exact H | (rw [hy967]; exact H) | exact H
  have Ny967 := Aside0.mk hy967; clear hy967; have HC3 := Aside0.mk H; clear H; go_enter Try.func75, Try.ntmps75
  go_upto_region 2 with (first | ((with_reducible refine gate_dst (N := 9) rfl ?_); refine Kd.R_lit (Kd.int .i64) _ 3 ?hg (N := 9) ?hd (xs := ([] : List Int)) (inner := []) (ok := fun _ => True) (okp := fun _ => True) ?hr ?hp (fun _ hk => hk) trivial (Below.refl _ _) (Nat.le_refl _) (by simp) ?_; (case hd => rfl); (case hg => rfl); (case hr => first | (go_simp; done) | (go_simp; rfl)); (case hp => exact (Reps.none _ _)); intro v968 w4 ho5 hb hg_ hnew_; clear hg_ hnew_; (first | rw [← Ny967.out] at ho5 | (simp only [Int.reduceToNat] at ho5; rw [← Ny967.out] at ho5)); have HO969 := Aside0.mk (Kd.R_lower ho5 (below_size zb)); replace HB := zbs hb; clear hb ho5))
  (try simp only [Act.put, List.setIfInBounds_toArray, List.set_cons_zero, List.set_cons_succ])
  go_cut [17] (fun v17 wc => ∃ (kq : Nat) (x17_2 : Bool), v17 = .bool x17_2 ∧ Aside0 (spec_ShareFood.j0 kq l0 a1 y967 x17_2 = some r) ∧ Aside0 (kq ≤ k) ∧ Aside0 (Kd.R (Kd.int .i64) 3 wc w.heap.size (fun _ => True) v968 y967) ∧ Aside0 (Below w.heap.size w wc))
  case first =>
    have H := HC3.out; clear HC3; replace H := Option.bind_eq_some_iff.mp H; obtain ⟨t970, A60, H⟩ := H; have A6 := Aside0.mk A60; clear A60
    by_cases c7 : t970 = true
    · subst c7; rw [if_pos rfl] at H; replace H := Option.bind_eq_some_iff.mp H; obtain ⟨t971, A80, H⟩ := H; have A8 := Aside0.mk A80; clear A80; have H' := Aside0.mk H; clear H
      go_wp2_with (first | ((with_reducible refine gate_callee (f := 136) rfl ?_); refine zgl 11 Try.func136 #[.slice A0 l0.length c0] ?_; (with_reducible refine (spec_AreCrew.calls k _ _ l0 true _ ?side1 ?side2 A6.out).mono ?_); (case side1 => exact zCb HR0); (case side2 => exact HC0.out); rintro e w9 ⟨rfl, hb⟩; refine ⟨_, rfl, ?_⟩; replace HO969 := zRb HO969 hb; replace HB := zbs hb; (try clear hb); (try clear hb2); (try clear hk); (try clear hi)) | (go_at_call 113; (with_reducible refine (spec_l1In.calls a1 0 10000 t971 _ A8.out).mono ?_); rintro e w' ⟨rfl, ⟨nd, rfl⟩⟩))
      go_meet
      case rel => exact ⟨_, (!t971), zr, H', ⟨by first | omega | exact Nat.le_refl _⟩, ⟨zR HO969⟩, ⟨zb⟩⟩
    · replace c7 := Bool.eq_false_iff.mpr c7; subst c7; rw [if_neg (show ¬ (false = true) by decide)] at H; have H' := Aside0.mk H; clear H
      go_wp2_with (first | ((with_reducible refine gate_callee (f := 136) rfl ?_); refine zgl 11 Try.func136 #[.slice A0 l0.length c0] ?_; (with_reducible refine (spec_AreCrew.calls k _ _ l0 false _ ?side1 ?side2 A6.out).mono ?_); (case side1 => exact zCb HR0); (case side2 => exact HC0.out); rintro e w10 ⟨rfl, hb⟩; refine ⟨_, rfl, ?_⟩; replace HO969 := zRb HO969 hb; replace HB := zbs hb; (try clear hb); (try clear hb2); (try clear hk); (try clear hi)))
      go_meet
      case rel => exact ⟨_, (true), zr, H', ⟨by first | omega | exact Nat.le_refl _⟩, ⟨zR HO969⟩, ⟨zb⟩⟩
  case rest =>
    clear HC3; (try clear c1); (try clear p2); (try clear c7); obtain ⟨kq, x17_2, rfl, HA, HJ2, HO_5, HB⟩ := hcut; cases kq with
    | zero => exact absurd HA.out (by simp [spec_ShareFood.j0])
    | succ kj2 =>
      have H := HA.out; clear HA; simp only [spec_ShareFood.j0] at H
      by_cases c11 : x17_2 = true
      · subst c11; rw [if_pos rfl] at H; obtain rfl := Option.some.inj H; go_wp2; go_ret; exact ⟨_, by first | rfl | (simp [errW_none, errW_some] <;> rfl) | (simp [*, errW_none, errW_some] <;> rfl), zR HO_5, zb⟩
      · replace c11 := Bool.eq_false_iff.mpr c11; subst c11; rw [if_neg (show ¬ (false = true) by decide)] at H; have H' := Aside0.mk H; clear H; go_wp2
        go_loopg [5, 6, 7] kj2 (fun kq v5 v6 v7 w' => ∃ (x5_2 : List Int) (x6_2 : Int) (x7_2 : Int), v6 = .int .i64 x6_2 ∧ v7 = .int .i64 x7_2 ∧ Aside0 (spec_ShareFood.l0 kq l0 a1 x5_2 x6_2 x7_2 = some r) ∧ Aside0 (kq ≤ kj2) ∧ Aside0 (Kd.R (Kd.int .i64) 3 w' w.heap.size (fun _ => True) v5 x5_2) ∧ Aside0 (Below w.heap.size w w'))
        case atStart => exact ⟨(y967), (a1), (0), zr, zr, H', ⟨Nat.le_refl _⟩, ⟨zR HO_5⟩, ⟨zb⟩⟩
        case round =>
          clear H'; (try clear c1); (try clear p2); (try clear c7); (try clear c11); (try clear p2); obtain ⟨x5_2, x6_2, x7_2, rfl, rfl, HA, HK2, HO_5, HB⟩ := hrel
          cases gk with
          | zero => exact absurd HA.out (by simp [spec_ShareFood.l0])
          | succ k2 =>
            have H := HA.out; clear HA; simp only [spec_ShareFood.l0] at H
            by_cases c12 : x7_2 < (l0.length : Int)
            · rw [if_pos c12] at H; have c12b0 := decide_eq_true c12; clear c12; obtain ⟨c13, H⟩ := zif H; have c13b0 := decide_eq_true c13; clear c13; replace H := Option.bind_eq_some_iff.mp H; obtain ⟨t973, A140, H⟩ := H; have A14 := Aside0.mk A140; clear A140
              by_cases c15 : t973 = 0
              · rw [if_pos c15] at H; exact absurd H (by simp)
              · rw [if_neg c15] at H; have c15b0 : (t973 == 0) = false := beq_eq_false_iff_ne.mpr c15; have c15b1 : (t973 != 0) = true := bne_iff_ne.mpr c15; obtain ⟨c16, H⟩ := zif H; have LMc16 := Aside0.mk c16; clear c16; obtain ⟨y974, hy974⟩ : ∃ y_ : List Int, y_ = (x5_2 ++ [wrap64 (Int.tdiv (wrap64 (a1 * ((rd_T81 l0 x7_2).f2))) t973)]) := ⟨_, rfl⟩
                replace H : (if x7_2 < (y974.length : Int) then (spec_ShareFood.l0 k2 l0 a1 y974 (wrap64 (x6_2 - (rd y974 x7_2))) (wrap64 (x7_2 + 1))) else (none)) = some r := by first | (rw [hy974]; with_reducible exact H) | (have H2_ := (Option.bind_some _ _).symm.trans H; rw [hy974]; with_reducible exact H2_) | (have H2_ := (Option.bind_some _ _).symm.trans H; with_reducible exact H2_) | with_reducible exact H | (rw [hy974]; exact H) | exact H
                have Ny974 := Aside0.mk hy974; clear hy974; obtain ⟨c17, H⟩ := zif H; have c17b0 := decide_eq_true c17; clear c17; have H' := Aside0.mk H; clear H
                try go_wp2
                replace HO_5 := Aside0.mk (Kd.R_drew HO_5.out); replace HB := Aside0.mk (below_drew1 HB.out); have p972 : 0 ≤ (x7_2 : Int) := zd; have q972 : x7_2 < (l0.length : Int) := zd; obtain ⟨ad972, e972, hx972_0, hx972_1, hx972_2, hx972_3⟩ := at_T81 HR0.out x7_2 p972 q972; have hw972_3 := hx972_3; have hw972_2 := hx972_2; have hw972_1 := hx972_1; have hw972_0 := hx972_0; cases e972; replace hx972_0 := (HB.out.cell (World.block_lt_of_cell? w _ hx972_0)).trans hx972_0; replace hx972_1 := (HB.out.cell (World.block_lt_of_cell? w _ hx972_1)).trans hx972_1; replace hx972_2 := (HB.out.cell (World.block_lt_of_cell? w _ hx972_2)).trans hx972_2; replace hx972_3 := (HB.out.cell (World.block_lt_of_cell? w _ hx972_3)).trans hx972_3; replace p972 := eq_true p972; replace q972 := eq_true q972; refine start_ (n := 14) (S := fun w' => w'.cell? (ad972.add ((x7_2).toNat * 4)) = some (.int .i64 ((rd_T81 l0 x7_2).f0)) ∧ w'.cell? ⟨(ad972.add ((x7_2).toNat * 4)).block, (ad972.add ((x7_2).toNat * 4)).off + 1, none⟩ = some (.int .i64 ((rd_T81 l0 x7_2).f1)) ∧ w'.cell? ⟨(ad972.add ((x7_2).toNat * 4)).block, (ad972.add ((x7_2).toNat * 4)).off + 2, none⟩ = some (.int .i64 ((rd_T81 l0 x7_2).f2)) ∧ w'.cell? ⟨(ad972.add ((x7_2).toNat * 4)).block, (ad972.add ((x7_2).toNat * 4)).off + 3, none⟩ = some (.bool ((rd_T81 l0 x7_2).f3))) (ds := []) _ (by kernel_rfl) rfl rfl ⟨((HB.out.cell (World.block_lt_of_cell? w _ hw972_0)).trans hw972_0), ((HB.out.cell (World.block_lt_of_cell? w _ hw972_1)).trans hw972_1), ((HB.out.cell (World.block_lt_of_cell? w _ hw972_2)).trans hw972_2), ((HB.out.cell (World.block_lt_of_cell? w _ hw972_3)).trans hw972_3)⟩ (fun hHeld => ?_); refine with_tabW spec_ShareFood.tab8 spec_ShareFood.bits8 (fun HT_ HW_ => ?_); generalize wr.drew = w18 at HO_5 HB hx972_0 hx972_1 hx972_2 hx972_3 hHeld ⊢; refine zp 0 26 HT_ ?_; refine zp 1 27 HT_ ?_; refine zp 2 28 HT_ ?_; refine zp 3 29 HT_ ?_; refine zp 4 30 HT_ ?_; refine zp 5 31 HT_ ?_; refine zp 8 34 HT_ ?_; refine zt 6 32 HT_ HW_ hHeld ?_; refine zp 7 33 HT_ ?_; refine zo 9 35 HT_ (fun K hK => ?_); refine zgo Try.func137 #[.slice (some ad972) l0.length c0] ?_
                with_reducible refine (spec_NeedOf.calls k2 _ _ l0 t973 _ ?side1 ?side2 A14.out).mono ?_
                (case side1 => exact zCb HR0); (case side2 => exact HC0.out); rintro e w19 ⟨rfl, hb⟩; refine ⟨_, rfl, ?_⟩; replace HO_5 := zRb HO_5 hb; replace HB := zbs hb; (try clear hb); (try clear hb2); (try clear hk); (try clear hi); refine hK.out _ _ ⟨((HB.out.cell (World.block_lt_of_cell? w _ hw972_0)).trans hw972_0), ((HB.out.cell (World.block_lt_of_cell? w _ hw972_1)).trans hw972_1), ((HB.out.cell (World.block_lt_of_cell? w _ hw972_2)).trans hw972_2), ((HB.out.cell (World.block_lt_of_cell? w _ hw972_3)).trans hw972_3)⟩ (fun hHeld => ?_); clear hK K; refine norm_ (a' := ?_) ?_ ?_; rotate_left
                · show Act.put _ (some 35) _ = _
                  simp only [Act.put, List.setIfInBounds_toArray, List.set_cons_zero, List.set_cons_succ, i64_w, i32_w]; rfl
                refine zp 10 36 HT_ ?_; refine zo 11 37 HT_ (fun K hK => ?_); refine value_ (w1 := ?_) (v := ?_) (by rfl) rfl ?_ ?_; rotate_left 2
                · go_simp
                  constructor
                  · rfl
                  · rfl
                refine hK.out _ _ ⟨(World.cell?_alloc_lt _ _ _ (World.block_lt_of_cell? _ _ (((HB.out.cell (World.block_lt_of_cell? w _ hw972_0)).trans hw972_0)))).trans (((HB.out.cell (World.block_lt_of_cell? w _ hw972_0)).trans hw972_0)), (World.cell?_alloc_lt _ _ _ (World.block_lt_of_cell? _ _ (((HB.out.cell (World.block_lt_of_cell? w _ hw972_1)).trans hw972_1)))).trans (((HB.out.cell (World.block_lt_of_cell? w _ hw972_1)).trans hw972_1)), (World.cell?_alloc_lt _ _ _ (World.block_lt_of_cell? _ _ (((HB.out.cell (World.block_lt_of_cell? w _ hw972_2)).trans hw972_2)))).trans (((HB.out.cell (World.block_lt_of_cell? w _ hw972_2)).trans hw972_2)), (World.cell?_alloc_lt _ _ _ (World.block_lt_of_cell? _ _ (((HB.out.cell (World.block_lt_of_cell? w _ hw972_3)).trans hw972_3)))).trans (((HB.out.cell (World.block_lt_of_cell? w _ hw972_3)).trans hw972_3))⟩ (fun hHeld => ?_); clear hK K; refine norm_ (a' := ?_) ?_ ?_; rotate_left
                · show Act.put _ (some 37) _ = _
                  simp only [Act.put, List.setIfInBounds_toArray, List.set_cons_zero, List.set_cons_succ, i64_w, i32_w]; rfl
                refine zo 12 38 HT_ (fun K hK => ?_); refine Kd.R_append_step (Kd.int .i64) (w0 := w) w.heap.size (by rfl) (.tmp 26) (.tmp 37) 22 3 (.int .i64 0) 8 rfl Try.underlying22 info3 rfl (by decide) (by omega) u5 x5_2 (wrap64 (Int.tdiv (wrap64 (a1 * ((rd_T81 l0 x7_2).f2))) t973)) [.int .i64 (wrap64 (Int.tdiv (wrap64 (a1 * ((rd_T81 l0 x7_2).f2))) t973))] (fun _ => True) (fun _ => False) rfl rfl ?aP (fun _ hk => hk.elim) ?aF ?aO ?aB ?aS ?aL ?_; (case aP => exact rfl); (case aB => exact zb); (case aF => exact (fun _ _ => trivial)); (case aO => exact (zR HO_5)); (case aS => exact (below_size zb)); (case aL => have := LMc16.out; omega); intro v975 w20 ho hb hg hat; rw [← Ny974.out] at ho; replace HB := Aside0.mk (hb); have HO976 := Aside0.mk (ho); clear HO_5; clear ho hb hg hat; refine hK.out _ _ ⟨((HB.out.cell (World.block_lt_of_cell? w _ hw972_0)).trans hw972_0), ((HB.out.cell (World.block_lt_of_cell? w _ hw972_1)).trans hw972_1), ((HB.out.cell (World.block_lt_of_cell? w _ hw972_2)).trans hw972_2), ((HB.out.cell (World.block_lt_of_cell? w _ hw972_3)).trans hw972_3)⟩ (fun hHeld => ?_); clear hK K; refine norm_ (a' := ?_) ?_ ?_; rotate_left
                · show Act.put _ (some 38) _ = _
                  simp only [Act.put, List.setIfInBounds_toArray, List.set_cons_zero, List.set_cons_succ, i64_w, i32_w]; rfl
                refine zp 13 5 HT_ ?_; refine done_ (done_of HT_.out (by kernel_rfl)) ?_; obtain ⟨Ao21, co21, eo21⟩ := Kd.R_slice HO976.out; subst eo21; have p977 : 0 ≤ (x7_2 : Int) := zd; have q977 : x7_2 < (y974.length : Int) := zd; obtain ⟨ad977, e977, hx977_0⟩ := Kd.at_int (Kd.R_reads' HO976.out).2.2 x7_2 p977 q977; cases e977; replace p977 := eq_true p977; replace q977 := eq_true q977
                try go_wp2
                go_roundg k2
                case measure => have := HJ2.out; have := HK2.out; omega
                case rel => exact ⟨(y974), (wrap64 (x6_2 - (rd y974 x7_2))), (wrap64 (x7_2 + 1)), zr, zr, H', ⟨by have := HJ2.out; have := HK2.out; omega⟩, ⟨zR HO976⟩, ⟨zb⟩⟩
            · rw [if_neg c12] at H; have c12b0 := decide_eq_false c12; clear c12; have H' := Aside0.mk H; clear H; go_wp2
              go_loopg [8] k2 (fun kq v8 w' => ∃ (x5_3 : List Int) (x8_3 : Int), v8 = .int .i64 x8_3 ∧ Aside0 (spec_ShareFood.l1 kq x5_3 x6_2 x8_3 = some r) ∧ Aside0 (kq ≤ k2) ∧ Aside0 (Kd.R (Kd.int .i64) 3 w' w.heap.size (fun _ => True) u5 x5_3) ∧ Aside0 (Below w.heap.size w w'))
              case atStart => exact ⟨(x5_2), (0), zr, H', ⟨Nat.le_refl _⟩, ⟨zR HO_5⟩, ⟨zb⟩⟩
              case round =>
                clear H'; (try clear c1); (try clear p2); (try clear p6); (try clear c7); (try clear p9); (try clear q9); (try clear hx9); (try clear c11); (try clear c12); (try clear c12b0); (try clear c13); (try clear c13b0); (try clear c15); (try clear c15b0); (try clear c15b1); (try clear c16); (try clear c17); (try clear c17b0); (try clear hx972_0); (try clear hx972_1); (try clear hx972_2); (try clear hx972_3); (try clear hx977_0); (try clear p2); (try clear p972); (try clear p977); (try clear q972); (try clear q977); obtain ⟨x5_3, x8_3, rfl, HA, HK3, HO_5, HB⟩ := hrel
                cases gk with
                | zero => exact absurd HA.out (by simp [spec_ShareFood.l1])
                | succ k3 =>
                  have H := HA.out; clear HA; simp only [spec_ShareFood.l1] at H
                  by_cases c22 : x8_3 < x6_2
                  · rw [if_pos c22] at H; have c22b0 := decide_eq_true c22; clear c22; obtain ⟨c23, H⟩ := zif H; have c23b0 := decide_eq_true c23; clear c23; obtain ⟨c24, H⟩ := zif H; have c24b0 := decide_eq_true c24; clear c24; obtain ⟨y979, hy979⟩ : ∃ y_ : List Int, y_ = (x5_3.set (x8_3 : Int).toNat (wrap64 ((rd x5_3 x8_3) + 1))) := ⟨_, rfl⟩
                    replace H : (spec_ShareFood.l1 k3 y979 x6_2 (wrap64 (x8_3 + 1))) = some r := by first | (rw [hy979]; with_reducible exact H) | (have H2_ := (Option.bind_some _ _).symm.trans H; rw [hy979]; with_reducible exact H2_) | (have H2_ := (Option.bind_some _ _).symm.trans H; with_reducible exact H2_) | with_reducible exact H | (rw [hy979]; exact H) | exact H
                    have Ny979 := Aside0.mk hy979; clear hy979; have H' := Aside0.mk H; clear H; obtain ⟨Ao26, co26, eo26⟩ := Kd.R_slice HO_5.out; subst eo26; have p978 : 0 ≤ (x8_3 : Int) := zd; have q978 : x8_3 < (x5_3.length : Int) := zd; obtain ⟨ad978, e978, hx978_0⟩ := Kd.at_int (Kd.R_reads' HO_5.out).2.2 x8_3 p978 q978; cases e978; replace p978 := eq_true p978; replace q978 := eq_true q978; have p25 : 0 ≤ (x8_3 : Int) := zd; have q25 : (x8_3 : Int) < ((x5_3.length : Int) : Int) := zd; obtain ⟨go25, co25, eo25, gb25, gl25, cl25, HG25⟩ := Kd.R_form HO_5.out (by omega); (first | cases eo25 | (injection eo25 with ea_ en_ ec_; (first | subst ea_ | (injection ea_ with ea_; subst ea_)); subst ec_; clear en_)); have GB25 := Aside0.mk gb25; have GG25 := Aside0.mk HG25; clear gb25 gl25 HG25; (first | simp only [add_plain] at hx978_0 | skip); obtain ⟨hx25_0, hf25_0⟩ := Kd.R_celln 0 HO_5.out (x8_3 : Int) p25 q25; replace p25 := eq_true p25; replace q25 := eq_true q25; have HP27 := Kd.R_putg HO_5.out (x8_3 : Int) (wrap64 ((rd x5_3 x8_3) + 1))
                    go_wp2_with (first | ((with_reducible refine gate_store (t := 3) (p := 57) rfl ?_); refine store_event (t := 3) (p := 57) (v := ?vo_w28) (w1 := (wr.setCell ⟨go25, (x8_3 : Int).toNat, none⟩ (.int .i64 (wrap64 ((rd x5_3 x8_3) + 1))))) ?hg ?ho ?hn ?hr ?_; (case ho => rfl); (case hg => rfl); (case hn => rfl); (case hr => first | (go_simp; done) | (go_simp; rfl)); intro w28 hw; have hg : wr.grownBy w28 (some go25) := (by rw [hw]; exact HP27.2); have hp_ : Kd.R (Kd.int .i64) 3 w28 w.heap.size (fun _ => True) (.slice (some ⟨go25, 0, none⟩) x5_3.length co26) y979 := (by rw [hw, Ny979.out]; exact HP27.1); clear HP27; replace HO_5 := Aside0.mk (hp_); replace HB := Aside0.mk ((by rw [hw]; exact below_set (HB.out) GB25.out : Below w.heap.size w w28)); clear hg hw hp_))
                    go_roundg k3
                    case measure => have := HJ2.out; have := HK2.out; have := HK3.out; omega
                    case rel => exact ⟨(y979), (wrap64 (x8_3 + 1)), zr, H', ⟨by have := HJ2.out; have := HK2.out; have := HK3.out; omega⟩, ⟨zR HO_5⟩, ⟨zb⟩⟩
                  · rw [if_neg c22] at H; have c22b0 := decide_eq_false c22; clear c22; obtain rfl := Option.some.inj H; go_wp2; go_ret; exact ⟨_, by first | rfl | (simp [errW_none, errW_some] <;> rfl) | (simp [*, errW_none, errW_some] <;> rfl), zR HO_5, zb⟩

/-! ### impl_ShareFood: function 76 -/
mutual
def impl_ShareFood.j0 : Nat → List (S81) → Int → Bool → Option (List Int)
  | 0, _, _, _ => none
  | k + 1, x0, x1, x18 => if x18 = true then (some ([] : List Int)) else (impl_ShareFood.l0 k x0 x1 (([] : List Int)) x1 x0 (x0.length : Int) 0)
def impl_ShareFood.l0 : Nat → List (S81) → Int → List Int → Int → List (S81) → Int → Int → Option (List Int)
  | 0, _, _, _, _, _, _, _ => none
  | k + 1, x0, x1, x5, x6, x21, x22, x23 => if x23 < x22 then (if 0 ≤ x23 then (if x23 < (x21.length : Int) then ((impl_NeedOf.f k x0).bind fun t990 => (if t990 = 0 then (none) else (if x5.length < 17592186044416 then (impl_ShareFood.l0 k x0 x1 (x5 ++ [wrap64 (Int.tdiv (wrap64 (x1 * ((rd_T81 x21 x23).f2))) t990)]) (wrap64 (x6 - (wrap64 (Int.tdiv (wrap64 (x1 * ((rd_T81 x21 x23).f2))) t990)))) x21 x22 (wrap64 (x23 + 1))) else (none)))) else (none)) else (none)) else (impl_ShareFood.l1 k x5 x6 0)
def impl_ShareFood.l1 : Nat → List Int → Int → Int → Option (List Int)
  | 0, _, _, _ => none
  | k + 1, x5, x6, x10 => if x6 > 0 then (if (x5.length : Int) = 0 then (none) else (if 0 ≤ (Int.tmod x10 (x5.length : Int)) then (if (Int.tmod x10 (x5.length : Int)) < (x5.length : Int) then (impl_ShareFood.l1 k (x5.set ((Int.tmod x10 (x5.length : Int)) : Int).toNat (wrap64 ((rd x5 (Int.tmod x10 (x5.length : Int))) + 1))) (wrap64 (x6 - 1)) (wrap64 (x10 + 1))) else (none)) else (none))) else (some x5)
end
def impl_ShareFood.f (k : Nat) (l0 : List (S81)) (a1 : Int) : Option (List Int) := (impl_AreCrew.f k l0).bind fun t983 => (if t983 = true then ((impl_InRange.f a1 0 10000).bind fun t984 => (impl_ShareFood.j0 k l0 a1 (!t984))) else (impl_ShareFood.j0 k l0 a1 true))
def impl_ShareFood.T7 : Bool × List (List Nat × List Nat) := (true, [([], []), ([], []), ([1], [1]), ([0, 2], [0, 2]), ([], []), ([4], [4]), ([3, 5], [3, 5]), ([6, 5, 0, 1, 2, 3, 4, 5, 6], [6])])
def impl_ShareFood.B7 : List Nat := [0, 0, 2, 7, 0, 16, 63, 127]
theorem impl_ShareFood.tab7 : rtab .any (opsOf Try.f76 7) = impl_ShareFood.T7 := by kernel_rfl
theorem impl_ShareFood.bits7 : waitsOk impl_ShareFood.T7.2 impl_ShareFood.B7 = true := by kernel_rfl
set_option maxHeartbeats 8000000 in
set_option maxRecDepth 100000 in
theorem impl_ShareFood.calls (k : Nat) (A0 : Option Addr) (c0 : Nat) (l0 : List (S81)) (a1 : Int) (r : List Int) (w : World) (hr0 : Kd.C k81 w A0 l0.length l0) (hc0 : l0.length ≤ c0) (h : impl_ShareFood.f k l0 a1 = some r) :
    Calls Try.prog 76 #[.slice A0 l0.length c0, .int .i64 a1] w fun e w' => ∃ v0_ : Value, e = .returned (v0_) ∧ Kd.R (Kd.int .i64) 3 w' w.heap.size (fun _ => True) v0_ r ∧ Below w.heap.size w w' := by
  have hu81 := Try.underlying81; have HR0 := Aside0.mk hr0; have HC0 := Aside0.mk hc0; clear hr0 hc0; have HB := Aside0.mk (Below.refl w.heap.size w); have H := h; clear h; unfold impl_ShareFood.f at H; have HC3 := Aside0.mk H; clear H; go_enter Try.func76, Try.ntmps76
  go_upto_region 1 with (fail)
  go_cut [18] (fun v18 wc => ∃ (kq : Nat) (x18_2 : Bool), v18 = .bool x18_2 ∧ Aside0 (impl_ShareFood.j0 kq l0 a1 x18_2 = some r) ∧ Aside0 (kq ≤ k) ∧ Aside0 (Below w.heap.size w wc))
  case first =>
    have H := HC3.out; clear HC3; replace H := Option.bind_eq_some_iff.mp H; obtain ⟨t983, A40, H⟩ := H; have A4 := Aside0.mk A40; clear A40
    by_cases c5 : t983 = true
    · subst c5; rw [if_pos rfl] at H; replace H := Option.bind_eq_some_iff.mp H; obtain ⟨t984, A60, H⟩ := H; have A6 := Aside0.mk A60; clear A60; have H' := Aside0.mk H; clear H
      go_wp2_with (first | ((with_reducible refine gate_callee (f := 89) rfl ?_); refine zgl 12 Try.func89 #[.slice A0 l0.length c0] ?_; (with_reducible refine (impl_AreCrew.calls k _ _ l0 true _ ?side1 ?side2 A4.out).mono ?_); (case side1 => exact zCb HR0); (case side2 => exact HC0.out); rintro e w7 ⟨rfl, hb⟩; refine ⟨_, rfl, ?_⟩; replace HB := zbs hb; (try clear hb); (try clear hb2); (try clear hk); (try clear hi)) | (go_at_call 115; (with_reducible refine (impl_InRange.calls a1 0 10000 t984 _ A6.out).mono ?_); rintro e w' ⟨rfl, ⟨nd, rfl⟩⟩))
      go_meet
      case rel => exact ⟨_, (!t984), zr, H', ⟨by first | omega | exact Nat.le_refl _⟩, ⟨zb⟩⟩
    · replace c5 := Bool.eq_false_iff.mpr c5; subst c5; rw [if_neg (show ¬ (false = true) by decide)] at H; have H' := Aside0.mk H; clear H
      go_wp2_with (first | ((with_reducible refine gate_callee (f := 89) rfl ?_); refine zgl 12 Try.func89 #[.slice A0 l0.length c0] ?_; (with_reducible refine (impl_AreCrew.calls k _ _ l0 false _ ?side1 ?side2 A4.out).mono ?_); (case side1 => exact zCb HR0); (case side2 => exact HC0.out); rintro e w8 ⟨rfl, hb⟩; refine ⟨_, rfl, ?_⟩; replace HB := zbs hb; (try clear hb); (try clear hb2); (try clear hk); (try clear hi)))
      go_meet
      case rel => exact ⟨_, (true), zr, H', ⟨by first | omega | exact Nat.le_refl _⟩, ⟨zb⟩⟩
  case rest =>
    clear HC3; (try clear p2); (try clear c5); (try clear c7); (try clear c8); obtain ⟨kq, x18_2, rfl, HA, HJ2, HB⟩ := hcut; cases kq with
    | zero => exact absurd HA.out (by simp [impl_ShareFood.j0])
    | succ kj2 =>
      have H := HA.out; clear HA; simp only [impl_ShareFood.j0] at H
      by_cases c9 : x18_2 = true
      · subst c9; rw [if_pos rfl] at H; obtain rfl := Option.some.inj H; go_wp2; go_ret; exact ⟨_, by first | rfl | (simp [errW_none, errW_some] <;> rfl) | (simp [*, errW_none, errW_some] <;> rfl), by first | exact Kd.R_nil _ _ _ _ _ | exact Kd.N_nil _ _ _ _ _ | exact Kd.V_nil _ _ _ _ _ | exact Kd.Q_nil _ _ _ _ _ | exact Kd.S_nil _ _ _ _ _, zb⟩
      · replace c9 := Bool.eq_false_iff.mpr c9; subst c9; rw [if_neg (show ¬ (false = true) by decide)] at H; obtain ⟨y985, hy985⟩ : ∃ y_ : List Int, y_ = (([] : List Int)) := ⟨_, rfl⟩
        replace H : (impl_ShareFood.l0 kj2 l0 a1 y985 a1 l0 (l0.length : Int) 0) = some r := by first | (rw [hy985]; with_reducible exact H) | (have H2_ := (Option.bind_some _ _).symm.trans H; rw [hy985]; with_reducible exact H2_) | (have H2_ := (Option.bind_some _ _).symm.trans H; with_reducible exact H2_) | with_reducible exact H | (rw [hy985]; exact H) | exact H
        have Ny985 := Aside0.mk hy985; clear hy985; have H' := Aside0.mk H; clear H
        go_wp2_with (first | ((with_reducible refine gate_dst (N := 19) rfl ?_); refine Kd.R_lit (Kd.int .i64) _ 3 ?hg (N := 19) ?hd (xs := ([] : List Int)) (inner := []) (ok := fun _ => True) (okp := fun _ => True) ?hr ?hp (fun _ hk => hk) trivial (Below.refl _ _) (Nat.le_refl _) (by simp) ?_; (case hd => rfl); (case hg => rfl); (case hr => first | (go_simp; done) | (go_simp; rfl)); (case hp => exact (Reps.none _ _)); intro v986 w10 ho11 hb hg_ hnew_; clear hg_ hnew_; (first | rw [← Ny985.out] at ho11 | (simp only [Int.reduceToNat] at ho11; rw [← Ny985.out] at ho11)); have HO987 := Aside0.mk (Kd.R_lower ho11 (below_size zb)); replace HB := zbs hb; clear hb ho11))
        go_loopg [5, 6, 23] kj2 (fun kq v5 v6 v23 w' => ∃ (x5_2 : List Int) (x6_2 : Int) (x23_2 : Int), v6 = .int .i64 x6_2 ∧ v23 = .int .i64 x23_2 ∧ Aside0 (impl_ShareFood.l0 kq l0 a1 x5_2 x6_2 l0 (l0.length : Int) x23_2 = some r) ∧ Aside0 (kq ≤ kj2) ∧ Aside0 (Kd.R (Kd.int .i64) 3 w' w.heap.size (fun _ => True) v5 x5_2) ∧ Aside0 (Below w.heap.size w w'))
        case atStart => exact ⟨(y985), (a1), (0), zr, zr, H', ⟨Nat.le_refl _⟩, ⟨zR HO987⟩, ⟨zb⟩⟩
        case round =>
          clear H'; (try clear p2); (try clear c5); (try clear c7); (try clear c8); (try clear c9); (try clear p2); obtain ⟨x5_2, x6_2, x23_2, rfl, rfl, HA, HK2, HO_5, HB⟩ := hrel
          cases gk with
          | zero => exact absurd HA.out (by simp [impl_ShareFood.l0])
          | succ k2 =>
            have H := HA.out; clear HA; simp only [impl_ShareFood.l0] at H
            by_cases c12 : x23_2 < (l0.length : Int)
            · rw [if_pos c12] at H; have c12b0 := decide_eq_true c12; clear c12; obtain ⟨c13, H⟩ := zif H; have c13b0 := decide_eq_true c13; clear c13; obtain ⟨c14, H⟩ := zif H; have c14b0 := decide_eq_true c14; clear c14; replace H := Option.bind_eq_some_iff.mp H; obtain ⟨t990, A150, H⟩ := H; have A15 := Aside0.mk A150; clear A150
              by_cases c16 : t990 = 0
              · rw [if_pos c16] at H; exact absurd H (by simp)
              · rw [if_neg c16] at H; have c16b0 : (t990 == 0) = false := beq_eq_false_iff_ne.mpr c16; have c16b1 : (t990 != 0) = true := bne_iff_ne.mpr c16; obtain ⟨c17, H⟩ := zif H; have LMc17 := Aside0.mk c17; clear c17; obtain ⟨y991, hy991⟩ : ∃ y_ : List Int, y_ = (x5_2 ++ [wrap64 (Int.tdiv (wrap64 (a1 * ((rd_T81 l0 x23_2).f2))) t990)]) := ⟨_, rfl⟩
                replace H : (impl_ShareFood.l0 k2 l0 a1 y991 (wrap64 (x6_2 - (wrap64 (Int.tdiv (wrap64 (a1 * ((rd_T81 l0 x23_2).f2))) t990)))) l0 (l0.length : Int) (wrap64 (x23_2 + 1))) = some r := by first | (rw [hy991]; with_reducible exact H) | (have H2_ := (Option.bind_some _ _).symm.trans H; rw [hy991]; with_reducible exact H2_) | (have H2_ := (Option.bind_some _ _).symm.trans H; with_reducible exact H2_) | with_reducible exact H | (rw [hy991]; exact H) | exact H
                have Ny991 := Aside0.mk hy991; clear hy991; have H' := Aside0.mk H; clear H; have p988 : 0 ≤ (x23_2 : Int) := zd; have q988 : x23_2 < (l0.length : Int) := zd; obtain ⟨ad988, e988, hx988_0, hx988_1, hx988_2, hx988_3⟩ := at_T81 HR0.out x23_2 p988 q988; cases e988; replace hx988_0 := (HB.out.cell (World.block_lt_of_cell? w _ hx988_0)).trans hx988_0; replace hx988_1 := (HB.out.cell (World.block_lt_of_cell? w _ hx988_1)).trans hx988_1; replace hx988_2 := (HB.out.cell (World.block_lt_of_cell? w _ hx988_2)).trans hx988_2; replace hx988_3 := (HB.out.cell (World.block_lt_of_cell? w _ hx988_3)).trans hx988_3; replace p988 := eq_true p988; replace q988 := eq_true q988
                try go_wp2_with (first | ((with_reducible refine gate_dst (N := 8) rfl ?_); refine zbx 8 #[.int .i64 0, .int .i64 0, .int .i64 0, .bool false] 81 ?_; intro gb989 hg w18 hbox hb; replace HO_5 := zRb HO_5 hb; have BK989 := Aside0.mk (hbox); have GW989 := zga (w := w) hg; have GE989 := zga (w := w) hg; replace HB := zbs hb; clear hb hbox hg; obtain ⟨hcz19_0, hcz19_1, hcz19_2, hcz19_3⟩ := zc4 BK989; obtain ⟨hfz19_0, hfz19_1, hfz19_2, hfz19_3⟩ := zf4 BK989))
                have n0_ : Aside0 (Kd.R (Kd.int .i64) 3 ((((w18.setCell ⟨gb989, 0, none⟩ (.int .i64 ((rd_T81 l0 x23_2).f0))).setCell ⟨gb989, 1, none⟩ (.int .i64 ((rd_T81 l0 x23_2).f1))).setCell ⟨gb989, 2, none⟩ (.int .i64 ((rd_T81 l0 x23_2).f2))).setCell ⟨gb989, 3, none⟩ (.bool ((rd_T81 l0 x23_2).f3))) w.heap.size (fun _ => True) u5 x5_2) := ⟨zF1 HO_5 BK989⟩; have n1_ : Aside0 (((((w18.setCell ⟨gb989, 0, none⟩ (.int .i64 ((rd_T81 l0 x23_2).f0))).setCell ⟨gb989, 1, none⟩ (.int .i64 ((rd_T81 l0 x23_2).f1))).setCell ⟨gb989, 2, none⟩ (.int .i64 ((rd_T81 l0 x23_2).f2))).setCell ⟨gb989, 3, none⟩ (.bool ((rd_T81 l0 x23_2).f3))).heap[gb989]? = some (.cells #[.int .i64 ((rd_T81 l0 x23_2).f0), .int .i64 ((rd_T81 l0 x23_2).f1), .int .i64 ((rd_T81 l0 x23_2).f2), .bool ((rd_T81 l0 x23_2).f3)] 81 (0, 0))) := ⟨by (with_reducible repeat (first | refine blk_drewN ?_ _ | refine blk_drew ?_ | refine blk_alloc ?_ _)); refine blk_put (cs := #[.int .i64 ((rd_T81 l0 x23_2).f0), .int .i64 ((rd_T81 l0 x23_2).f1), .int .i64 ((rd_T81 l0 x23_2).f2), .bool false]) ?_ 3 _ rfl; (with_reducible repeat (first | refine blk_drewN ?_ _ | refine blk_drew ?_ | refine blk_alloc ?_ _)); refine blk_put (cs := #[.int .i64 ((rd_T81 l0 x23_2).f0), .int .i64 ((rd_T81 l0 x23_2).f1), .int .i64 0, .bool false]) ?_ 2 _ rfl; (with_reducible repeat (first | refine blk_drewN ?_ _ | refine blk_drew ?_ | refine blk_alloc ?_ _)); refine blk_put (cs := #[.int .i64 ((rd_T81 l0 x23_2).f0), .int .i64 0, .int .i64 0, .bool false]) ?_ 1 _ rfl; (with_reducible repeat (first | refine blk_drewN ?_ _ | refine blk_drew ?_ | refine blk_alloc ?_ _)); refine blk_put (cs := #[.int .i64 0, .int .i64 0, .int .i64 0, .bool false]) ?_ 0 _ rfl; (with_reducible repeat (first | refine blk_drewN ?_ _ | refine blk_drew ?_ | refine blk_alloc ?_ _)); exact BK989.out⟩; have n2_ : Aside0 (Below w.heap.size w ((((w18.setCell ⟨gb989, 0, none⟩ (.int .i64 ((rd_T81 l0 x23_2).f0))).setCell ⟨gb989, 1, none⟩ (.int .i64 ((rd_T81 l0 x23_2).f1))).setCell ⟨gb989, 2, none⟩ (.int .i64 ((rd_T81 l0 x23_2).f2))).setCell ⟨gb989, 3, none⟩ (.bool ((rd_T81 l0 x23_2).f3)))) := ⟨zb⟩; (try clear HO_5); (try clear BK989); (try clear HB); generalize ((((w18.setCell ⟨gb989, 0, none⟩ (.int .i64 ((rd_T81 l0 x23_2).f0))).setCell ⟨gb989, 1, none⟩ (.int .i64 ((rd_T81 l0 x23_2).f1))).setCell ⟨gb989, 2, none⟩ (.int .i64 ((rd_T81 l0 x23_2).f2))).setCell ⟨gb989, 3, none⟩ (.bool ((rd_T81 l0 x23_2).f3))) = w20 at n0_ n1_ n2_ ⊢; have HO_5 := n0_; have BK989 := n1_; have HB := n2_; clear n0_ n1_ n2_; replace HO_5 := Aside0.mk (Kd.R_drew HO_5.out); replace BK989 := Aside0.mk (blk_drew BK989.out); replace HB := Aside0.mk (below_drew1 HB.out); refine start_ (n := 8) (S := fun w' => w'.cell? ⟨gb989, 0, none⟩ = some (.int .i64 ((rd_T81 l0 x23_2).f0)) ∧ w'.cell? ⟨gb989, 1, none⟩ = some (.int .i64 ((rd_T81 l0 x23_2).f1)) ∧ w'.cell? ⟨gb989, 2, none⟩ = some (.int .i64 ((rd_T81 l0 x23_2).f2)) ∧ w'.cell? ⟨gb989, 3, none⟩ = some (.bool ((rd_T81 l0 x23_2).f3))) (ds := []) _ (by kernel_rfl) rfl rfl ⟨zq BK989 0, zq BK989 1, zq BK989 2, zq BK989 3⟩ (fun hHeld => ?_); refine with_tabW impl_ShareFood.tab7 impl_ShareFood.bits7 (fun HT_ HW_ => ?_); generalize w20.drew = w21 at HO_5 BK989 HB hHeld ⊢; refine zp 0 27 HT_ ?_; refine zp 1 28 HT_ ?_; refine zp 4 31 HT_ ?_; refine zt 2 29 HT_ HW_ hHeld ?_; refine zp 3 30 HT_ ?_; refine zo 5 32 HT_ (fun K hK => ?_); refine zgo Try.func105 #[.slice (some ad988) l0.length c0] ?_
                with_reducible refine (impl_NeedOf.calls k2 _ _ l0 t990 _ ?side1 ?side2 A15.out).mono ?_
                (case side1 => exact zCb HR0); (case side2 => exact HC0.out); rintro e w22 ⟨rfl, hb⟩; refine ⟨_, rfl, ?_⟩; replace HO_5 := zRb HO_5 hb; replace BK989 := Aside0.mk (blk_below (g := gb989) (o := .cells #[.int .i64 ((rd_T81 l0 x23_2).f0), .int .i64 ((rd_T81 l0 x23_2).f1), .int .i64 ((rd_T81 l0 x23_2).f2), .bool ((rd_T81 l0 x23_2).f3)] 81 (0, 0)) (zk BK989) hb); replace HB := zbs hb; (try clear hb); (try clear hb2); (try clear hk); (try clear hi); refine hK.out _ _ ⟨zq BK989 0, zq BK989 1, zq BK989 2, zq BK989 3⟩ (fun hHeld => ?_); clear hK K; refine norm_ (a' := ?_) ?_ ?_; rotate_left
                · show Act.put _ (some 32) _ = _
                  simp only [Act.put, List.setIfInBounds_toArray, List.set_cons_zero, List.set_cons_succ, i64_w, i32_w]; rfl
                refine zp 6 33 HT_ ?_; refine zp 7 9 HT_ ?_; refine done_ (done_of HT_.out (by kernel_rfl)) ?_
                try go_wp2_with (first | ((with_reducible refine gate_builtin (b := .append) (xs := #[.tmp 34, .tmp 36]) rfl ?_); at_builtin; refine Kd.R_append (Kd.int .i64) (w0 := w) w.heap.size rfl (.tmp 34) (.tmp 36) 22 3 (.int .i64 0) 8 rfl Try.underlying22 info3 rfl (by decide) (by omega) u5 x5_2 (wrap64 (Int.tdiv (wrap64 (a1 * ((rd_T81 l0 x23_2).f2))) t990)) [.int .i64 (wrap64 (Int.tdiv (wrap64 (a1 * ((rd_T81 l0 x23_2).f2))) t990))] (fun _ => True) (fun _ => False) rfl rfl ?aP (fun _ hk => hk.elim) ?aF ?aO ?aB ?aS ?aL ?_; (case aP => exact rfl); (case aB => exact zb); (case aF => exact (fun _ _ => trivial)); (case aO => exact (zR HO_5)); (case aS => exact (below_size zb)); (case aL => have := LMc17.out; omega); intro v992 w23 ho hb hg hat; rw [← Ny991.out] at ho; replace BK989 := Aside0.mk (blk_grown (g := gb989) (o := .cells #[.int .i64 ((rd_T81 l0 x23_2).f0), .int .i64 ((rd_T81 l0 x23_2).f1), .int .i64 ((rd_T81 l0 x23_2).f2), .bool ((rd_T81 l0 x23_2).f3)] 81 (0, 0)) (zk BK989) hg (Kd.R_ne HO_5.out BK989.out (by decide))); replace HB := Aside0.mk (hb); have HO993 := Aside0.mk (ho); clear HO_5; clear ho hb hg hat))
                go_roundg k2
                case measure => have := HJ2.out; have := HK2.out; omega
                case rel => exact ⟨(y991), (wrap64 (x6_2 - (wrap64 (Int.tdiv (wrap64 (a1 * ((rd_T81 l0 x23_2).f2))) t990)))), (wrap64 (x23_2 + 1)), zr, zr, H', ⟨by have := HJ2.out; have := HK2.out; omega⟩, ⟨zR HO993⟩, ⟨zb⟩⟩
            · rw [if_neg c12] at H; have c12b0 := decide_eq_false c12; clear c12; have H' := Aside0.mk H; clear H; go_wp2
              go_loopg [6, 10] k2 (fun kq v6 v10 w' => ∃ (x5_3 : List Int) (x6_3 : Int) (x10_3 : Int), v6 = .int .i64 x6_3 ∧ v10 = .int .i64 x10_3 ∧ Aside0 (impl_ShareFood.l1 kq x5_3 x6_3 x10_3 = some r) ∧ Aside0 (kq ≤ k2) ∧ Aside0 (Kd.R (Kd.int .i64) 3 w' w.heap.size (fun _ => True) u5 x5_3) ∧ Aside0 (Below w.heap.size w w'))
              case atStart => exact ⟨(x5_2), (x6_2), (0), zr, zr, H', ⟨Nat.le_refl _⟩, ⟨zR HO_5⟩, ⟨zb⟩⟩
              case round =>
                clear H'; (try clear c1); (try clear p2); (try clear c5); (try clear p6); (try clear c7); (try clear c8); (try clear c9); (try clear p9); (try clear q9); (try clear hx9); (try clear c10); (try clear c12); (try clear c12b0); (try clear c13); (try clear c13b0); (try clear c14); (try clear c14b0); (try clear c16); (try clear c16b0); (try clear c16b1); (try clear c17); (try clear hcz19_0); (try clear hcz19_1); (try clear hcz19_2); (try clear hcz19_3); (try clear hfz19_0); (try clear hfz19_1); (try clear hfz19_2); (try clear hfz19_3); (try clear hx988_0); (try clear hx988_1); (try clear hx988_2); (try clear hx988_3); (try clear p2); (try clear p988); (try clear q988); obtain ⟨x5_3, x6_3, x10_3, rfl, rfl, HA, HK3, HO_5, HB⟩ := hrel
                cases gk with
                | zero => exact absurd HA.out (by simp [impl_ShareFood.l1])
                | succ k3 =>
                  have H := HA.out; clear HA; simp only [impl_ShareFood.l1] at H
                  by_cases c24 : x6_3 > 0
                  · rw [if_pos c24] at H; have c24b0 : decide (0 < x6_3) = true := decide_eq_true c24; clear c24
                    by_cases c25 : (x5_3.length : Int) = 0
                    · rw [if_pos c25] at H; exact absurd H (by simp)
                    · rw [if_neg c25] at H; have c25b0 : ((x5_3.length : Int) == 0) = false := beq_eq_false_iff_ne.mpr c25; have c25b1 : ((x5_3.length : Int) != 0) = true := bne_iff_ne.mpr c25; have c25b2 : ¬ (x5_3 = []) := fun h_ => c25 (by rw [h_]; rfl); obtain ⟨ji26, hji26⟩ : ∃ j_ : Int, (Int.tmod x10_3 (x5_3.length : Int)) = j_ := ⟨_, rfl⟩
                      replace H : (if 0 ≤ (ji26) then (if (ji26) < (x5_3.length : Int) then (impl_ShareFood.l1 k3 (x5_3.set ((ji26) : Int).toNat (wrap64 ((rd x5_3 (ji26)) + 1))) (wrap64 (x6_3 - 1)) (wrap64 (x10_3 + 1))) else (none)) else (none)) = some r := by first | (rw [hji26] at H; exact H) | (simp only [hji26] at H ⊢; exact H)
                      obtain ⟨c27, H⟩ := zif H; have c27b0 := decide_eq_true c27; clear c27; obtain ⟨c28, H⟩ := zif H; have c28b0 := decide_eq_true c28; clear c28; obtain ⟨y995, hy995⟩ : ∃ y_ : List Int, y_ = (x5_3.set ((ji26) : Int).toNat (wrap64 ((rd x5_3 (ji26)) + 1))) := ⟨_, rfl⟩
                      replace H : (impl_ShareFood.l1 k3 y995 (wrap64 (x6_3 - 1)) (wrap64 (x10_3 + 1))) = some r := by first | (rw [hy995]; with_reducible exact H) | (have H2_ := (Option.bind_some _ _).symm.trans H; rw [hy995]; with_reducible exact H2_) | (have H2_ := (Option.bind_some _ _).symm.trans H; with_reducible exact H2_) | with_reducible exact H | (rw [hy995]; exact H) | exact H
                      have Ny995 := Aside0.mk hy995; clear hy995; have H' := Aside0.mk H; clear H; obtain ⟨Ao30, co30, eo30⟩ := Kd.R_slice HO_5.out; subst eo30; have p994 : 0 ≤ ((ji26) : Int) := zd; have q994 : (ji26) < (x5_3.length : Int) := zd; obtain ⟨ad994, e994, hx994_0⟩ := Kd.at_int (Kd.R_reads' HO_5.out).2.2 (ji26) p994 q994; cases e994; replace p994 := eq_true p994; replace q994 := eq_true q994; have p29 : 0 ≤ ((ji26) : Int) := zd; have q29 : ((ji26) : Int) < ((x5_3.length : Int) : Int) := zd; obtain ⟨go29, co29, eo29, gb29, gl29, cl29, HG29⟩ := Kd.R_form HO_5.out (by omega); (first | cases eo29 | (injection eo29 with ea_ en_ ec_; (first | subst ea_ | (injection ea_ with ea_; subst ea_)); subst ec_; clear en_)); have GB29 := Aside0.mk gb29; have GG29 := Aside0.mk HG29; clear gb29 gl29 HG29; (first | simp only [add_plain] at hx994_0 | skip); obtain ⟨hx29_0, hf29_0⟩ := Kd.R_celln 0 HO_5.out ((ji26) : Int) p29 q29; replace p29 := eq_true p29; replace q29 := eq_true q29; have HP31 := Kd.R_putg HO_5.out ((ji26) : Int) (wrap64 ((rd x5_3 (ji26)) + 1))
                      go_wp2_with (first | ((with_reducible refine gate_store (t := 3) (p := 54) rfl ?_); refine store_event (t := 3) (p := 54) (v := ?vo_w32) (w1 := (wr.setCell ⟨go29, ((ji26) : Int).toNat, none⟩ (.int .i64 (wrap64 ((rd x5_3 (ji26)) + 1))))) ?hg ?ho ?hn ?hr ?_; (case ho => rfl); (case hg => rfl); (case hn => rfl); (case hr => first | (go_simp; done) | (go_simp; rfl)); intro w32 hw; have hg : wr.grownBy w32 (some go29) := (by rw [hw]; exact HP31.2); have hp_ : Kd.R (Kd.int .i64) 3 w32 w.heap.size (fun _ => True) (.slice (some ⟨go29, 0, none⟩) x5_3.length co30) y995 := (by rw [hw, Ny995.out]; exact HP31.1); clear HP31; replace HO_5 := Aside0.mk (hp_); replace HB := Aside0.mk ((by rw [hw]; exact below_set (HB.out) GB29.out : Below w.heap.size w w32)); clear hg hw hp_))
                      go_roundg k3
                      case measure => have := HJ2.out; have := HK2.out; have := HK3.out; omega
                      case rel => exact ⟨(y995), (wrap64 (x6_3 - 1)), (wrap64 (x10_3 + 1)), zr, zr, H', ⟨by have := HJ2.out; have := HK2.out; have := HK3.out; omega⟩, ⟨zR HO_5⟩, ⟨zb⟩⟩
                  · rw [if_neg c24] at H; have c24b0 : decide (0 < x6_3) = false := decide_eq_false c24; clear c24; obtain rfl := Option.some.inj H; go_wp2; go_ret; exact ⟨_, by first | rfl | (simp [errW_none, errW_some] <;> rfl) | (simp [*, errW_none, errW_some] <;> rfl), zR HO_5, zb⟩
end Go.Proofs.Ytcokbhkjfdddkaa.Q
