/- Walks of 1 functions of the program: each comes to what a plain function tells. -/
import Derived.Test.YtcokbhkjfdddkaaG0
import Derived.Test.YtcokbhkjfdddkaaG2
import Derived.Test.YtcokbhkjfdddkaaG8
import Derived.Test.YtcokbhkjfdddkaaG23
namespace Go.Proofs.Ytcokbhkjfdddkaa.Q
open Go.RowKit Go.Proofs.YtcokbhkjfdddkaaW.PrintWords Go.Proofs.YtcokbhkjfdddkaaW.PrintLast Go.Proofs.YtcokbhkjfdddkaaW.PrintMore Go.Proofs.YtcokbhkjfdddkaaW.Zip
attribute [local go_sem] max2_int min2_int max_two min_two max_three min_three max_four min_four   -- for this text's walks alone
set_option linter.unusedVariables false
set_option linter.unusedSimpArgs false

/-! ### spec_ShareLoad: function 85 -/
mutual
def spec_ShareLoad.j0 : Nat → List (S81) → Int → List Int → Bool → Option (List Int)
  | 0, _, _, _, _ => none
  | k + 1, x0, x1, x5, x18 => if x18 = true then (some x5) else (spec_ShareLoad.l0 k x0 x1 x5 0)
def spec_ShareLoad.l0 : Nat → List (S81) → Int → List Int → Int → Option (List Int)
  | 0, _, _, _, _ => none
  | k + 1, x0, x1, x5, x6 => if x6 < (x0.length : Int) then (if 0 ≤ x6 then (if ((rd_T81 x0 x6).f3 = true) then (if x5.length < 17592186044416 then (spec_ShareLoad.l0 k x0 (wrap64 (x1 - 0)) (x5 ++ [0]) (wrap64 (x6 + 1))) else (none)) else ((spec_Min.f ((rd_T81 x0 x6).f1) x1).bind fun t447 => (if x5.length < 17592186044416 then (spec_ShareLoad.l0 k x0 (wrap64 (x1 - t447)) (x5 ++ [t447]) (wrap64 (x6 + 1))) else (none)))) else (none)) else (some x5)
end
def spec_ShareLoad.f (k : Nat) (l0 : List (S81)) (a1 : Int) : Option (List Int) := (some (([] : List Int) : List Int)).bind fun y436 => ((spec_AreCrew.f k l0).bind fun t439 => (if t439 = true then ((spec_CapOf.f k l0).bind fun t440 => ((spec_l1In.f a1 0 t440).bind fun t441 => (spec_ShareLoad.j0 k l0 a1 y436 (!t441)))) else (spec_ShareLoad.j0 k l0 a1 y436 true)))
set_option maxHeartbeats 8000000 in
set_option maxRecDepth 100000 in
theorem spec_ShareLoad.calls (k : Nat) (A0 : Option Addr) (c0 : Nat) (l0 : List (S81)) (a1 : Int) (r : List Int) (w : World) (hr0 : Kd.C k81 w A0 l0.length l0) (hc0 : l0.length ≤ c0) (h : spec_ShareLoad.f k l0 a1 = some r) :
    Calls Try.prog 85 #[.slice A0 l0.length c0, .int .i64 a1] w fun e w' => ∃ v0_ : Value, e = .returned (v0_) ∧ Kd.R (Kd.int .i64) 3 w' w.heap.size (fun _ => True) v0_ r ∧ Below w.heap.size w w' := by
  have HR0 := Aside0.mk hr0; have HC0 := Aside0.mk hc0; clear hr0 hc0; have HB := Aside0.mk (Below.refl w.heap.size w); have H := h; clear h; unfold spec_ShareLoad.f at H; obtain ⟨y436, hy436⟩ : ∃ y_ : List Int, y_ = (([] : List Int)) := ⟨_, rfl⟩
  replace H : ((spec_AreCrew.f k l0).bind fun t439 => (if t439 = true then ((spec_CapOf.f k l0).bind fun t440 => ((spec_l1In.f a1 0 t440).bind fun t441 => (spec_ShareLoad.j0 k l0 a1 y436 (!t441)))) else (spec_ShareLoad.j0 k l0 a1 y436 true))) = some r := by first | (rw [hy436]; with_reducible exact H) | (have H2_ := (Option.bind_some _ _).symm.trans H; rw [hy436]; with_reducible exact H2_) | (have H2_ := (Option.bind_some _ _).symm.trans H; with_reducible exact H2_) | with_reducible exact H | (rw [hy436]; exact H) | exact H
  have Ny436 := Aside0.mk hy436; clear hy436; have HC3 := Aside0.mk H; clear H; go_enter Try.func85, Try.ntmps85
  go_upto_region 2 with (first | ((with_reducible refine gate_dst (N := 8) rfl ?_); refine Kd.R_lit (Kd.int .i64) _ 3 ?hg (N := 8) ?hd (xs := ([] : List Int)) (inner := []) (ok := fun _ => True) (okp := fun _ => True) ?hr ?hp (fun _ hk => hk) trivial (Below.refl _ _) (Nat.le_refl _) (by simp) ?_; (case hd => rfl); (case hg => rfl); (case hr => first | (go_simp; done) | (go_simp; rfl)); (case hp => exact (Reps.none _ _)); intro v437 w4 ho5 hb hg_ hnew_; clear hg_ hnew_; (first | rw [← Ny436.out] at ho5 | (simp only [Int.reduceToNat] at ho5; rw [← Ny436.out] at ho5)); have HO438 := Aside0.mk (Kd.R_lower ho5 (below_size zb)); replace HB := zbs hb; clear hb ho5))
  (try simp only [Act.put, List.setIfInBounds_toArray, List.set_cons_zero, List.set_cons_succ])
  go_cut [18] (fun v18 wc => ∃ (kq : Nat) (x18_2 : Bool), v18 = .bool x18_2 ∧ Aside0 (spec_ShareLoad.j0 kq l0 a1 y436 x18_2 = some r) ∧ Aside0 (kq ≤ k) ∧ Aside0 (Kd.R (Kd.int .i64) 3 wc w.heap.size (fun _ => True) v437 y436) ∧ Aside0 (Below w.heap.size w wc))
  case first =>
    have H := HC3.out; clear HC3; replace H := Option.bind_eq_some_iff.mp H; obtain ⟨t439, A60, H⟩ := H; have A6 := Aside0.mk A60; clear A60
    by_cases c7 : t439 = true
    · subst c7; rw [if_pos rfl] at H; replace H := Option.bind_eq_some_iff.mp H; obtain ⟨t440, A80, H⟩ := H; have A8 := Aside0.mk A80; clear A80; replace H := Option.bind_eq_some_iff.mp H; obtain ⟨t441, A90, H⟩ := H; have A9 := Aside0.mk A90; clear A90; have H' := Aside0.mk H; clear H
      go_wp2_with (first | ((with_reducible refine gate_callee (f := 136) rfl ?_); refine zgl 10 Try.func136 #[.slice A0 l0.length c0] ?_; (with_reducible refine (spec_AreCrew.calls k _ _ l0 true _ ?side1 ?side2 A6.out).mono ?_); (case side1 => exact zCb HR0); (case side2 => exact HC0.out); rintro e w10 ⟨rfl, hb⟩; refine ⟨_, rfl, ?_⟩; replace HO438 := zRb HO438 hb; replace HB := zbs hb; (try clear hb); (try clear hb2); (try clear hk); (try clear hi)) | (go_at_call 140; (with_reducible refine (spec_CapOf.calls k _ _ l0 t440 _ ?side1 ?side2 A8.out).mono ?_); (case side1 => exact zCb HR0); (case side2 => exact HC0.out); rintro e w11 ⟨rfl, hb⟩; replace HO438 := zRb HO438 hb; replace HB := zbs hb; (try clear hb); (try clear hb2); (try clear hk); (try clear hi)) | (go_at_call 113; (with_reducible refine (spec_l1In.calls a1 0 t440 t441 _ A9.out).mono ?_); rintro e w' ⟨rfl, ⟨nd, rfl⟩⟩))
      go_meet
      case rel => exact ⟨_, (!t441), zr, H', ⟨by first | omega | exact Nat.le_refl _⟩, ⟨zR HO438⟩, ⟨zb⟩⟩
    · replace c7 := Bool.eq_false_iff.mpr c7; subst c7; rw [if_neg (show ¬ (false = true) by decide)] at H; have H' := Aside0.mk H; clear H
      go_wp2_with (first | ((with_reducible refine gate_callee (f := 136) rfl ?_); refine zgl 10 Try.func136 #[.slice A0 l0.length c0] ?_; (with_reducible refine (spec_AreCrew.calls k _ _ l0 false _ ?side1 ?side2 A6.out).mono ?_); (case side1 => exact zCb HR0); (case side2 => exact HC0.out); rintro e w12 ⟨rfl, hb⟩; refine ⟨_, rfl, ?_⟩; replace HO438 := zRb HO438 hb; replace HB := zbs hb; (try clear hb); (try clear hb2); (try clear hk); (try clear hi)))
      go_meet
      case rel => exact ⟨_, (true), zr, H', ⟨by first | omega | exact Nat.le_refl _⟩, ⟨zR HO438⟩, ⟨zb⟩⟩
  case rest =>
    clear HC3; (try clear c1); (try clear p2); (try clear c7); (try clear c8); obtain ⟨kq, x18_2, rfl, HA, HJ2, HO_5, HB⟩ := hcut; cases kq with
    | zero => exact absurd HA.out (by simp [spec_ShareLoad.j0])
    | succ kj2 =>
      have H := HA.out; clear HA; simp only [spec_ShareLoad.j0] at H
      by_cases c13 : x18_2 = true
      · subst c13; rw [if_pos rfl] at H; obtain rfl := Option.some.inj H; go_wp2; go_ret; exact ⟨_, by first | rfl | (simp [errW_none, errW_some] <;> rfl) | (simp [*, errW_none, errW_some] <;> rfl), zR HO_5, zb⟩
      · replace c13 := Bool.eq_false_iff.mpr c13; subst c13; rw [if_neg (show ¬ (false = true) by decide)] at H; have H' := Aside0.mk H; clear H; go_wp2
        go_loopg [1, 5, 6] kj2 (fun kq v1 v5 v6 w' => ∃ (x1_2 : Int) (x5_2 : List Int) (x6_2 : Int), v1 = .int .i64 x1_2 ∧ v6 = .int .i64 x6_2 ∧ Aside0 (spec_ShareLoad.l0 kq l0 x1_2 x5_2 x6_2 = some r) ∧ Aside0 (kq ≤ kj2) ∧ Aside0 (Kd.R (Kd.int .i64) 3 w' w.heap.size (fun _ => True) v5 x5_2) ∧ Aside0 (Below w.heap.size w w'))
        case atStart => exact ⟨(a1), (y436), (0), zr, zr, H', ⟨Nat.le_refl _⟩, ⟨zR HO_5⟩, ⟨zb⟩⟩
        case round =>
          clear H'; (try clear c1); (try clear p2); (try clear c7); (try clear c8); (try clear c13); (try clear p2); obtain ⟨x1_2, x5_2, x6_2, rfl, rfl, HA, HK2, HO_5, HB⟩ := hrel
          cases gk with
          | zero => exact absurd HA.out (by simp [spec_ShareLoad.l0])
          | succ k2 =>
            have H := HA.out; clear HA; simp only [spec_ShareLoad.l0] at H
            by_cases c14 : x6_2 < (l0.length : Int)
            · rw [if_pos c14] at H; have c14b0 := decide_eq_true c14; clear c14; obtain ⟨c15, H⟩ := zif H; have c15b0 := decide_eq_true c15; clear c15; obtain ⟨bq16, hbq16⟩ : ∃ b_ : Bool, b_ = ((rd_T81 l0 x6_2).f3) := ⟨_, rfl⟩
              replace H : (if (bq16 = true) then (if x5_2.length < 17592186044416 then (spec_ShareLoad.l0 k2 l0 (wrap64 (x1_2 - 0)) (x5_2 ++ [0]) (wrap64 (x6_2 + 1))) else (none)) else ((spec_Min.f ((rd_T81 l0 x6_2).f1) x1_2).bind fun t447 => (if x5_2.length < 17592186044416 then (spec_ShareLoad.l0 k2 l0 (wrap64 (x1_2 - t447)) (x5_2 ++ [t447]) (wrap64 (x6_2 + 1))) else (none)))) = some r := by rw [← hbq16] at H; exact H
              have Nbq16 := Aside0.mk hbq16; clear hbq16
              by_cases c17 : (bq16 = true)
              · subst c17; rw [if_pos rfl] at H; obtain ⟨c18, H⟩ := zif H; have LMc18 := Aside0.mk c18; clear c18; obtain ⟨y443, hy443⟩ : ∃ y_ : List Int, y_ = (x5_2 ++ [0]) := ⟨_, rfl⟩
                replace H : (spec_ShareLoad.l0 k2 l0 (wrap64 (x1_2 - 0)) y443 (wrap64 (x6_2 + 1))) = some r := by first | (rw [hy443]; with_reducible exact H) | (have H2_ := (Option.bind_some _ _).symm.trans H; rw [hy443]; with_reducible exact H2_) | (have H2_ := (Option.bind_some _ _).symm.trans H; with_reducible exact H2_) | with_reducible exact H | (rw [hy443]; exact H) | exact H
                have Ny443 := Aside0.mk hy443; clear hy443; have H' := Aside0.mk H; clear H; have p442 : 0 ≤ (x6_2 : Int) := zd; have q442 : x6_2 < (l0.length : Int) := zd; obtain ⟨ad442, e442, hx442_0, hx442_1, hx442_2, hx442_3⟩ := at_T81 HR0.out x6_2 p442 q442; (try rw [← Nbq16.out] at hx442_3); cases e442; replace hx442_0 := (HB.out.cell (World.block_lt_of_cell? w _ hx442_0)).trans hx442_0; replace hx442_1 := (HB.out.cell (World.block_lt_of_cell? w _ hx442_1)).trans hx442_1; replace hx442_2 := (HB.out.cell (World.block_lt_of_cell? w _ hx442_2)).trans hx442_2; replace hx442_3 := (HB.out.cell (World.block_lt_of_cell? w _ hx442_3)).trans hx442_3; replace p442 := eq_true p442; replace q442 := eq_true q442
                go_wp2_with (first | ((with_reducible refine gate_builtin (b := .append) (xs := #[.tmp 39, .tmp 41]) rfl ?_); at_builtin; refine Kd.R_append (Kd.int .i64) (w0 := w) w.heap.size rfl (.tmp 39) (.tmp 41) 22 3 (.int .i64 0) 8 rfl Try.underlying22 info3 rfl (by decide) (by omega) u5 x5_2 0 [.int .i64 0] (fun _ => True) (fun _ => False) rfl rfl ?aP (fun _ hk => hk.elim) ?aF ?aO ?aB ?aS ?aL ?_; (case aP => exact rfl); (case aB => exact zb); (case aF => exact (fun _ _ => trivial)); (case aO => exact (zR HO_5)); (case aS => exact (below_size zb)); (case aL => have := LMc18.out; omega); intro v444 w19 ho hb hg hat; rw [← Ny443.out] at ho; replace HB := Aside0.mk (hb); have HO445 := Aside0.mk (ho); clear HO_5; clear ho hb hg hat))
                go_roundg k2
                case measure => have := HJ2.out; have := HK2.out; omega
                case rel => exact ⟨(wrap64 (x1_2 - 0)), (y443), (wrap64 (x6_2 + 1)), zr, zr, H', ⟨by have := HJ2.out; have := HK2.out; omega⟩, ⟨zR HO445⟩, ⟨zb⟩⟩
              · replace c17 := Bool.eq_false_iff.mpr c17; subst c17; rw [if_neg (show ¬ (false = true) by decide)] at H; replace H := Option.bind_eq_some_iff.mp H; obtain ⟨t447, A200, H⟩ := H; have A20 := Aside0.mk A200; clear A200; obtain ⟨c21, H⟩ := zif H; have LMc21 := Aside0.mk c21; clear c21; obtain ⟨y448, hy448⟩ : ∃ y_ : List Int, y_ = (x5_2 ++ [t447]) := ⟨_, rfl⟩
                replace H : (spec_ShareLoad.l0 k2 l0 (wrap64 (x1_2 - t447)) y448 (wrap64 (x6_2 + 1))) = some r := by first | (rw [hy448]; with_reducible exact H) | (have H2_ := (Option.bind_some _ _).symm.trans H; rw [hy448]; with_reducible exact H2_) | (have H2_ := (Option.bind_some _ _).symm.trans H; with_reducible exact H2_) | with_reducible exact H | (rw [hy448]; exact H) | exact H
                have Ny448 := Aside0.mk hy448; clear hy448; have H' := Aside0.mk H; clear H; have p442 : 0 ≤ (x6_2 : Int) := zd; have q442 : x6_2 < (l0.length : Int) := zd; obtain ⟨ad442, e442, hx442_0, hx442_1, hx442_2, hx442_3⟩ := at_T81 HR0.out x6_2 p442 q442; (try rw [← Nbq16.out] at hx442_3); cases e442; replace hx442_0 := (HB.out.cell (World.block_lt_of_cell? w _ hx442_0)).trans hx442_0; replace hx442_1 := (HB.out.cell (World.block_lt_of_cell? w _ hx442_1)).trans hx442_1; replace hx442_2 := (HB.out.cell (World.block_lt_of_cell? w _ hx442_2)).trans hx442_2; replace hx442_3 := (HB.out.cell (World.block_lt_of_cell? w _ hx442_3)).trans hx442_3; replace p442 := eq_true p442; replace q442 := eq_true q442; have p446 : 0 ≤ (x6_2 : Int) := zd; have q446 : x6_2 < (l0.length : Int) := zd; obtain ⟨ad446, e446, hx446_0, hx446_1, hx446_2, hx446_3⟩ := at_T81 HR0.out x6_2 p446 q446; (try rw [← Nbq16.out] at hx446_3); obtain rfl : ad442 = ad446 := (by injection e446); replace hx446_0 := (HB.out.cell (World.block_lt_of_cell? w _ hx446_0)).trans hx446_0; replace hx446_1 := (HB.out.cell (World.block_lt_of_cell? w _ hx446_1)).trans hx446_1; replace hx446_2 := (HB.out.cell (World.block_lt_of_cell? w _ hx446_2)).trans hx446_2; replace hx446_3 := (HB.out.cell (World.block_lt_of_cell? w _ hx446_3)).trans hx446_3; replace p446 := eq_true p446; replace q446 := eq_true q446
                go_wp2_with (first | ((with_reducible refine gate_callee (f := 141) rfl ?_); refine zgl 38 Try.func141 #[.int .i64 ((rd_T81 l0 x6_2).f1), .int .i64 x1_2] ?_; (with_reducible refine (spec_Min.calls ((rd_T81 l0 x6_2).f1) x1_2 t447 _ A20.out).mono ?_); rintro e w' ⟨rfl, ⟨nd, rfl⟩⟩; refine ⟨_, rfl, ?_⟩) | ((with_reducible refine gate_builtin (b := .append) (xs := #[.tmp 39, .tmp 41]) rfl ?_); at_builtin; refine Kd.R_append (Kd.int .i64) (w0 := w) w.heap.size rfl (.tmp 39) (.tmp 41) 22 3 (.int .i64 0) 8 rfl Try.underlying22 info3 rfl (by decide) (by omega) u5 x5_2 t447 [.int .i64 t447] (fun _ => True) (fun _ => False) rfl rfl ?aP (fun _ hk => hk.elim) ?aF ?aO ?aB ?aS ?aL ?_; (case aP => exact rfl); (case aB => exact zb); (case aF => exact (fun _ _ => trivial)); (case aO => exact (zR HO_5)); (case aS => exact (below_size zb)); (case aL => have := LMc21.out; omega); intro v449 w22 ho hb hg hat; rw [← Ny448.out] at ho; replace HB := Aside0.mk (hb); have HO450 := Aside0.mk (ho); clear HO_5; clear ho hb hg hat))
                go_roundg k2
                case measure => have := HJ2.out; have := HK2.out; omega
                case rel => exact ⟨(wrap64 (x1_2 - t447)), (y448), (wrap64 (x6_2 + 1)), zr, zr, H', ⟨by have := HJ2.out; have := HK2.out; omega⟩, ⟨zR HO450⟩, ⟨zb⟩⟩
            · rw [if_neg c14] at H; have c14b0 := decide_eq_false c14; clear c14; obtain rfl := Option.some.inj H; go_wp2; go_ret; exact ⟨_, by first | rfl | (simp [errW_none, errW_some] <;> rfl) | (simp [*, errW_none, errW_some] <;> rfl), zR HO_5, zb⟩
end Go.Proofs.Ytcokbhkjfdddkaa.Q
