/- Walks of 1 functions of the program: each comes to what a plain function tells. -/
import Derived.Test.YtcokbhkjfdddkaaG0
import Derived.Test.YtcokbhkjfdddkaaG1
import Derived.Test.YtcokbhkjfdddkaaG4
import Derived.Test.YtcokbhkjfdddkaaG11
namespace Go.Proofs.Ytcokbhkjfdddkaa.Q
open Go.RowKit Go.Proofs.YtcokbhkjfdddkaaW.PrintWords Go.Proofs.YtcokbhkjfdddkaaW.PrintLast Go.Proofs.YtcokbhkjfdddkaaW.PrintMore Go.Proofs.YtcokbhkjfdddkaaW.Zip
attribute [local go_sem] max2_int min2_int max_two min_two max_three min_three max_four min_four   -- for this text's walks alone
set_option linter.unusedVariables false
set_option linter.unusedSimpArgs false

/-! ### impl_ShareLoad: function 86 -/
mutual
def impl_ShareLoad.j0 : Nat → List (S81) → Int → Bool → Option (List Int)
  | 0, _, _, _ => none
  | k + 1, x0, x1, x18 => if x18 = true then (some ([] : List Int)) else (impl_ShareLoad.l0 k x1 (([] : List Int)) x0 (x0.length : Int) 0)
def impl_ShareLoad.l0 : Nat → Int → List Int → List (S81) → Int → Int → Option (List Int)
  | 0, _, _, _, _, _ => none
  | k + 1, x1, x5, x20, x21, x22 => if x22 < x21 then (if 0 ≤ x22 then (if x22 < (x20.length : Int) then (if (rd_T81 x20 x22).f3 = true then (if x5.length < 17592186044416 then (impl_ShareLoad.l0 k (wrap64 (x1 - 0)) (x5 ++ [0]) x20 x21 (wrap64 (x22 + 1))) else (none)) else (if x5.length < 17592186044416 then (impl_ShareLoad.l0 k (wrap64 (x1 - (mn ((rd_T81 x20 x22).f1) x1))) (x5 ++ [mn ((rd_T81 x20 x22).f1) x1]) x20 x21 (wrap64 (x22 + 1))) else (none))) else (none)) else (none)) else (some x5)
end
def impl_ShareLoad.f (k : Nat) (l0 : List (S81)) (a1 : Int) : Option (List Int) := (impl_AreCrew.f k l0).bind fun t466 => (if t466 = true then ((impl_CapOf.f k l0).bind fun t467 => ((impl_InRange.f a1 0 t467).bind fun t468 => (impl_ShareLoad.j0 k l0 a1 (!t468)))) else (impl_ShareLoad.j0 k l0 a1 true))
set_option maxHeartbeats 8000000 in
set_option maxRecDepth 100000 in
theorem impl_ShareLoad.calls (k : Nat) (A0 : Option Addr) (c0 : Nat) (l0 : List (S81)) (a1 : Int) (r : List Int) (w : World) (hr0 : Kd.C k81 w A0 l0.length l0) (hc0 : l0.length ≤ c0) (h : impl_ShareLoad.f k l0 a1 = some r) :
    Calls Try.prog 86 #[.slice A0 l0.length c0, .int .i64 a1] w fun e w' => ∃ v0_ : Value, e = .returned (v0_) ∧ Kd.R (Kd.int .i64) 3 w' w.heap.size (fun _ => True) v0_ r ∧ Below w.heap.size w w' := by
  have hu81 := Try.underlying81; have HR0 := Aside0.mk hr0; have HC0 := Aside0.mk hc0; clear hr0 hc0; have HB := Aside0.mk (Below.refl w.heap.size w); have H := h; clear h; unfold impl_ShareLoad.f at H; have HC3 := Aside0.mk H; clear H; go_enter Try.func86, Try.ntmps86
  go_upto_region 1 with (fail)
  go_cut [18] (fun v18 wc => ∃ (kq : Nat) (x18_2 : Bool), v18 = .bool x18_2 ∧ Aside0 (impl_ShareLoad.j0 kq l0 a1 x18_2 = some r) ∧ Aside0 (kq ≤ k) ∧ Aside0 (Below w.heap.size w wc))
  case first =>
    have H := HC3.out; clear HC3; replace H := Option.bind_eq_some_iff.mp H; obtain ⟨t466, A40, H⟩ := H; have A4 := Aside0.mk A40; clear A40
    by_cases c5 : t466 = true
    · subst c5; rw [if_pos rfl] at H; replace H := Option.bind_eq_some_iff.mp H; obtain ⟨t467, A60, H⟩ := H; have A6 := Aside0.mk A60; clear A60; replace H := Option.bind_eq_some_iff.mp H; obtain ⟨t468, A70, H⟩ := H; have A7 := Aside0.mk A70; clear A70; have H' := Aside0.mk H; clear H
      go_wp2_with (first | ((with_reducible refine gate_callee (f := 89) rfl ?_); refine zgl 10 Try.func89 #[.slice A0 l0.length c0] ?_; (with_reducible refine (impl_AreCrew.calls k _ _ l0 true _ ?side1 ?side2 A4.out).mono ?_); (case side1 => exact zCb HR0); (case side2 => exact HC0.out); rintro e w8 ⟨rfl, hb⟩; refine ⟨_, rfl, ?_⟩; replace HB := zbs hb; (try clear hb); (try clear hb2); (try clear hk); (try clear hi)) | (go_at_call 101; (with_reducible refine (impl_CapOf.calls k _ _ l0 t467 _ ?side1 ?side2 A6.out).mono ?_); (case side1 => exact zCb HR0); (case side2 => exact HC0.out); rintro e w9 ⟨rfl, hb⟩; replace HB := zbs hb; (try clear hb); (try clear hb2); (try clear hk); (try clear hi)) | (go_at_call 115; (with_reducible refine (impl_InRange.calls a1 0 t467 t468 _ A7.out).mono ?_); rintro e w' ⟨rfl, ⟨nd, rfl⟩⟩))
      go_meet
      case rel => exact ⟨_, (!t468), zr, H', ⟨by first | omega | exact Nat.le_refl _⟩, ⟨zb⟩⟩
    · replace c5 := Bool.eq_false_iff.mpr c5; subst c5; rw [if_neg (show ¬ (false = true) by decide)] at H; have H' := Aside0.mk H; clear H
      go_wp2_with (first | ((with_reducible refine gate_callee (f := 89) rfl ?_); refine zgl 10 Try.func89 #[.slice A0 l0.length c0] ?_; (with_reducible refine (impl_AreCrew.calls k _ _ l0 false _ ?side1 ?side2 A4.out).mono ?_); (case side1 => exact zCb HR0); (case side2 => exact HC0.out); rintro e w10 ⟨rfl, hb⟩; refine ⟨_, rfl, ?_⟩; replace HB := zbs hb; (try clear hb); (try clear hb2); (try clear hk); (try clear hi)))
      go_meet
      case rel => exact ⟨_, (true), zr, H', ⟨by first | omega | exact Nat.le_refl _⟩, ⟨zb⟩⟩
  case rest =>
    clear HC3; (try clear p2); (try clear c5); (try clear c8); obtain ⟨kq, x18_2, rfl, HA, HJ2, HB⟩ := hcut; cases kq with
    | zero => exact absurd HA.out (by simp [impl_ShareLoad.j0])
    | succ kj2 =>
      have H := HA.out; clear HA; simp only [impl_ShareLoad.j0] at H
      by_cases c11 : x18_2 = true
      · subst c11; rw [if_pos rfl] at H; obtain rfl := Option.some.inj H; go_wp2; go_ret; exact ⟨_, by first | rfl | (simp [errW_none, errW_some] <;> rfl) | (simp [*, errW_none, errW_some] <;> rfl), by first | exact Kd.R_nil _ _ _ _ _ | exact Kd.N_nil _ _ _ _ _ | exact Kd.V_nil _ _ _ _ _ | exact Kd.Q_nil _ _ _ _ _ | exact Kd.S_nil _ _ _ _ _, zb⟩
      · replace c11 := Bool.eq_false_iff.mpr c11; subst c11; rw [if_neg (show ¬ (false = true) by decide)] at H; obtain ⟨y469, hy469⟩ : ∃ y_ : List Int, y_ = (([] : List Int)) := ⟨_, rfl⟩
        replace H : (impl_ShareLoad.l0 kj2 a1 y469 l0 (l0.length : Int) 0) = some r := by first | (rw [hy469]; with_reducible exact H) | (have H2_ := (Option.bind_some _ _).symm.trans H; rw [hy469]; with_reducible exact H2_) | (have H2_ := (Option.bind_some _ _).symm.trans H; with_reducible exact H2_) | with_reducible exact H | (rw [hy469]; exact H) | exact H
        have Ny469 := Aside0.mk hy469; clear hy469; have H' := Aside0.mk H; clear H
        go_wp2_with (first | ((with_reducible refine gate_dst (N := 19) rfl ?_); refine Kd.R_lit (Kd.int .i64) _ 3 ?hg (N := 19) ?hd (xs := ([] : List Int)) (inner := []) (ok := fun _ => True) (okp := fun _ => True) ?hr ?hp (fun _ hk => hk) trivial (Below.refl _ _) (Nat.le_refl _) (by simp) ?_; (case hd => rfl); (case hg => rfl); (case hr => first | (go_simp; done) | (go_simp; rfl)); (case hp => exact (Reps.none _ _)); intro v470 w12 ho13 hb hg_ hnew_; clear hg_ hnew_; (first | rw [← Ny469.out] at ho13 | (simp only [Int.reduceToNat] at ho13; rw [← Ny469.out] at ho13)); have HO471 := Aside0.mk (Kd.R_lower ho13 (below_size zb)); replace HB := zbs hb; clear hb ho13))
        go_loopg [1, 5, 22] kj2 (fun kq v1 v5 v22 w' => ∃ (x1_2 : Int) (x5_2 : List Int) (x22_2 : Int), v1 = .int .i64 x1_2 ∧ v22 = .int .i64 x22_2 ∧ Aside0 (impl_ShareLoad.l0 kq x1_2 x5_2 l0 (l0.length : Int) x22_2 = some r) ∧ Aside0 (kq ≤ kj2) ∧ Aside0 (Kd.R (Kd.int .i64) 3 w' w.heap.size (fun _ => True) v5 x5_2) ∧ Aside0 (Below w.heap.size w w'))
        case atStart => exact ⟨(a1), (y469), (0), zr, zr, H', ⟨Nat.le_refl _⟩, ⟨zR HO471⟩, ⟨zb⟩⟩
        case round =>
          clear H'; (try clear c1); (try clear p2); (try clear c5); (try clear c8); (try clear c11); (try clear p2); obtain ⟨x1_2, x5_2, x22_2, rfl, rfl, HA, HK2, HO_5, HB⟩ := hrel
          cases gk with
          | zero => exact absurd HA.out (by simp [impl_ShareLoad.l0])
          | succ k2 =>
            have H := HA.out; clear HA; simp only [impl_ShareLoad.l0] at H
            by_cases c14 : x22_2 < (l0.length : Int)
            · rw [if_pos c14] at H; have c14b0 := decide_eq_true c14; clear c14; obtain ⟨c15, H⟩ := zif H; have c15b0 := decide_eq_true c15; clear c15; obtain ⟨c16, H⟩ := zif H; have c16b0 := decide_eq_true c16; clear c16; obtain ⟨ji17, hji17⟩ : ∃ j_ : Int, (mn ((rd_T81 l0 x22_2).f1) x1_2) = j_ := ⟨_, rfl⟩
              replace H : (if (rd_T81 l0 x22_2).f3 = true then (if x5_2.length < 17592186044416 then (impl_ShareLoad.l0 k2 (wrap64 (x1_2 - 0)) (x5_2 ++ [0]) l0 (l0.length : Int) (wrap64 (x22_2 + 1))) else (none)) else (if x5_2.length < 17592186044416 then (impl_ShareLoad.l0 k2 (wrap64 (x1_2 - (ji17))) (x5_2 ++ [ji17]) l0 (l0.length : Int) (wrap64 (x22_2 + 1))) else (none))) = some r := by first | (rw [hji17] at H; exact H) | (simp only [hji17] at H ⊢; exact H)
              have hji17_ : (if x1_2 < ((rd_T81 l0 x22_2).f1) then x1_2 else ((rd_T81 l0 x22_2).f1)) = ji17 := hji17; obtain ⟨bq18, hbq18⟩ : ∃ b_ : Bool, b_ = ((rd_T81 l0 x22_2).f3) := ⟨_, rfl⟩
              replace H : (if bq18 = true then (if x5_2.length < 17592186044416 then (impl_ShareLoad.l0 k2 (wrap64 (x1_2 - 0)) (x5_2 ++ [0]) l0 (l0.length : Int) (wrap64 (x22_2 + 1))) else (none)) else (if x5_2.length < 17592186044416 then (impl_ShareLoad.l0 k2 (wrap64 (x1_2 - (ji17))) (x5_2 ++ [ji17]) l0 (l0.length : Int) (wrap64 (x22_2 + 1))) else (none))) = some r := by rw [← hbq18] at H; exact H
              have Nbq18 := Aside0.mk hbq18; clear hbq18
              by_cases c19 : bq18 = true
              · subst c19; rw [if_pos rfl] at H; obtain ⟨c20, H⟩ := zif H; have LMc20 := Aside0.mk c20; clear c20; obtain ⟨y474, hy474⟩ : ∃ y_ : List Int, y_ = (x5_2 ++ [0]) := ⟨_, rfl⟩
                replace H : (impl_ShareLoad.l0 k2 (wrap64 (x1_2 - 0)) y474 l0 (l0.length : Int) (wrap64 (x22_2 + 1))) = some r := by first | (rw [hy474]; with_reducible exact H) | (have H2_ := (Option.bind_some _ _).symm.trans H; rw [hy474]; with_reducible exact H2_) | (have H2_ := (Option.bind_some _ _).symm.trans H; with_reducible exact H2_) | with_reducible exact H | (rw [hy474]; exact H) | exact H
                have Ny474 := Aside0.mk hy474; clear hy474; have H' := Aside0.mk H; clear H; have p472 : 0 ≤ (x22_2 : Int) := zd; have q472 : x22_2 < (l0.length : Int) := zd; obtain ⟨ad472, e472, hx472_0, hx472_1, hx472_2, hx472_3⟩ := at_T81 HR0.out x22_2 p472 q472; (try rw [← Nbq18.out] at hx472_3); cases e472; replace hx472_0 := (HB.out.cell (World.block_lt_of_cell? w _ hx472_0)).trans hx472_0; replace hx472_1 := (HB.out.cell (World.block_lt_of_cell? w _ hx472_1)).trans hx472_1; replace hx472_2 := (HB.out.cell (World.block_lt_of_cell? w _ hx472_2)).trans hx472_2; replace hx472_3 := (HB.out.cell (World.block_lt_of_cell? w _ hx472_3)).trans hx472_3; replace p472 := eq_true p472; replace q472 := eq_true q472
                go_wp2_with (first | ((with_reducible refine gate_dst (N := 7) rfl ?_); refine zbx 7 #[.int .i64 0, .int .i64 0, .int .i64 0, .bool false] 81 ?_; intro gb473 hg w21 hbox hb; replace HO_5 := zRb HO_5 hb; have BK473 := Aside0.mk (hbox); have GW473 := zga (w := w) hg; have GE473 := zga (w := w) hg; replace HB := zbs hb; clear hb hbox hg; obtain ⟨hcz22_0, hcz22_1, hcz22_2, hcz22_3⟩ := zc4 BK473; obtain ⟨hfz22_0, hfz22_1, hfz22_2, hfz22_3⟩ := zf4 BK473) | ((with_reducible refine gate_builtin (b := .append) (xs := #[.tmp 32, .tmp 34]) rfl ?_); at_builtin; refine Kd.R_append (Kd.int .i64) (w0 := w) w.heap.size rfl (.tmp 32) (.tmp 34) 22 3 (.int .i64 0) 8 rfl Try.underlying22 info3 rfl (by decide) (by omega) u5 x5_2 0 [.int .i64 0] (fun _ => True) (fun _ => False) rfl (by first | (go_simp; done) | (go_simp; rfl)) ?aP (fun _ hk => hk.elim) ?aF ?aO ?aB ?aS ?aL ?_; (case aP => exact rfl); (case aB => exact zb); (case aF => exact (fun _ _ => trivial)); (case aO => exact (zF1 HO_5 BK473)); (case aS => exact (below_size zb)); (case aL => have := LMc20.out; omega); intro v475 w23 ho hb hg hat; rw [← Ny474.out] at ho; replace BK473 := Aside0.mk (blk_grown (g := gb473) (o := .cells #[.int .i64 ((rd_T81 l0 x22_2).f0), .int .i64 ((rd_T81 l0 x22_2).f1), .int .i64 ((rd_T81 l0 x22_2).f2), .bool true] 81 (0, 0)) (zkp BK473) hg (Kd.R_ne HO_5.out BK473.out (by decide))); replace HB := Aside0.mk (hb); have HO476 := Aside0.mk (ho); clear HO_5; clear ho hb hg hat))
                go_roundg k2
                case measure => have := HJ2.out; have := HK2.out; omega
                case rel => exact ⟨(wrap64 (x1_2 - 0)), (y474), (wrap64 (x22_2 + 1)), zr, zr, H', ⟨by have := HJ2.out; have := HK2.out; omega⟩, ⟨zR HO476⟩, ⟨zb⟩⟩
              · replace c19 := Bool.eq_false_iff.mpr c19; subst c19; rw [if_neg (show ¬ (false = true) by decide)] at H; obtain ⟨c24, H⟩ := zif H; have LMc24 := Aside0.mk c24; clear c24; obtain ⟨y477, hy477⟩ : ∃ y_ : List Int, y_ = (x5_2 ++ [ji17]) := ⟨_, rfl⟩
                replace H : (impl_ShareLoad.l0 k2 (wrap64 (x1_2 - (ji17))) y477 l0 (l0.length : Int) (wrap64 (x22_2 + 1))) = some r := by first | (rw [hy477]; with_reducible exact H) | (have H2_ := (Option.bind_some _ _).symm.trans H; rw [hy477]; with_reducible exact H2_) | (have H2_ := (Option.bind_some _ _).symm.trans H; with_reducible exact H2_) | with_reducible exact H | (rw [hy477]; exact H) | exact H
                have Ny477 := Aside0.mk hy477; clear hy477; have H' := Aside0.mk H; clear H; have p472 : 0 ≤ (x22_2 : Int) := zd; have q472 : x22_2 < (l0.length : Int) := zd; obtain ⟨ad472, e472, hx472_0, hx472_1, hx472_2, hx472_3⟩ := at_T81 HR0.out x22_2 p472 q472; (try rw [← Nbq18.out] at hx472_3); cases e472; replace hx472_0 := (HB.out.cell (World.block_lt_of_cell? w _ hx472_0)).trans hx472_0; replace hx472_1 := (HB.out.cell (World.block_lt_of_cell? w _ hx472_1)).trans hx472_1; replace hx472_2 := (HB.out.cell (World.block_lt_of_cell? w _ hx472_2)).trans hx472_2; replace hx472_3 := (HB.out.cell (World.block_lt_of_cell? w _ hx472_3)).trans hx472_3; replace p472 := eq_true p472; replace q472 := eq_true q472
                go_wp2_with (first | ((with_reducible refine gate_dst (N := 7) rfl ?_); refine zbx 7 #[.int .i64 0, .int .i64 0, .int .i64 0, .bool false] 81 ?_; intro gb473 hg w25 hbox hb; replace HO_5 := zRb HO_5 hb; have BK473 := Aside0.mk (hbox); have GW473 := zga (w := w) hg; have GE473 := zga (w := w) hg; replace HB := zbs hb; clear hb hbox hg; obtain ⟨hcz26_0, hcz26_1, hcz26_2, hcz26_3⟩ := zc4 BK473; obtain ⟨hfz26_0, hfz26_1, hfz26_2, hfz26_3⟩ := zf4 BK473) | ((with_reducible refine gate_builtin (b := .append) (xs := #[.tmp 32, .tmp 34]) rfl ?_); at_builtin; refine Kd.R_append (Kd.int .i64) (w0 := w) w.heap.size rfl (.tmp 32) (.tmp 34) 22 3 (.int .i64 0) 8 rfl Try.underlying22 info3 rfl (by decide) (by omega) u5 x5_2 ji17 [.int .i64 ji17] (fun _ => True) (fun _ => False) rfl (by first | (go_simp; done) | (go_simp; rfl)) ?aP (fun _ hk => hk.elim) ?aF ?aO ?aB ?aS ?aL ?_; (case aP => exact rfl); (case aB => exact zb); (case aF => exact (fun _ _ => trivial)); (case aO => exact (zF1 HO_5 BK473)); (case aS => exact (below_size zb)); (case aL => have := LMc24.out; omega); intro v478 w27 ho hb hg hat; rw [← Ny477.out] at ho; replace BK473 := Aside0.mk (blk_grown (g := gb473) (o := .cells #[.int .i64 ((rd_T81 l0 x22_2).f0), .int .i64 ((rd_T81 l0 x22_2).f1), .int .i64 ((rd_T81 l0 x22_2).f2), .bool false] 81 (0, 0)) (zkp BK473) hg (Kd.R_ne HO_5.out BK473.out (by decide))); replace HB := Aside0.mk (hb); have HO479 := Aside0.mk (ho); clear HO_5; clear ho hb hg hat))
                go_roundg k2
                case measure => have := HJ2.out; have := HK2.out; omega
                case rel => exact ⟨(wrap64 (x1_2 - (ji17))), (y477), (wrap64 (x22_2 + 1)), (by first | rfl | (simp; done) | (simp only [← hji17] <;> (first | rfl | simp)) | (simp [*]; done)), zr, H', ⟨by have := HJ2.out; have := HK2.out; omega⟩, ⟨zR HO479⟩, ⟨zb⟩⟩
            · rw [if_neg c14] at H; have c14b0 := decide_eq_false c14; clear c14; obtain rfl := Option.some.inj H; go_wp2; go_ret; exact ⟨_, by first | rfl | (simp [errW_none, errW_some] <;> rfl) | (simp [*, errW_none, errW_some] <;> rfl), zR HO_5, zb⟩
end Go.Proofs.Ytcokbhkjfdddkaa.Q
