/- Walks of 1 functions of the program: each comes to what a plain function tells. -/
import Derived.Test.YtcokbhkjfdddkaaG0
import Derived.Test.YtcokbhkjfdddkaaG2
namespace Go.Proofs.Ytcokbhkjfdddkaa.Q
open Go.RowKit Go.Proofs.YtcokbhkjfdddkaaW.PrintWords Go.Proofs.YtcokbhkjfdddkaaW.PrintLast Go.Proofs.YtcokbhkjfdddkaaW.PrintMore Go.Proofs.YtcokbhkjfdddkaaW.Zip
attribute [local go_sem] max2_int min2_int max_two min_two max_three min_three max_four min_four   -- for this text's walks alone
set_option linter.unusedVariables false
set_option linter.unusedSimpArgs false
attribute [local go_sem high] eqA81

/-! ### spec_IsLand: function 124 -/
mutual
def spec_IsLand.j0 : Nat → Bool → Int → Int → List Int → Option (Bool)
  | 0, _, _, _, _ => none
  | k + 1, x24, x342000, x342001, x342002 => if x24 = true then (some false) else (spec_IsLand.l0 k 0 x342000 x342001 x342002)
def spec_IsLand.l0 : Nat → Int → Int → Int → List Int → Option (Bool)
  | 0, _, _, _, _ => none
  | k + 1, x3, x342000, x342001, x342002 => if x3 < (x342002.length : Int) then (if 0 ≤ x3 then ((spec_l1In.f (rd x342002 x3) 0 2).bind fun t345 => (if t345 = true then (spec_IsLand.l0 k (wrap64 (x3 + 1)) x342000 x342001 x342002) else (some false))) else (none)) else (some true)
end
def spec_IsLand.f (k : Nat) (a0_0 : Int) (a0_1 : Int) (l0_2 : List Int) : Option (Bool) := (spec_l1In.f a0_0 1 8).bind fun t342 => (if t342 = true then ((spec_l1In.f a0_1 1 8).bind fun t343 => (if t343 = true then (spec_IsLand.j0 k ((l0_2.length : Int) != (wrap64 (a0_0 * a0_1))) a0_0 a0_1 l0_2) else (spec_IsLand.j0 k true a0_0 a0_1 l0_2))) else (spec_IsLand.j0 k true a0_0 a0_1 l0_2))
set_option maxHeartbeats 8000000 in
set_option maxRecDepth 100000 in
theorem spec_IsLand.calls (k : Nat) (a0_0 : Int) (a0_1 : Int) (A0_2 : Option Addr) (c0_2 : Nat) (l0_2 : List Int) (r : Bool) (w : World) (hr0_2 : Kd.C (Kd.int .i64) w A0_2 l0_2.length l0_2) (hc0_2 : l0_2.length ≤ c0_2) (h : spec_IsLand.f k a0_0 a0_1 l0_2 = some r) :
    Calls Try.prog 124 #[.agg #[.int .i64 a0_0, .int .i64 a0_1, .slice A0_2 l0_2.length c0_2]] w fun e w' => e = .returned (.bool r) ∧ Below w.heap.size w w' := by
  have hu50 := Try.underlying50; have HR0_2 := Aside0.mk hr0_2; have HC0_2 := Aside0.mk hc0_2; clear hr0_2 hc0_2; have HB := Aside0.mk (Below.refl w.heap.size w); have H := h; clear h; unfold spec_IsLand.f at H; have HC2 := Aside0.mk H; clear H; go_enter Try.func124, Try.ntmps124
  go_upto_region 1 with (first | ((with_reducible refine gate_dst (N := 1) rfl ?_); (try (refine gate_guard (by rfl) ?_; dsimp only)); refine zbx 1 #[.int .i64 a0_0, .int .i64 a0_1, .slice A0_2 l0_2.length c0_2] 50 ?_; intro gb341 hg w3 hbox hb; have BK341 := Aside0.mk (hbox); have GW341 := zga (w := w) hg; have GE341 := zga (w := w) hg; replace HB := zbs hb; clear hb hbox hg))
  (try simp only [Act.put, List.setIfInBounds_toArray, List.set_cons_zero, List.set_cons_succ])
  go_cut [24] (fun v24 wc => ∃ (kq : Nat) (x24_1 : Bool), v24 = .bool x24_1 ∧ Aside0 (spec_IsLand.j0 kq x24_1 a0_0 a0_1 l0_2 = some r) ∧ Aside0 (kq ≤ k) ∧ Aside0 (wc.heap[gb341]? = some (.cells #[.int .i64 a0_0, .int .i64 a0_1, (.slice A0_2 l0_2.length c0_2)] 50 (0, 0))) ∧ Aside0 (Below w.heap.size w wc))
  case first =>
    have H := HC2.out; clear HC2; replace H := Option.bind_eq_some_iff.mp H; obtain ⟨t342, A40, H⟩ := H; have A4 := Aside0.mk A40; clear A40
    by_cases c5 : t342 = true
    · subst c5; rw [if_pos rfl] at H; replace H := Option.bind_eq_some_iff.mp H; obtain ⟨t343, A60, H⟩ := H; have A6 := Aside0.mk A60; clear A60
      by_cases c7 : t343 = true
      · subst c7; rw [if_pos rfl] at H; have H' := Aside0.mk H; clear H; obtain ⟨hcz8_0, hcz8_1, hcz8_2⟩ := zc3 BK341; obtain ⟨hfz8_0, hfz8_1, hfz8_2⟩ := zf3 BK341
        go_wp2_with (first | ((with_reducible refine gate_callee (f := 113) rfl ?_); refine zgl 6 Try.func113 #[.int .i64 a0_0, .int .i64 1, .int .i64 8] ?_; (with_reducible refine (spec_l1In.calls a0_0 1 8 true _ A4.out).mono ?_); rintro e w' ⟨rfl, ⟨nd, rfl⟩⟩; refine ⟨_, rfl, ?_⟩) | (go_at_call 113; (with_reducible refine (spec_l1In.calls a0_1 1 8 true _ A6.out).mono ?_); rintro e w' ⟨rfl, ⟨nd, rfl⟩⟩))
        go_meet
        case rel => exact ⟨_, (((l0_2.length : Int) != (wrap64 (a0_0 * a0_1)))), zr, H', ⟨by first | omega | exact Nat.le_refl _⟩, ⟨zk BK341⟩, ⟨zb⟩⟩
      · replace c7 := Bool.eq_false_iff.mpr c7; subst c7; rw [if_neg (show ¬ (false = true) by decide)] at H; have H' := Aside0.mk H; clear H; obtain ⟨hcz9_0, hcz9_1, hcz9_2⟩ := zc3 BK341; obtain ⟨hfz9_0, hfz9_1, hfz9_2⟩ := zf3 BK341
        go_wp2_with (first | ((with_reducible refine gate_callee (f := 113) rfl ?_); refine zgl 6 Try.func113 #[.int .i64 a0_0, .int .i64 1, .int .i64 8] ?_; (with_reducible refine (spec_l1In.calls a0_0 1 8 true _ A4.out).mono ?_); rintro e w' ⟨rfl, ⟨nd, rfl⟩⟩; refine ⟨_, rfl, ?_⟩) | (go_at_call 113; (with_reducible refine (spec_l1In.calls a0_1 1 8 false _ A6.out).mono ?_); rintro e w' ⟨rfl, ⟨nd, rfl⟩⟩))
        go_meet
        case rel => exact ⟨_, (true), zr, H', ⟨by first | omega | exact Nat.le_refl _⟩, ⟨zk BK341⟩, ⟨zb⟩⟩
    · replace c5 := Bool.eq_false_iff.mpr c5; subst c5; rw [if_neg (show ¬ (false = true) by decide)] at H; have H' := Aside0.mk H; clear H; obtain ⟨hcz10_0, hcz10_1, hcz10_2⟩ := zc3 BK341; obtain ⟨hfz10_0, hfz10_1, hfz10_2⟩ := zf3 BK341
      go_wp2_with (first | ((with_reducible refine gate_callee (f := 113) rfl ?_); refine zgl 6 Try.func113 #[.int .i64 a0_0, .int .i64 1, .int .i64 8] ?_; (with_reducible refine (spec_l1In.calls a0_0 1 8 false _ A4.out).mono ?_); rintro e w' ⟨rfl, ⟨nd, rfl⟩⟩; refine ⟨_, rfl, ?_⟩))
      go_meet
      case rel => exact ⟨_, (true), zr, H', ⟨by first | omega | exact Nat.le_refl _⟩, ⟨zk BK341⟩, ⟨zb⟩⟩
  case rest =>
    clear HC2; (try clear c1); (try clear p2); (try clear c5); (try clear p6); (try clear c7); (try clear hcz10_0); (try clear hcz10_1); (try clear hcz10_2); (try clear hcz8_0); (try clear hcz8_1); (try clear hcz8_2); (try clear hcz9_0); (try clear hcz9_1); (try clear hcz9_2); (try clear hfz10_0); (try clear hfz10_1); (try clear hfz10_2); (try clear hfz8_0); (try clear hfz8_1); (try clear hfz8_2); (try clear hfz9_0); (try clear hfz9_1); (try clear hfz9_2); obtain ⟨kq, x24_1, rfl, HA, HJ1, BK341, HB⟩ := hcut; cases kq with
    | zero => exact absurd HA.out (by simp [spec_IsLand.j0])
    | succ kj1 =>
      have H := HA.out; clear HA; simp only [spec_IsLand.j0] at H
      by_cases c11 : x24_1 = true
      · subst c11; rw [if_pos rfl] at H; obtain rfl := Option.some.inj H; go_wp2; go_ret; exact ⟨by first | rfl | (simp [errW_none, errW_some] <;> rfl) | (simp [*, errW_none, errW_some] <;> rfl), zb⟩
      · replace c11 := Bool.eq_false_iff.mpr c11; subst c11; rw [if_neg (show ¬ (false = true) by decide)] at H; have H' := Aside0.mk H; clear H; go_wp2
        go_loopg [3] kj1 (fun kq v3 w' => ∃ (x3_2 : Int), v3 = .int .i64 x3_2 ∧ Aside0 (spec_IsLand.l0 kq x3_2 a0_0 a0_1 l0_2 = some r) ∧ Aside0 (kq ≤ kj1) ∧ Aside0 (w'.heap[gb341]? = some (.cells #[.int .i64 a0_0, .int .i64 a0_1, (.slice A0_2 l0_2.length c0_2)] 50 (0, 0))) ∧ Aside0 (Below w.heap.size w w'))
        case atStart => exact ⟨(0), zr, H', ⟨Nat.le_refl _⟩, ⟨zk BK341⟩, ⟨zb⟩⟩
        case round =>
          clear H'; (try clear c1); (try clear p2); (try clear c5); (try clear p6); (try clear c7); (try clear c11); (try clear hcz10_0); (try clear hcz10_1); (try clear hcz10_2); (try clear hcz8_0); (try clear hcz8_1); (try clear hcz8_2); (try clear hcz9_0); (try clear hcz9_1); (try clear hcz9_2); (try clear hfz10_0); (try clear hfz10_1); (try clear hfz10_2); (try clear hfz8_0); (try clear hfz8_1); (try clear hfz8_2); (try clear hfz9_0); (try clear hfz9_1); (try clear hfz9_2); (try clear p2); (try clear p6); obtain ⟨x3_2, rfl, HA, HK2, BK341, HB⟩ := hrel
          cases gk with
          | zero => exact absurd HA.out (by simp [spec_IsLand.l0])
          | succ k2 =>
            have H := HA.out; clear HA; simp only [spec_IsLand.l0] at H
            by_cases c12 : x3_2 < (l0_2.length : Int)
            · rw [if_pos c12] at H; have c12b0 := decide_eq_true c12; clear c12; obtain ⟨c13, H⟩ := zif H; have c13b0 := decide_eq_true c13; clear c13; replace H := Option.bind_eq_some_iff.mp H; obtain ⟨t345, A140, H⟩ := H; have A14 := Aside0.mk A140; clear A140
              by_cases c15 : t345 = true
              · subst c15; rw [if_pos rfl] at H; have H' := Aside0.mk H; clear H; obtain ⟨hcz16_0, hcz16_1, hcz16_2⟩ := zc3 BK341; obtain ⟨hfz16_0, hfz16_1, hfz16_2⟩ := zf3 BK341; have p344 : 0 ≤ (x3_2 : Int) := zd; have q344 : x3_2 < (l0_2.length : Int) := zd; obtain ⟨ad344, e344, hx344_0⟩ := Kd.at_int HR0_2.out x3_2 p344 q344; cases e344; replace hx344_0 := (HB.out.cell (World.block_lt_of_cell? w _ hx344_0)).trans hx344_0; replace p344 := eq_true p344; replace q344 := eq_true q344
                go_wp2_with (first | ((with_reducible refine gate_callee (f := 113) rfl ?_); refine zgl 37 Try.func113 #[.int .i64 (rd l0_2 x3_2), .int .i64 0, .int .i64 2] ?_; (with_reducible refine (spec_l1In.calls (rd l0_2 x3_2) 0 2 true _ A14.out).mono ?_); rintro e w' ⟨rfl, ⟨nd, rfl⟩⟩; refine ⟨_, rfl, ?_⟩))
                go_roundg k2
                case measure => have := HJ1.out; have := HK2.out; omega
                case rel => exact ⟨(wrap64 (x3_2 + 1)), zr, H', ⟨by have := HJ1.out; have := HK2.out; omega⟩, ⟨zk BK341⟩, ⟨zb⟩⟩
              · replace c15 := Bool.eq_false_iff.mpr c15; subst c15; rw [if_neg (show ¬ (false = true) by decide)] at H; obtain rfl := Option.some.inj H; obtain ⟨hcz17_0, hcz17_1, hcz17_2⟩ := zc3 BK341; obtain ⟨hfz17_0, hfz17_1, hfz17_2⟩ := zf3 BK341; have p344 : 0 ≤ (x3_2 : Int) := zd; have q344 : x3_2 < (l0_2.length : Int) := zd; obtain ⟨ad344, e344, hx344_0⟩ := Kd.at_int HR0_2.out x3_2 p344 q344; cases e344; replace hx344_0 := (HB.out.cell (World.block_lt_of_cell? w _ hx344_0)).trans hx344_0; replace p344 := eq_true p344; replace q344 := eq_true q344
                go_wp2_with (first | ((with_reducible refine gate_callee (f := 113) rfl ?_); refine zgl 37 Try.func113 #[.int .i64 (rd l0_2 x3_2), .int .i64 0, .int .i64 2] ?_; (with_reducible refine (spec_l1In.calls (rd l0_2 x3_2) 0 2 false _ A14.out).mono ?_); rintro e w' ⟨rfl, ⟨nd, rfl⟩⟩; refine ⟨_, rfl, ?_⟩))
                go_ret; exact ⟨by first | rfl | (simp [errW_none, errW_some] <;> rfl) | (simp [*, errW_none, errW_some] <;> rfl), zb⟩
            · rw [if_neg c12] at H; have c12b0 := decide_eq_false c12; clear c12; obtain rfl := Option.some.inj H; obtain ⟨hcz18_0, hcz18_1, hcz18_2⟩ := zc3 BK341; obtain ⟨hfz18_0, hfz18_1, hfz18_2⟩ := zf3 BK341; go_wp2; go_ret; exact ⟨by first | rfl | (simp [errW_none, errW_some] <;> rfl) | (simp [*, errW_none, errW_some] <;> rfl), zb⟩
end Go.Proofs.Ytcokbhkjfdddkaa.Q
