/- Walks of 2 functions of the program: each comes to what a plain function tells. -/
import Derived.Test.YtcokbhkjfdddkaaG0
import Derived.Test.YtcokbhkjfdddkaaG8
namespace Go.Proofs.Ytcokbhkjfdddkaa.Q
open Go.RowKit Go.Proofs.YtcokbhkjfdddkaaW.PrintWords Go.Proofs.YtcokbhkjfdddkaaW.PrintLast Go.Proofs.YtcokbhkjfdddkaaW.PrintMore Go.Proofs.YtcokbhkjfdddkaaW.Zip
attribute [local go_sem] max2_int min2_int max_two min_two max_three min_three max_four min_four   -- for this text's walks alone
set_option linter.unusedVariables false
set_option linter.unusedSimpArgs false

/-! ### spec_CapOf: function 140 -/
mutual
def spec_CapOf.l0 : Nat → List (S81) → Int → Int → Option (Int)
  | 0, _, _, _ => none
  | k + 1, x0, x3, x4 => if x4 < (x0.length : Int) then ((spec_AreCrew.f k x0).bind fun t433 => (spec_CapOf.j1 k x0 x3 x4 t433)) else (spec_CapOf.j1 k x0 x3 x4 false)
def spec_CapOf.j1 : Nat → List (S81) → Int → Int → Bool → Option (Int)
  | 0, _, _, _, _ => none
  | k + 1, x0, x3, x4, x12 => if x12 = true then (if 0 ≤ x4 then (if x4 < (x0.length : Int) then (if ((rd_T81 x0 x4).f3 = true) then (spec_CapOf.l0 k x0 x3 (wrap64 (x4 + 1))) else (spec_CapOf.l0 k x0 (wrap64 (x3 + ((rd_T81 x0 x4).f1))) (wrap64 (x4 + 1)))) else (none)) else (none)) else (some x3)
end
def spec_CapOf.f (k : Nat) (l0 : List (S81)) : Option (Int) := spec_CapOf.l0 k l0 0 0
set_option maxHeartbeats 8000000 in
set_option maxRecDepth 100000 in
theorem spec_CapOf.calls (k : Nat) (A0 : Option Addr) (c0 : Nat) (l0 : List (S81)) (r : Int) (w : World) (hr0 : Kd.C k81 w A0 l0.length l0) (hc0 : l0.length ≤ c0) (h : spec_CapOf.f k l0 = some r) :
    Calls Try.prog 140 #[.slice A0 l0.length c0] w fun e w' => e = .returned (.int .i64 r) ∧ Below w.heap.size w w' := by
  have HR0 := Aside0.mk hr0; have HC0 := Aside0.mk hc0; clear hr0 hc0; have HB := Aside0.mk (Below.refl w.heap.size w); have H := h; clear h; unfold spec_CapOf.f at H; have H' := Aside0.mk H; clear H; go_enter Try.func140, Try.ntmps140; go_wp2
  go_loopg [3, 4] k (fun kq v3 v4 w' => ∃ (x3_1 : Int) (x4_1 : Int), v3 = .int .i64 x3_1 ∧ v4 = .int .i64 x4_1 ∧ Aside0 (spec_CapOf.l0 kq l0 x3_1 x4_1 = some r) ∧ Aside0 (kq ≤ k) ∧ Aside0 (Below w.heap.size w w'))
  case atStart => exact ⟨(0), (0), zr, zr, H', ⟨Nat.le_refl _⟩, ⟨zb⟩⟩
  case round =>
    clear H'; (try clear c1); obtain ⟨x3_1, x4_1, rfl, rfl, HA, HK1, HB⟩ := hrel
    cases gk with
    | zero => exact absurd HA.out (by simp [spec_CapOf.l0])
    | succ k1 =>
      have H := HA.out; clear HA; simp only [spec_CapOf.l0] at H; have HC2 := Aside0.mk H; clear H
      go_upto_region 3 with (fail)
      go_cut [12] (fun v12 wc => ∃ (kq : Nat) (x12_1 : Bool), v12 = .bool x12_1 ∧ Aside0 (spec_CapOf.j1 kq l0 x3_1 x4_1 x12_1 = some r) ∧ Aside0 (kq ≤ k1) ∧ Aside0 (Below w.heap.size w wc))
      case first =>
        have H := HC2.out; clear HC2
        by_cases c3 : x4_1 < (l0.length : Int)
        · rw [if_pos c3] at H; have c3b0 := decide_eq_true c3; clear c3; (first | rw [c3b0] | (simp only [i64_w, i32_w]; rw [c3b0]) | skip); replace H := Option.bind_eq_some_iff.mp H; obtain ⟨t433, A40, H⟩ := H; have A4 := Aside0.mk A40; clear A40; have H' := Aside0.mk H; clear H
          go_wp2_with (first | (go_at_call 136; (with_reducible refine (spec_AreCrew.calls k1 _ _ l0 t433 _ ?side1 ?side2 A4.out).mono ?_); (case side1 => exact zCb HR0); (case side2 => exact HC0.out); rintro e w5 ⟨rfl, hb⟩; replace HB := zbs hb; (try clear hb); (try clear hb2); (try clear hk); (try clear hi)))
          go_meet
          case rel => exact ⟨_, (t433), zr, H', ⟨by have := HK1.out; first | omega | exact Nat.le_refl _⟩, ⟨zb⟩⟩
        · rw [if_neg c3] at H; have c3b0 := decide_eq_false c3; clear c3; (first | rw [c3b0] | (simp only [i64_w, i32_w]; rw [c3b0]) | skip); have H' := Aside0.mk H; clear H; go_wp2
          go_meet
          case rel => exact ⟨_, (false), zr, H', ⟨by have := HK1.out; first | omega | exact Nat.le_refl _⟩, ⟨zb⟩⟩
      case rest =>
        clear HC2; (try clear c1); (try clear p2); (try clear c3); (try clear c3b0); obtain ⟨kq, x12_1, rfl, HA, HJ1, HB⟩ := hcut; cases kq with
        | zero => exact absurd HA.out (by simp [spec_CapOf.j1])
        | succ kj1 =>
          have H := HA.out; clear HA; simp only [spec_CapOf.j1] at H
          by_cases c6 : x12_1 = true
          · subst c6; rw [if_pos rfl] at H; obtain ⟨c7, H⟩ := zif H; have c7b0 := decide_eq_true c7; clear c7; obtain ⟨c8, H⟩ := zif H; have c8b0 := decide_eq_true c8; clear c8; obtain ⟨bq9, hbq9⟩ : ∃ b_ : Bool, b_ = ((rd_T81 l0 x4_1).f3) := ⟨_, rfl⟩
            replace H : (if (bq9 = true) then (spec_CapOf.l0 kj1 l0 x3_1 (wrap64 (x4_1 + 1))) else (spec_CapOf.l0 kj1 l0 (wrap64 (x3_1 + ((rd_T81 l0 x4_1).f1))) (wrap64 (x4_1 + 1)))) = some r := by rw [← hbq9] at H; exact H
            have Nbq9 := Aside0.mk hbq9; clear hbq9
            by_cases c10 : (bq9 = true)
            · subst c10; rw [if_pos rfl] at H; have H' := Aside0.mk H; clear H; have p434 : 0 ≤ (x4_1 : Int) := zd; have q434 : x4_1 < (l0.length : Int) := zd; obtain ⟨ad434, e434, hx434_0, hx434_1, hx434_2, hx434_3⟩ := at_T81 HR0.out x4_1 p434 q434; (try rw [← Nbq9.out] at hx434_3); cases e434; replace hx434_0 := (HB.out.cell (World.block_lt_of_cell? w _ hx434_0)).trans hx434_0; replace hx434_1 := (HB.out.cell (World.block_lt_of_cell? w _ hx434_1)).trans hx434_1; replace hx434_2 := (HB.out.cell (World.block_lt_of_cell? w _ hx434_2)).trans hx434_2; replace hx434_3 := (HB.out.cell (World.block_lt_of_cell? w _ hx434_3)).trans hx434_3; replace p434 := eq_true p434; replace q434 := eq_true q434; go_wp2
              go_roundg kj1
              case measure => have := HK1.out; have := HJ1.out; omega
              case rel => exact ⟨(x3_1), (wrap64 (x4_1 + 1)), zr, zr, H', ⟨by have := HK1.out; have := HJ1.out; omega⟩, ⟨zb⟩⟩
            · replace c10 := Bool.eq_false_iff.mpr c10; subst c10; rw [if_neg (show ¬ (false = true) by decide)] at H; have H' := Aside0.mk H; clear H; have p434 : 0 ≤ (x4_1 : Int) := zd; have q434 : x4_1 < (l0.length : Int) := zd; obtain ⟨ad434, e434, hx434_0, hx434_1, hx434_2, hx434_3⟩ := at_T81 HR0.out x4_1 p434 q434; (try rw [← Nbq9.out] at hx434_3); cases e434; replace hx434_0 := (HB.out.cell (World.block_lt_of_cell? w _ hx434_0)).trans hx434_0; replace hx434_1 := (HB.out.cell (World.block_lt_of_cell? w _ hx434_1)).trans hx434_1; replace hx434_2 := (HB.out.cell (World.block_lt_of_cell? w _ hx434_2)).trans hx434_2; replace hx434_3 := (HB.out.cell (World.block_lt_of_cell? w _ hx434_3)).trans hx434_3; replace p434 := eq_true p434; replace q434 := eq_true q434; have p435 : 0 ≤ (x4_1 : Int) := zd; have q435 : x4_1 < (l0.length : Int) := zd; obtain ⟨ad435, e435, hx435_0, hx435_1, hx435_2, hx435_3⟩ := at_T81 HR0.out x4_1 p435 q435; (try rw [← Nbq9.out] at hx435_3); obtain rfl : ad434 = ad435 := (by injection e435); replace hx435_0 := (HB.out.cell (World.block_lt_of_cell? w _ hx435_0)).trans hx435_0; replace hx435_1 := (HB.out.cell (World.block_lt_of_cell? w _ hx435_1)).trans hx435_1; replace hx435_2 := (HB.out.cell (World.block_lt_of_cell? w _ hx435_2)).trans hx435_2; replace hx435_3 := (HB.out.cell (World.block_lt_of_cell? w _ hx435_3)).trans hx435_3; replace p435 := eq_true p435; replace q435 := eq_true q435; go_wp2
              go_roundg kj1
              case measure => have := HK1.out; have := HJ1.out; omega
              case rel => exact ⟨(wrap64 (x3_1 + ((rd_T81 l0 x4_1).f1))), (wrap64 (x4_1 + 1)), zr, zr, H', ⟨by have := HK1.out; have := HJ1.out; omega⟩, ⟨zb⟩⟩
          · replace c6 := Bool.eq_false_iff.mpr c6; subst c6; rw [if_neg (show ¬ (false = true) by decide)] at H; obtain rfl := Option.some.inj H; go_wp2; go_ret; exact ⟨by first | rfl | (simp [errW_none, errW_some] <;> rfl) | (simp [*, errW_none, errW_some] <;> rfl), zb⟩

/-! ### spec_Min: function 141 -/
def spec_Min.f (a0 : Int) (a1 : Int) : Option (Int) := if a1 < a0 then (some a1) else (some a0)
set_option maxHeartbeats 8000000 in
set_option maxRecDepth 100000 in
theorem spec_Min.calls (a0 : Int) (a1 : Int) (r : Int) (w : World) (h : spec_Min.f a0 a1 = some r) :
    Calls Try.prog 141 #[.int .i64 a0, .int .i64 a1] w fun e w' => e = .returned (.int .i64 r) ∧ Drawn0 w w' := by
  have H := h; clear h; unfold spec_Min.f at H
  by_cases c3 : a1 < a0
  · rw [if_pos c3] at H; have c3b0 := decide_eq_true c3; clear c3; obtain rfl := Option.some.inj H; go_enter Try.func141, Try.ntmps141; go_wp2; go_ret; exact ⟨by first | rfl | (simp; done) | (simp [*]; done), by repeat (first | exact Drawn0.refl _ | apply Drawn0.step)⟩
  · rw [if_neg c3] at H; have c3b0 := decide_eq_false c3; clear c3; obtain rfl := Option.some.inj H; go_enter Try.func141, Try.ntmps141; go_wp2; go_ret; exact ⟨by first | rfl | (simp; done) | (simp [*]; done), by repeat (first | exact Drawn0.refl _ | apply Drawn0.step)⟩
end Go.Proofs.Ytcokbhkjfdddkaa.Q
