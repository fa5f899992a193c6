/- Walks of 1 functions of the program: each comes to what a plain function tells. -/
import Derived.Test.YtcokbhkjfdddkaaG0
import Derived.Test.YtcokbhkjfdddkaaG8
namespace Go.Proofs.Ytcokbhkjfdddkaa.Q
open Go.RowKit Go.Proofs.YtcokbhkjfdddkaaW.PrintWords Go.Proofs.YtcokbhkjfdddkaaW.PrintLast Go.Proofs.YtcokbhkjfdddkaaW.PrintMore Go.Proofs.YtcokbhkjfdddkaaW.Zip
attribute [local go_sem] max2_int min2_int max_two min_two max_three min_three max_four min_four   -- for this text's walks alone
set_option linter.unusedVariables false
set_option linter.unusedSimpArgs false

/-! ### spec_NeedOf: function 137 -/
def spec_NeedOf.l0 : Nat → List (S81) → Int → Int → Option (Int)
  | 0, _, _, _ => none
  | k + 1, x0, x3, x4 => if x4 < (x0.length : Int) then ((spec_AreCrew.f k x0).bind fun t965 => (if t965 = true then (if 0 ≤ x4 then (spec_NeedOf.l0 k x0 (wrap64 (x3 + ((rd_T81 x0 x4).f2))) (wrap64 (x4 + 1))) else (none)) else (some x3))) else (some x3)
def spec_NeedOf.f (k : Nat) (l0 : List (S81)) : Option (Int) := spec_NeedOf.l0 k l0 0 0
set_option maxHeartbeats 8000000 in
set_option maxRecDepth 100000 in
theorem spec_NeedOf.calls (k : Nat) (A0 : Option Addr) (c0 : Nat) (l0 : List (S81)) (r : Int) (w : World) (hr0 : Kd.C k81 w A0 l0.length l0) (hc0 : l0.length ≤ c0) (h : spec_NeedOf.f k l0 = some r) :
    Calls Try.prog 137 #[.slice A0 l0.length c0] w fun e w' => e = .returned (.int .i64 r) ∧ Below w.heap.size w w' := by
  have HR0 := Aside0.mk hr0; have HC0 := Aside0.mk hc0; clear hr0 hc0; have HB := Aside0.mk (Below.refl w.heap.size w); have H := h; clear h; unfold spec_NeedOf.f at H; have H' := Aside0.mk H; clear H; go_enter Try.func137, Try.ntmps137; go_wp2
  go_loopg [3, 4] k (fun kq v3 v4 w' => ∃ (x3_1 : Int) (x4_1 : Int), v3 = .int .i64 x3_1 ∧ v4 = .int .i64 x4_1 ∧ Aside0 (spec_NeedOf.l0 kq l0 x3_1 x4_1 = some r) ∧ Aside0 (kq ≤ k) ∧ Aside0 (Below w.heap.size w w'))
  case atStart => exact ⟨(0), (0), zr, zr, H', ⟨Nat.le_refl _⟩, ⟨zb⟩⟩
  case round =>
    clear H'; (try clear c1); obtain ⟨x3_1, x4_1, rfl, rfl, HA, HK1, HB⟩ := hrel
    cases gk with
    | zero => exact absurd HA.out (by simp [spec_NeedOf.l0])
    | succ k1 =>
      have H := HA.out; clear HA; simp only [spec_NeedOf.l0] at H
      by_cases c2 : x4_1 < (l0.length : Int)
      · rw [if_pos c2] at H; have c2b0 := decide_eq_true c2; clear c2; replace H := Option.bind_eq_some_iff.mp H; obtain ⟨t965, A30, H⟩ := H; have A3 := Aside0.mk A30; clear A30
        by_cases c4 : t965 = true
        · subst c4; rw [if_pos rfl] at H; obtain ⟨c5, H⟩ := zif H; have c5b0 := decide_eq_true c5; clear c5; have H' := Aside0.mk H; clear H
          go_wp2_with (first | (go_at_call 136; (with_reducible refine (spec_AreCrew.calls k1 _ _ l0 true _ ?side1 ?side2 A3.out).mono ?_); (case side1 => exact zCb HR0); (case side2 => exact HC0.out); rintro e w6 ⟨rfl, hb⟩; replace HB := zbs hb; (try clear hb); (try clear hb2); (try clear hk); (try clear hi); have p966 : 0 ≤ (x4_1 : Int) := zd; have q966 : x4_1 < (l0.length : Int) := zd; obtain ⟨ad966, e966, hx966_0, hx966_1, hx966_2, hx966_3⟩ := at_T81 HR0.out x4_1 p966 q966; cases e966; replace hx966_0 := (HB.out.cell (World.block_lt_of_cell? w _ hx966_0)).trans hx966_0; replace hx966_1 := (HB.out.cell (World.block_lt_of_cell? w _ hx966_1)).trans hx966_1; replace hx966_2 := (HB.out.cell (World.block_lt_of_cell? w _ hx966_2)).trans hx966_2; replace hx966_3 := (HB.out.cell (World.block_lt_of_cell? w _ hx966_3)).trans hx966_3; replace p966 := eq_true p966; replace q966 := eq_true q966))
          go_roundg k1
          case measure => have := HK1.out; omega
          case rel => exact ⟨(wrap64 (x3_1 + ((rd_T81 l0 x4_1).f2))), (wrap64 (x4_1 + 1)), zr, zr, H', ⟨by have := HK1.out; omega⟩, ⟨zb⟩⟩
        · replace c4 := Bool.eq_false_iff.mpr c4; subst c4; rw [if_neg (show ¬ (false = true) by decide)] at H; obtain rfl := Option.some.inj H
          go_wp2_with (first | (go_at_call 136; (with_reducible refine (spec_AreCrew.calls k1 _ _ l0 false _ ?side1 ?side2 A3.out).mono ?_); (case side1 => exact zCb HR0); (case side2 => exact HC0.out); rintro e w7 ⟨rfl, hb⟩; replace HB := zbs hb; (try clear hb); (try clear hb2); (try clear hk); (try clear hi)))
          go_ret; exact ⟨by first | rfl | (simp [errW_none, errW_some] <;> rfl) | (simp [*, errW_none, errW_some] <;> rfl), zb⟩
      · rw [if_neg c2] at H; have c2b0 := decide_eq_false c2; clear c2; obtain rfl := Option.some.inj H; go_wp2; go_ret; exact ⟨by first | rfl | (simp [errW_none, errW_some] <;> rfl) | (simp [*, errW_none, errW_some] <;> rfl), zb⟩
end Go.Proofs.Ytcokbhkjfdddkaa.Q
