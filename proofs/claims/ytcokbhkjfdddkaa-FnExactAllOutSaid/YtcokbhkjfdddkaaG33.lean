/- Walks of 1 functions of the program: each comes to what a plain function tells. -/
import Derived.Test.YtcokbhkjfdddkaaG0
import Derived.Test.YtcokbhkjfdddkaaG6
namespace Go.Proofs.Ytcokbhkjfdddkaa.Q
open Go.RowKit Go.Proofs.YtcokbhkjfdddkaaW.PrintWords Go.Proofs.YtcokbhkjfdddkaaW.PrintLast Go.Proofs.YtcokbhkjfdddkaaW.PrintMore Go.Proofs.YtcokbhkjfdddkaaW.Zip
attribute [local go_sem] max2_int min2_int max_two min_two max_three min_three max_four min_four   -- for this text's walks alone
set_option linter.unusedVariables false
set_option linter.unusedSimpArgs false

/-! ### impl_AllOut: function 38 -/
def impl_AllOut.l0 : Nat → List (S108) → Int → List (S108) → Int → Int → Option (Int)
  | 0, _, _, _, _, _ => none
  | k + 1, x0, x3, x6, x7, x8 => if x8 < x7 then (if 0 ≤ x8 then (if x8 < (x6.length : Int) then ((impl_AreStocks.f k x0).bind fun t245 => (if t245 = true then (impl_AllOut.l0 k x0 (wrap64 (x3 + ((rd_T108 x6 x8).f2))) x6 x7 (wrap64 (x8 + 1))) else (impl_AllOut.l0 k x0 x3 x6 x7 (wrap64 (x8 + 1))))) else (none)) else (none)) else (some x3)
def impl_AllOut.f (k : Nat) (l0 : List (S108)) : Option (Int) := impl_AllOut.l0 k l0 0 l0 (l0.length : Int) 0
set_option maxHeartbeats 8000000 in
set_option maxRecDepth 100000 in
theorem impl_AllOut.calls (k : Nat) (A0 : Option Addr) (c0 : Nat) (l0 : List (S108)) (r : Int) (w : World) (hr0 : Kd.C k108 w A0 l0.length l0) (hc0 : l0.length ≤ c0) (h : impl_AllOut.f k l0 = some r) :
    Calls Try.prog 38 #[.slice A0 l0.length c0] w fun e w' => e = .returned (.int .i64 r) ∧ Below w.heap.size w w' := by
  have hu108 := Try.underlying108; have HR0 := Aside0.mk hr0; have HC0 := Aside0.mk hc0; clear hr0 hc0; have HB := Aside0.mk (Below.refl w.heap.size w); have H := h; clear h; unfold impl_AllOut.f at H; have H' := Aside0.mk H; clear H; go_enter Try.func38, Try.ntmps38; go_wp2
  go_loopg [3, 8] k (fun kq v3 v8 w' => ∃ (x3_1 : Int) (x8_1 : Int), v3 = .int .i64 x3_1 ∧ v8 = .int .i64 x8_1 ∧ Aside0 (impl_AllOut.l0 kq l0 x3_1 l0 (l0.length : Int) x8_1 = some r) ∧ Aside0 (kq ≤ k) ∧ Aside0 (Below w.heap.size w w'))
  case atStart => exact ⟨(0), (0), zr, zr, H', ⟨Nat.le_refl _⟩, ⟨zb⟩⟩
  case round =>
    clear H'; obtain ⟨x3_1, x8_1, rfl, rfl, HA, HK1, HB⟩ := hrel
    cases gk with
    | zero => exact absurd HA.out (by simp [impl_AllOut.l0])
    | succ k1 =>
      have H := HA.out; clear HA; simp only [impl_AllOut.l0] at H
      by_cases c2 : x8_1 < (l0.length : Int)
      · rw [if_pos c2] at H; have c2b0 := decide_eq_true c2; clear c2; obtain ⟨c3, H⟩ := zif H; have c3b0 := decide_eq_true c3; clear c3; obtain ⟨c4, H⟩ := zif H; have c4b0 := decide_eq_true c4; clear c4; replace H := Option.bind_eq_some_iff.mp H; obtain ⟨t245, A50, H⟩ := H; have A5 := Aside0.mk A50; clear A50
        by_cases c6 : t245 = true
        · subst c6; rw [if_pos rfl] at H; have H' := Aside0.mk H; clear H; have p243 : 0 ≤ (x8_1 : Int) := zd; have q243 : x8_1 < (l0.length : Int) := zd; obtain ⟨ad243, e243, hx243_0, hx243_1, hx243_2⟩ := at_T108 HR0.out x8_1 p243 q243; cases e243; replace hx243_0 := (HB.out.cell (World.block_lt_of_cell? w _ hx243_0)).trans hx243_0; replace hx243_1 := (HB.out.cell (World.block_lt_of_cell? w _ hx243_1)).trans hx243_1; replace hx243_2 := (HB.out.cell (World.block_lt_of_cell? w _ hx243_2)).trans hx243_2; replace p243 := eq_true p243; replace q243 := eq_true q243
          go_wp2_with (first | ((with_reducible refine gate_dst (N := 5) rfl ?_); refine zbx 5 #[.int .i64 0, .int .i64 0, .int .i64 0] 108 ?_; intro gb244 hg w7 hbox hb; have BK244 := Aside0.mk (hbox); have GW244 := zga (w := w) hg; have GE244 := zga (w := w) hg; replace HB := zbs hb; clear hb hbox hg; obtain ⟨hcz8_0, hcz8_1, hcz8_2⟩ := zc3 BK244; obtain ⟨hfz8_0, hfz8_1, hfz8_2⟩ := zf3 BK244) | ((with_reducible refine gate_callee (f := 73) rfl ?_); refine zgl 13 Try.func73 #[.slice (some ad243) l0.length c0] ?_; (with_reducible refine (impl_AreStocks.calls k1 _ _ l0 true _ ?side1 ?side2 A5.out).mono ?_); (case side1 => exact Kd.C_below HR0.out zb); (case side2 => exact HC0.out); rintro e w9 ⟨rfl, hb⟩; refine ⟨_, rfl, ?_⟩; replace BK244 := Aside0.mk (blk_below (g := gb244) (o := .cells #[.int .i64 ((rd_T108 l0 x8_1).f0), .int .i64 ((rd_T108 l0 x8_1).f1), .int .i64 ((rd_T108 l0 x8_1).f2)] 108 (0, 0)) (zkp BK244) hb); replace HB := zbs hb; (try clear hb); (try clear hb2); (try clear hk); (try clear hi); obtain ⟨hcz10_0, hcz10_1, hcz10_2⟩ := zc3 BK244; obtain ⟨hfz10_0, hfz10_1, hfz10_2⟩ := zf3 BK244))
          go_roundg k1
          case measure => have := HK1.out; omega
          case rel => exact ⟨(wrap64 (x3_1 + ((rd_T108 l0 x8_1).f2))), (wrap64 (x8_1 + 1)), zr, zr, H', ⟨by have := HK1.out; omega⟩, ⟨zb⟩⟩
        · replace c6 := Bool.eq_false_iff.mpr c6; subst c6; rw [if_neg (show ¬ (false = true) by decide)] at H; have H' := Aside0.mk H; clear H; have p243 : 0 ≤ (x8_1 : Int) := zd; have q243 : x8_1 < (l0.length : Int) := zd; obtain ⟨ad243, e243, hx243_0, hx243_1, hx243_2⟩ := at_T108 HR0.out x8_1 p243 q243; cases e243; replace hx243_0 := (HB.out.cell (World.block_lt_of_cell? w _ hx243_0)).trans hx243_0; replace hx243_1 := (HB.out.cell (World.block_lt_of_cell? w _ hx243_1)).trans hx243_1; replace hx243_2 := (HB.out.cell (World.block_lt_of_cell? w _ hx243_2)).trans hx243_2; replace p243 := eq_true p243; replace q243 := eq_true q243
          go_wp2_with (first | ((with_reducible refine gate_dst (N := 5) rfl ?_); refine zbx 5 #[.int .i64 0, .int .i64 0, .int .i64 0] 108 ?_; intro gb244 hg w11 hbox hb; have BK244 := Aside0.mk (hbox); have GW244 := zga (w := w) hg; have GE244 := zga (w := w) hg; replace HB := zbs hb; clear hb hbox hg; obtain ⟨hcz12_0, hcz12_1, hcz12_2⟩ := zc3 BK244; obtain ⟨hfz12_0, hfz12_1, hfz12_2⟩ := zf3 BK244) | ((with_reducible refine gate_callee (f := 73) rfl ?_); refine zgl 13 Try.func73 #[.slice (some ad243) l0.length c0] ?_; (with_reducible refine (impl_AreStocks.calls k1 _ _ l0 false _ ?side1 ?side2 A5.out).mono ?_); (case side1 => exact Kd.C_below HR0.out zb); (case side2 => exact HC0.out); rintro e w13 ⟨rfl, hb⟩; refine ⟨_, rfl, ?_⟩; replace BK244 := Aside0.mk (blk_below (g := gb244) (o := .cells #[.int .i64 ((rd_T108 l0 x8_1).f0), .int .i64 ((rd_T108 l0 x8_1).f1), .int .i64 ((rd_T108 l0 x8_1).f2)] 108 (0, 0)) (zkp BK244) hb); replace HB := zbs hb; (try clear hb); (try clear hb2); (try clear hk); (try clear hi)))
          go_roundg k1
          case measure => have := HK1.out; omega
          case rel => exact ⟨(x3_1), (wrap64 (x8_1 + 1)), zr, zr, H', ⟨by have := HK1.out; omega⟩, ⟨zb⟩⟩
      · rw [if_neg c2] at H; have c2b0 := decide_eq_false c2; clear c2; obtain rfl := Option.some.inj H; go_wp2; go_ret; exact ⟨by first | rfl | (simp [errW_none, errW_some] <;> rfl) | (simp [*, errW_none, errW_some] <;> rfl), zb⟩
end Go.Proofs.Ytcokbhkjfdddkaa.Q
