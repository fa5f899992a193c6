/- Walks of 2 functions of the program: each comes to what a plain function tells. -/
import Derived.Test.YtcokbhkjfdddkaaG0
import Derived.Test.YtcokbhkjfdddkaaG6
namespace Go.Proofs.Ytcokbhkjfdddkaa.Q
open Go.RowKit Go.Proofs.YtcokbhkjfdddkaaW.PrintWords Go.Proofs.YtcokbhkjfdddkaaW.PrintLast Go.Proofs.YtcokbhkjfdddkaaW.PrintMore Go.Proofs.YtcokbhkjfdddkaaW.Zip
attribute [local go_sem] max2_int min2_int max_two min_two max_three min_three max_four min_four   -- for this text's walks alone
set_option linter.unusedVariables false
set_option linter.unusedSimpArgs false
attribute [local go_sem high] eqA81

/-! ### spec_l30Find: function 121 -/
mutual
def spec_l30Find.l0 : Nat → List (S108) → Int → Int → Option (Int)
  | 0, _, _, _ => none
  | k + 1, x0, x1, x5 => if x5 < (x0.length : Int) then ((spec_AreStocks.f k x0).bind fun t315 => (spec_l30Find.j1 k x0 x1 x5 t315)) else (spec_l30Find.j1 k x0 x1 x5 false)
def spec_l30Find.j1 : Nat → List (S108) → Int → Int → Bool → Option (Int)
  | 0, _, _, _, _ => none
  | k + 1, x0, x1, x5, x13 => if x13 = true then (if 0 ≤ x5 then (if x5 < (x0.length : Int) then (if ((rd_T108 x0 x5).f0) = x1 then (some x5) else (spec_l30Find.l0 k x0 x1 (wrap64 (x5 + 1)))) else (none)) else (none)) else (some (-1))
end
def spec_l30Find.f (k : Nat) (l0 : List (S108)) (a1 : Int) : Option (Int) := spec_l30Find.l0 k l0 a1 0
set_option maxHeartbeats 8000000 in
set_option maxRecDepth 100000 in
theorem spec_l30Find.calls (k : Nat) (A0 : Option Addr) (c0 : Nat) (l0 : List (S108)) (a1 : Int) (r : Int) (w : World) (hr0 : Kd.C k108 w A0 l0.length l0) (hc0 : l0.length ≤ c0) (h : spec_l30Find.f k l0 a1 = some r) :
    Calls Try.prog 121 #[.slice A0 l0.length c0, .int .i64 a1] w fun e w' => e = .returned (.int .i64 r) ∧ Below w.heap.size w w' := by
  have HR0 := Aside0.mk hr0; have HC0 := Aside0.mk hc0; clear hr0 hc0; have HB := Aside0.mk (Below.refl w.heap.size w); have H := h; clear h; unfold spec_l30Find.f at H; have H' := Aside0.mk H; clear H; go_enter Try.func121, Try.ntmps121; go_wp2
  go_loopg [5] k (fun kq v5 w' => ∃ (x5_1 : Int), v5 = .int .i64 x5_1 ∧ Aside0 (spec_l30Find.l0 kq l0 a1 x5_1 = some r) ∧ Aside0 (kq ≤ k) ∧ Aside0 (Below w.heap.size w w'))
  case atStart => exact ⟨(0), zr, H', ⟨Nat.le_refl _⟩, ⟨zb⟩⟩
  case round =>
    clear H'; (try clear c1); (try clear p2); obtain ⟨x5_1, rfl, HA, HK1, HB⟩ := hrel
    cases gk with
    | zero => exact absurd HA.out (by simp [spec_l30Find.l0])
    | succ k1 =>
      have H := HA.out; clear HA; simp only [spec_l30Find.l0] at H; have HC3 := Aside0.mk H; clear H
      go_upto_region 2 with (fail)
      go_cut [13] (fun v13 wc => ∃ (kq : Nat) (x13_2 : Bool), v13 = .bool x13_2 ∧ Aside0 (spec_l30Find.j1 kq l0 a1 x5_1 x13_2 = some r) ∧ Aside0 (kq ≤ k1) ∧ Aside0 (Below w.heap.size w wc))
      case first =>
        have H := HC3.out; clear HC3
        by_cases c4 : x5_1 < (l0.length : Int)
        · rw [if_pos c4] at H; have c4b0 := decide_eq_true c4; clear c4; (first | rw [c4b0] | (simp only [i64_w, i32_w]; rw [c4b0]) | skip); replace H := Option.bind_eq_some_iff.mp H; obtain ⟨t315, A50, H⟩ := H; have A5 := Aside0.mk A50; clear A50; have H' := Aside0.mk H; clear H
          go_wp2_with (first | (go_at_call 116; (with_reducible refine (spec_AreStocks.calls k1 _ _ l0 t315 _ ?side1 ?side2 A5.out).mono ?_); (case side1 => exact zCb HR0); (case side2 => exact HC0.out); rintro e w6 ⟨rfl, hb⟩; replace HB := zbs hb; (try clear hb); (try clear hb2); (try clear hk); (try clear hi)))
          go_meet
          case rel => exact ⟨_, (t315), zr, H', ⟨by have := HK1.out; first | omega | exact Nat.le_refl _⟩, ⟨zb⟩⟩
        · rw [if_neg c4] at H; have c4b0 := decide_eq_false c4; clear c4; (first | rw [c4b0] | (simp only [i64_w, i32_w]; rw [c4b0]) | skip); have H' := Aside0.mk H; clear H; go_wp2
          go_meet
          case rel => exact ⟨_, (false), zr, H', ⟨by have := HK1.out; first | omega | exact Nat.le_refl _⟩, ⟨zb⟩⟩
      case rest =>
        clear HC3; (try clear c1); (try clear p2); (try clear c4); (try clear c4b0); (try clear p2); obtain ⟨kq, x13_2, rfl, HA, HJ2, HB⟩ := hcut; cases kq with
        | zero => exact absurd HA.out (by simp [spec_l30Find.j1])
        | succ kj2 =>
          have H := HA.out; clear HA; simp only [spec_l30Find.j1] at H
          by_cases c7 : x13_2 = true
          · subst c7; rw [if_pos rfl] at H; obtain ⟨c8, H⟩ := zif H; have c8b0 := decide_eq_true c8; clear c8; obtain ⟨c9, H⟩ := zif H; have c9b0 := decide_eq_true c9; clear c9
            by_cases c10 : ((rd_T108 l0 x5_1).f0) = a1
            · rw [if_pos c10] at H; have c10b0 : (((rd_T108 l0 x5_1).f0) == a1) = true := beq_iff_eq.mpr c10; have c10b1 : (((rd_T108 l0 x5_1).f0) != a1) = false := bne_eq_false_iff_eq.mpr c10; clear c10; obtain rfl := Option.some.inj H; have p316 : 0 ≤ (x5_1 : Int) := zd; have q316 : x5_1 < (l0.length : Int) := zd; obtain ⟨ad316, e316, hx316_0, hx316_1, hx316_2⟩ := at_T108 HR0.out x5_1 p316 q316; cases e316; replace hx316_0 := (HB.out.cell (World.block_lt_of_cell? w _ hx316_0)).trans hx316_0; replace hx316_1 := (HB.out.cell (World.block_lt_of_cell? w _ hx316_1)).trans hx316_1; replace hx316_2 := (HB.out.cell (World.block_lt_of_cell? w _ hx316_2)).trans hx316_2; replace p316 := eq_true p316; replace q316 := eq_true q316; go_wp2; go_ret; exact ⟨by first | rfl | (simp [errW_none, errW_some] <;> rfl) | (simp [*, errW_none, errW_some] <;> rfl), zb⟩
            · rw [if_neg c10] at H; have c10b0 : (((rd_T108 l0 x5_1).f0) == a1) = false := beq_eq_false_iff_ne.mpr c10; have c10b1 : (((rd_T108 l0 x5_1).f0) != a1) = true := bne_iff_ne.mpr c10; have H' := Aside0.mk H; clear H; have p316 : 0 ≤ (x5_1 : Int) := zd; have q316 : x5_1 < (l0.length : Int) := zd; obtain ⟨ad316, e316, hx316_0, hx316_1, hx316_2⟩ := at_T108 HR0.out x5_1 p316 q316; cases e316; replace hx316_0 := (HB.out.cell (World.block_lt_of_cell? w _ hx316_0)).trans hx316_0; replace hx316_1 := (HB.out.cell (World.block_lt_of_cell? w _ hx316_1)).trans hx316_1; replace hx316_2 := (HB.out.cell (World.block_lt_of_cell? w _ hx316_2)).trans hx316_2; replace p316 := eq_true p316; replace q316 := eq_true q316; go_wp2
              go_roundg kj2
              case measure => have := HK1.out; have := HJ2.out; omega
              case rel => exact ⟨(wrap64 (x5_1 + 1)), zr, H', ⟨by have := HK1.out; have := HJ2.out; omega⟩, ⟨zb⟩⟩
          · replace c7 := Bool.eq_false_iff.mpr c7; subst c7; rw [if_neg (show ¬ (false = true) by decide)] at H; obtain rfl := Option.some.inj H; go_wp2; go_ret; exact ⟨by first | rfl | (simp [errW_none, errW_some] <;> rfl) | (simp [*, errW_none, errW_some] <;> rfl), zb⟩

/-! ### impl_stockOf: function 122 -/
def impl_stockOf.l0 : Nat → List (S108) → Int → List (S108) → Int → Int → Option (Int)
  | 0, _, _, _, _, _ => none
  | k + 1, x0, x1, x7, x8, x9 => if x9 < x8 then (if 0 ≤ x9 then (if x9 < (x7.length : Int) then ((impl_AreStocks.f k x0).bind fun t322 => (if t322 = true then (if ((rd_T108 x7 x9).f0) = x1 then (some x9) else (impl_stockOf.l0 k x0 x1 x7 x8 (wrap64 (x9 + 1)))) else (impl_stockOf.l0 k x0 x1 x7 x8 (wrap64 (x9 + 1))))) else (none)) else (none)) else (some (-1))
def impl_stockOf.f (k : Nat) (l0 : List (S108)) (a1 : Int) : Option (Int) := impl_stockOf.l0 k l0 a1 l0 (l0.length : Int) 0
set_option maxHeartbeats 8000000 in
set_option maxRecDepth 100000 in
theorem impl_stockOf.calls (k : Nat) (A0 : Option Addr) (c0 : Nat) (l0 : List (S108)) (a1 : Int) (r : Int) (w : World) (hr0 : Kd.C k108 w A0 l0.length l0) (hc0 : l0.length ≤ c0) (h : impl_stockOf.f k l0 a1 = some r) :
    Calls Try.prog 122 #[.slice A0 l0.length c0, .int .i64 a1] w fun e w' => e = .returned (.int .i64 r) ∧ Below w.heap.size w w' := by
  have hu108 := Try.underlying108; have HR0 := Aside0.mk hr0; have HC0 := Aside0.mk hc0; clear hr0 hc0; have HB := Aside0.mk (Below.refl w.heap.size w); have H := h; clear h; unfold impl_stockOf.f at H; have H' := Aside0.mk H; clear H; go_enter Try.func122, Try.ntmps122; go_wp2
  go_loopg [9] k (fun kq v9 w' => ∃ (x9_1 : Int), v9 = .int .i64 x9_1 ∧ Aside0 (impl_stockOf.l0 kq l0 a1 l0 (l0.length : Int) x9_1 = some r) ∧ Aside0 (kq ≤ k) ∧ Aside0 (Below w.heap.size w w'))
  case atStart => exact ⟨(0), zr, H', ⟨Nat.le_refl _⟩, ⟨zb⟩⟩
  case round =>
    clear H'; (try clear c1); (try clear p2); obtain ⟨x9_1, rfl, HA, HK1, HB⟩ := hrel
    cases gk with
    | zero => exact absurd HA.out (by simp [impl_stockOf.l0])
    | succ k1 =>
      have H := HA.out; clear HA; simp only [impl_stockOf.l0] at H
      by_cases c3 : x9_1 < (l0.length : Int)
      · rw [if_pos c3] at H; have c3b0 := decide_eq_true c3; clear c3; obtain ⟨c4, H⟩ := zif H; have c4b0 := decide_eq_true c4; clear c4; obtain ⟨c5, H⟩ := zif H; have c5b0 := decide_eq_true c5; clear c5; replace H := Option.bind_eq_some_iff.mp H; obtain ⟨t322, A60, H⟩ := H; have A6 := Aside0.mk A60; clear A60
        by_cases c7 : t322 = true
        · subst c7; rw [if_pos rfl] at H
          by_cases c8 : ((rd_T108 l0 x9_1).f0) = a1
          · rw [if_pos c8] at H; have c8b0 : (((rd_T108 l0 x9_1).f0) == a1) = true := beq_iff_eq.mpr c8; have c8b1 : (((rd_T108 l0 x9_1).f0) != a1) = false := bne_eq_false_iff_eq.mpr c8; clear c8; obtain rfl := Option.some.inj H; have p320 : 0 ≤ (x9_1 : Int) := zd; have q320 : x9_1 < (l0.length : Int) := zd; obtain ⟨ad320, e320, hx320_0, hx320_1, hx320_2⟩ := at_T108 HR0.out x9_1 p320 q320; cases e320; replace hx320_0 := (HB.out.cell (World.block_lt_of_cell? w _ hx320_0)).trans hx320_0; replace hx320_1 := (HB.out.cell (World.block_lt_of_cell? w _ hx320_1)).trans hx320_1; replace hx320_2 := (HB.out.cell (World.block_lt_of_cell? w _ hx320_2)).trans hx320_2; replace p320 := eq_true p320; replace q320 := eq_true q320
            go_wp2_with (first | ((with_reducible refine gate_dst (N := 6) rfl ?_); refine zbx 6 #[.int .i64 0, .int .i64 0, .int .i64 0] 108 ?_; intro gb321 hg w9 hbox hb; have BK321 := Aside0.mk (hbox); have GW321 := zga (w := w) hg; have GE321 := zga (w := w) hg; replace HB := zbs hb; clear hb hbox hg; obtain ⟨hcz10_0, hcz10_1, hcz10_2⟩ := zc3 BK321; obtain ⟨hfz10_0, hfz10_1, hfz10_2⟩ := zf3 BK321) | ((with_reducible refine gate_callee (f := 73) rfl ?_); refine zgl 15 Try.func73 #[.slice (some ad320) l0.length c0] ?_; (with_reducible refine (impl_AreStocks.calls k1 _ _ l0 true _ ?side1 ?side2 A6.out).mono ?_); (case side1 => exact Kd.C_below HR0.out zb); (case side2 => exact HC0.out); rintro e w11 ⟨rfl, hb⟩; refine ⟨_, rfl, ?_⟩; replace BK321 := Aside0.mk (blk_below (g := gb321) (o := .cells #[.int .i64 ((rd_T108 l0 x9_1).f0), .int .i64 ((rd_T108 l0 x9_1).f1), .int .i64 ((rd_T108 l0 x9_1).f2)] 108 (0, 0)) (zkp BK321) hb); replace HB := zbs hb; (try clear hb); (try clear hb2); (try clear hk); (try clear hi); obtain ⟨hcz12_0, hcz12_1, hcz12_2⟩ := zc3 BK321; obtain ⟨hfz12_0, hfz12_1, hfz12_2⟩ := zf3 BK321))
            go_ret; exact ⟨by first | rfl | (simp [errW_none, errW_some] <;> rfl) | (simp [*, errW_none, errW_some] <;> rfl), zb⟩
          · rw [if_neg c8] at H; have c8b0 : (((rd_T108 l0 x9_1).f0) == a1) = false := beq_eq_false_iff_ne.mpr c8; have c8b1 : (((rd_T108 l0 x9_1).f0) != a1) = true := bne_iff_ne.mpr c8; have H' := Aside0.mk H; clear H; have p320 : 0 ≤ (x9_1 : Int) := zd; have q320 : x9_1 < (l0.length : Int) := zd; obtain ⟨ad320, e320, hx320_0, hx320_1, hx320_2⟩ := at_T108 HR0.out x9_1 p320 q320; cases e320; replace hx320_0 := (HB.out.cell (World.block_lt_of_cell? w _ hx320_0)).trans hx320_0; replace hx320_1 := (HB.out.cell (World.block_lt_of_cell? w _ hx320_1)).trans hx320_1; replace hx320_2 := (HB.out.cell (World.block_lt_of_cell? w _ hx320_2)).trans hx320_2; replace p320 := eq_true p320; replace q320 := eq_true q320
            go_wp2_with (first | ((with_reducible refine gate_dst (N := 6) rfl ?_); refine zbx 6 #[.int .i64 0, .int .i64 0, .int .i64 0] 108 ?_; intro gb321 hg w13 hbox hb; have BK321 := Aside0.mk (hbox); have GW321 := zga (w := w) hg; have GE321 := zga (w := w) hg; replace HB := zbs hb; clear hb hbox hg; obtain ⟨hcz14_0, hcz14_1, hcz14_2⟩ := zc3 BK321; obtain ⟨hfz14_0, hfz14_1, hfz14_2⟩ := zf3 BK321) | ((with_reducible refine gate_callee (f := 73) rfl ?_); refine zgl 15 Try.func73 #[.slice (some ad320) l0.length c0] ?_; (with_reducible refine (impl_AreStocks.calls k1 _ _ l0 true _ ?side1 ?side2 A6.out).mono ?_); (case side1 => exact Kd.C_below HR0.out zb); (case side2 => exact HC0.out); rintro e w15 ⟨rfl, hb⟩; refine ⟨_, rfl, ?_⟩; replace BK321 := Aside0.mk (blk_below (g := gb321) (o := .cells #[.int .i64 ((rd_T108 l0 x9_1).f0), .int .i64 ((rd_T108 l0 x9_1).f1), .int .i64 ((rd_T108 l0 x9_1).f2)] 108 (0, 0)) (zkp BK321) hb); replace HB := zbs hb; (try clear hb); (try clear hb2); (try clear hk); (try clear hi); obtain ⟨hcz16_0, hcz16_1, hcz16_2⟩ := zc3 BK321; obtain ⟨hfz16_0, hfz16_1, hfz16_2⟩ := zf3 BK321))
            go_roundg k1
            case measure => have := HK1.out; omega
            case rel => exact ⟨(wrap64 (x9_1 + 1)), zr, H', ⟨by have := HK1.out; omega⟩, ⟨zb⟩⟩
        · replace c7 := Bool.eq_false_iff.mpr c7; subst c7; rw [if_neg (show ¬ (false = true) by decide)] at H; have H' := Aside0.mk H; clear H; have p320 : 0 ≤ (x9_1 : Int) := zd; have q320 : x9_1 < (l0.length : Int) := zd; obtain ⟨ad320, e320, hx320_0, hx320_1, hx320_2⟩ := at_T108 HR0.out x9_1 p320 q320; cases e320; replace hx320_0 := (HB.out.cell (World.block_lt_of_cell? w _ hx320_0)).trans hx320_0; replace hx320_1 := (HB.out.cell (World.block_lt_of_cell? w _ hx320_1)).trans hx320_1; replace hx320_2 := (HB.out.cell (World.block_lt_of_cell? w _ hx320_2)).trans hx320_2; replace p320 := eq_true p320; replace q320 := eq_true q320
          go_wp2_with (first | ((with_reducible refine gate_dst (N := 6) rfl ?_); refine zbx 6 #[.int .i64 0, .int .i64 0, .int .i64 0] 108 ?_; intro gb321 hg w17 hbox hb; have BK321 := Aside0.mk (hbox); have GW321 := zga (w := w) hg; have GE321 := zga (w := w) hg; replace HB := zbs hb; clear hb hbox hg; obtain ⟨hcz18_0, hcz18_1, hcz18_2⟩ := zc3 BK321; obtain ⟨hfz18_0, hfz18_1, hfz18_2⟩ := zf3 BK321) | ((with_reducible refine gate_callee (f := 73) rfl ?_); refine zgl 15 Try.func73 #[.slice (some ad320) l0.length c0] ?_; (with_reducible refine (impl_AreStocks.calls k1 _ _ l0 false _ ?side1 ?side2 A6.out).mono ?_); (case side1 => exact Kd.C_below HR0.out zb); (case side2 => exact HC0.out); rintro e w19 ⟨rfl, hb⟩; refine ⟨_, rfl, ?_⟩; replace BK321 := Aside0.mk (blk_below (g := gb321) (o := .cells #[.int .i64 ((rd_T108 l0 x9_1).f0), .int .i64 ((rd_T108 l0 x9_1).f1), .int .i64 ((rd_T108 l0 x9_1).f2)] 108 (0, 0)) (zkp BK321) hb); replace HB := zbs hb; (try clear hb); (try clear hb2); (try clear hk); (try clear hi)))
          go_roundg k1
          case measure => have := HK1.out; omega
          case rel => exact ⟨(wrap64 (x9_1 + 1)), zr, H', ⟨by have := HK1.out; omega⟩, ⟨zb⟩⟩
      · rw [if_neg c3] at H; have c3b0 := decide_eq_false c3; clear c3; obtain rfl := Option.some.inj H; go_wp2; go_ret; exact ⟨by first | rfl | (simp [errW_none, errW_some] <;> rfl) | (simp [*, errW_none, errW_some] <;> rfl), zb⟩
end Go.Proofs.Ytcokbhkjfdddkaa.Q
