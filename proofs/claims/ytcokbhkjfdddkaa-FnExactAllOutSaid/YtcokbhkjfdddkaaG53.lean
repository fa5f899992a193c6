/- Walks of 2 functions of the program: each comes to what a plain function tells. -/
import Derived.Test.YtcokbhkjfdddkaaG0
import Derived.Test.YtcokbhkjfdddkaaG6
import Derived.Test.YtcokbhkjfdddkaaG9
import Derived.Test.YtcokbhkjfdddkaaG33
namespace Go.Proofs.Ytcokbhkjfdddkaa.Q
open Go.RowKit Go.Proofs.YtcokbhkjfdddkaaW.PrintWords Go.Proofs.YtcokbhkjfdddkaaW.PrintLast Go.Proofs.YtcokbhkjfdddkaaW.PrintMore Go.Proofs.YtcokbhkjfdddkaaW.Zip
attribute [local go_sem] max2_int min2_int max_two min_two max_three min_three max_four min_four   -- for this text's walks alone
set_option linter.unusedVariables false
set_option linter.unusedSimpArgs false
attribute [local go_sem high] eqA81

/-! ### spec_AllOut: function 36 -/
def spec_AllOut.l0 : Nat → List (S108) → Int → Int → Option (Int)
  | 0, _, _, _ => none
  | k + 1, x0, x3, x4 => if x4 < (x0.length : Int) then ((spec_AreStocks.f k x0).bind fun t222 => (if t222 = true then (if 0 ≤ x4 then (spec_AllOut.l0 k x0 (wrap64 (x3 + ((rd_T108 x0 x4).f2))) (wrap64 (x4 + 1))) else (none)) else (some x3))) else (some x3)
def spec_AllOut.f (k : Nat) (l0 : List (S108)) : Option (Int) := spec_AllOut.l0 k l0 0 0
set_option maxHeartbeats 8000000 in
set_option maxRecDepth 100000 in
theorem spec_AllOut.calls (k : Nat) (A0 : Option Addr) (c0 : Nat) (l0 : List (S108)) (r : Int) (w : World) (hr0 : Kd.C k108 w A0 l0.length l0) (hc0 : l0.length ≤ c0) (h : spec_AllOut.f k l0 = some r) :
    Calls Try.prog 36 #[.slice A0 l0.length c0] w fun e w' => e = .returned (.int .i64 r) ∧ Below w.heap.size w w' := by
  have HR0 := Aside0.mk hr0; have HC0 := Aside0.mk hc0; clear hr0 hc0; have HB := Aside0.mk (Below.refl w.heap.size w); have H := h; clear h; unfold spec_AllOut.f at H; have H' := Aside0.mk H; clear H; go_enter Try.func36, Try.ntmps36; go_wp2
  go_loopg [3, 4] k (fun kq v3 v4 w' => ∃ (x3_1 : Int) (x4_1 : Int), v3 = .int .i64 x3_1 ∧ v4 = .int .i64 x4_1 ∧ Aside0 (spec_AllOut.l0 kq l0 x3_1 x4_1 = some r) ∧ Aside0 (kq ≤ k) ∧ Aside0 (Below w.heap.size w w'))
  case atStart => exact ⟨(0), (0), zr, zr, H', ⟨Nat.le_refl _⟩, ⟨zb⟩⟩
  case round =>
    clear H'; obtain ⟨x3_1, x4_1, rfl, rfl, HA, HK1, HB⟩ := hrel
    cases gk with
    | zero => exact absurd HA.out (by simp [spec_AllOut.l0])
    | succ k1 =>
      have H := HA.out; clear HA; simp only [spec_AllOut.l0] at H
      by_cases c2 : x4_1 < (l0.length : Int)
      · rw [if_pos c2] at H; have c2b0 := decide_eq_true c2; clear c2; replace H := Option.bind_eq_some_iff.mp H; obtain ⟨t222, A30, H⟩ := H; have A3 := Aside0.mk A30; clear A30
        by_cases c4 : t222 = true
        · subst c4; rw [if_pos rfl] at H; obtain ⟨c5, H⟩ := zif H; have c5b0 := decide_eq_true c5; clear c5; have H' := Aside0.mk H; clear H
          go_wp2_with (first | (go_at_call 116; (with_reducible refine (spec_AreStocks.calls k1 _ _ l0 true _ ?side1 ?side2 A3.out).mono ?_); (case side1 => exact zCb HR0); (case side2 => exact HC0.out); rintro e w6 ⟨rfl, hb⟩; replace HB := zbs hb; (try clear hb); (try clear hb2); (try clear hk); (try clear hi); have p223 : 0 ≤ (x4_1 : Int) := zd; have q223 : x4_1 < (l0.length : Int) := zd; obtain ⟨ad223, e223, hx223_0, hx223_1, hx223_2⟩ := at_T108 HR0.out x4_1 p223 q223; cases e223; replace hx223_0 := (HB.out.cell (World.block_lt_of_cell? w _ hx223_0)).trans hx223_0; replace hx223_1 := (HB.out.cell (World.block_lt_of_cell? w _ hx223_1)).trans hx223_1; replace hx223_2 := (HB.out.cell (World.block_lt_of_cell? w _ hx223_2)).trans hx223_2; replace p223 := eq_true p223; replace q223 := eq_true q223))
          go_roundg k1
          case measure => have := HK1.out; omega
          case rel => exact ⟨(wrap64 (x3_1 + ((rd_T108 l0 x4_1).f2))), (wrap64 (x4_1 + 1)), zr, zr, H', ⟨by have := HK1.out; omega⟩, ⟨zb⟩⟩
        · replace c4 := Bool.eq_false_iff.mpr c4; subst c4; rw [if_neg (show ¬ (false = true) by decide)] at H; obtain rfl := Option.some.inj H
          go_wp2_with (first | (go_at_call 116; (with_reducible refine (spec_AreStocks.calls k1 _ _ l0 false _ ?side1 ?side2 A3.out).mono ?_); (case side1 => exact zCb HR0); (case side2 => exact HC0.out); rintro e w7 ⟨rfl, hb⟩; replace HB := zbs hb; (try clear hb); (try clear hb2); (try clear hk); (try clear hi)))
          go_ret; exact ⟨by first | rfl | (simp [errW_none, errW_some] <;> rfl) | (simp [*, errW_none, errW_some] <;> rfl), zb⟩
      · rw [if_neg c2] at H; have c2b0 := decide_eq_false c2; clear c2; obtain rfl := Option.some.inj H; go_wp2; go_ret; exact ⟨by first | rfl | (simp [errW_none, errW_some] <;> rfl) | (simp [*, errW_none, errW_some] <;> rfl), zb⟩

/-! ### laws_FnExactAllOut: function 6 -/
def laws_FnExactAllOut.f (k : Nat) (l0 : List (S110)) : Option (Bool) := (laws_szStockS.f l0 1048576).bind fun t251 => (if t251 < 0 then (some true) else ((laws_toStockS.f k l0).bind fun t252 => ((spec_AllOut.f k t252).bind fun t255 => ((laws_toStockS.f k l0).bind fun t256 => ((impl_AllOut.f k t256).bind fun t259 => (if t259 = t255 then ((laws_toStockS.f k l0).bind fun t260 => ((laws_eqStockS.f k t256 t260).bind fun t263 => (if t263 = true then (some true) else (some false)))) else (some false)))))))
set_option maxHeartbeats 8000000 in
set_option maxRecDepth 100000 in
theorem laws_FnExactAllOut.calls (k : Nat) (A0 : Option Addr) (c0 : Nat) (l0 : List (S110)) (r : Bool) (hT_ : r = true) (w : World) (hr0 : Kd.C k110 w A0 l0.length l0) (hc0 : l0.length ≤ c0) (h : laws_FnExactAllOut.f k l0 = some r) :
    Calls Try.prog 6 #[.slice A0 l0.length c0] w fun e w' => e = .returned (.bool r) ∧ Below w.heap.size w w' := by
  have HR0 := Aside0.mk hr0; have HC0 := Aside0.mk hc0; clear hr0 hc0; have HB := Aside0.mk (Below.refl w.heap.size w); have H := h; clear h; unfold laws_FnExactAllOut.f at H; replace H := Option.bind_eq_some_iff.mp H; obtain ⟨t251, A20, H⟩ := H; have A2 := Aside0.mk A20; clear A20
  by_cases c3 : t251 < 0
  · rw [if_pos c3] at H; have c3b0 := decide_eq_true c3; clear c3; obtain rfl := Option.some.inj H; go_enter Try.func6, Try.ntmps6
    go_wp2_with (first | ((with_reducible refine gate_callee (f := 35) rfl ?_); refine zgl 9 Try.func35 #[.slice A0 l0.length c0, .int .i64 1048576] ?_; (with_reducible refine (laws_szStockS.calls _ _ l0 1048576 t251 _ ?side1 ?side2 A2.out).mono ?_); (case side1 => exact zCx HR0.out); (case side2 => exact HC0.out); rintro e w' ⟨rfl, ⟨nd, rfl⟩⟩; refine ⟨_, rfl, ?_⟩))
    go_ret; exact ⟨by first | rfl | (simp [errW_none, errW_some] <;> rfl) | (simp [*, errW_none, errW_some] <;> rfl), zb⟩
  · rw [if_neg c3] at H; have c3b0 := decide_eq_false c3; clear c3; replace H := Option.bind_eq_some_iff.mp H; obtain ⟨t252, A40, H⟩ := H; have A4 := Aside0.mk A40; clear A40; replace H := Option.bind_eq_some_iff.mp H; obtain ⟨t255, A50, H⟩ := H; have A5 := Aside0.mk A50; clear A50; replace H := Option.bind_eq_some_iff.mp H; obtain ⟨t256, A60, H⟩ := H; have A6 := Aside0.mk A60; clear A60; replace H := Option.bind_eq_some_iff.mp H; obtain ⟨t259, A70, H⟩ := H; have A7 := Aside0.mk A70; clear A70
    by_cases c8 : t259 = t255
    · rw [if_pos c8] at H; have c8b0 : (t259 == t255) = true := beq_iff_eq.mpr c8; have c8b1 : (t259 != t255) = false := bne_eq_false_iff_eq.mpr c8; clear c8; replace H := Option.bind_eq_some_iff.mp H; obtain ⟨t260, A90, H⟩ := H; have A9 := Aside0.mk A90; clear A90; replace H := Option.bind_eq_some_iff.mp H; obtain ⟨t263, A100, H⟩ := H; have A10 := Aside0.mk A100; clear A100
      by_cases c11 : t263 = true
      · subst c11; rw [if_pos rfl] at H; obtain rfl := Option.some.inj H; go_enter Try.func6, Try.ntmps6
        go_wp2_with (first | ((with_reducible refine gate_callee (f := 35) rfl ?_); refine zgl 9 Try.func35 #[.slice A0 l0.length c0, .int .i64 1048576] ?_; (with_reducible refine (laws_szStockS.calls _ _ l0 1048576 t251 _ ?side1 ?side2 A2.out).mono ?_); (case side1 => exact zCx HR0.out); (case side2 => exact HC0.out); rintro e w' ⟨rfl, ⟨nd, rfl⟩⟩; refine ⟨_, rfl, ?_⟩) | ((with_reducible refine gate_callee (f := 37) rfl ?_); refine zgl 13 Try.func37 #[.slice A0 l0.length c0] ?_; (with_reducible refine (laws_toStockS.calls k _ _ l0 t252 _ ?side1 ?side2 A4.out).mono ?_); (case side1 => exact zCx HR0.out); (case side2 => exact HC0.out); rintro e w12 ⟨v253, rfl, ho0, hb⟩; refine ⟨_, rfl, ?_⟩; have HO254 := Aside0.mk (Kd.R_lower ho0 (below_size zb)); replace HB := zbs hb; (try clear hb); (try clear hb2); (try clear hk); (try clear hi); (try clear ho0); obtain ⟨Ao13, co13, eo13⟩ := Kd.R_slice HO254.out; subst eo13) | ((with_reducible refine gate_callee (f := 36) rfl ?_); refine zgl 14 Try.func36 #[.slice Ao13 t252.length co13] ?_; (with_reducible refine (spec_AllOut.calls k _ _ t252 t255 _ ?side1 ?side2 A5.out).mono ?_); (case side1 => exact zCx (Kd.R_reads' HO254.out).2.2); (case side2 => exact (Kd.R_reads' HO254.out).2.1); rintro e w14 ⟨rfl, hb⟩; refine ⟨_, rfl, ?_⟩; replace HO254 := zRb HO254 hb; replace HB := zbs hb; (try clear hb); (try clear hb2); (try clear hk); (try clear hi)) | ((with_reducible refine gate_callee (f := 37) rfl ?_); refine zgl 16 Try.func37 #[.slice A0 l0.length c0] ?_; (with_reducible refine (laws_toStockS.calls k _ _ l0 t256 _ ?side1 ?side2 A6.out).mono ?_); (case side1 => exact zCb HR0); (case side2 => exact HC0.out); rintro e w15 ⟨v257, rfl, ho0, hb⟩; refine ⟨_, rfl, ?_⟩; have HO258 := Aside0.mk (Kd.R_lower (Kd.R_new' ho0 (Kd.R_lt (zR HO254))) (below_size zb)); replace HO254 := Aside0.mk (Kd.R_elder' (zR HO254) (Kd.R_base ho0) hb); replace HB := zbs hb; (try clear hb); (try clear hb2); (try clear hk); (try clear hi); (try clear ho0); obtain ⟨Ao16, co16, eo16⟩ := Kd.R_slice HO258.out; subst eo16) | ((with_reducible refine gate_callee (f := 38) rfl ?_); refine zgl 18 Try.func38 #[.slice Ao16 t256.length co16] ?_; (with_reducible refine (impl_AllOut.calls k _ _ t256 t259 _ ?side1 ?side2 A7.out).mono ?_); (case side1 => exact zCx (Kd.R_reads' HO258.out).2.2); (case side2 => exact (Kd.R_reads' HO258.out).2.1); rintro e w17 ⟨rfl, hb⟩; refine ⟨_, rfl, ?_⟩; replace HO254 := zRb HO254 hb; replace HO258 := zRb HO258 hb; replace HB := zbs hb; (try clear hb); (try clear hb2); (try clear hk); (try clear hi)) | ((with_reducible refine gate_callee (f := 37) rfl ?_); refine zgl 24 Try.func37 #[.slice A0 l0.length c0] ?_; (with_reducible refine (laws_toStockS.calls k _ _ l0 t260 _ ?side1 ?side2 A9.out).mono ?_); (case side1 => exact zCb HR0); (case side2 => exact HC0.out); rintro e w18 ⟨v261, rfl, ho0, hb⟩; refine ⟨_, rfl, ?_⟩; have HO262 := Aside0.mk (Kd.R_lower (Kd.R_new' (Kd.R_new' ho0 (Kd.R_lt (zR HO254))) (Kd.R_lt (zR HO258))) (below_size zb)); replace HO254 := Aside0.mk (Kd.R_elder' (zR HO254) (Kd.R_base ho0) hb); replace HO258 := Aside0.mk (Kd.R_elder' (zR HO258) (Kd.R_base ho0) hb); replace HB := zbs hb; (try clear hb); (try clear hb2); (try clear hk); (try clear hi); (try clear ho0); obtain ⟨Ao19, co19, eo19⟩ := Kd.R_slice HO262.out; subst eo19) | ((with_reducible refine gate_callee (f := 39) rfl ?_); refine zgl 25 Try.func39 #[.slice Ao16 t256.length co16, .slice Ao19 t260.length co19] ?_; (with_reducible refine (laws_eqStockS.calls k _ _ t256 _ _ t260 true _ ?side1 ?side2 ?side3 ?side4 A10.out).mono ?_); (case side1 => exact zCx (Kd.R_reads' HO258.out).2.2); (case side2 => exact (Kd.R_reads' HO258.out).2.1); (case side3 => exact zCx (Kd.R_reads' HO262.out).2.2); (case side4 => exact (Kd.R_reads' HO262.out).2.1); rintro e w20 ⟨rfl, hb⟩; refine ⟨_, rfl, ?_⟩; replace HO254 := zRb HO254 hb; replace HO258 := zRb HO258 hb; replace HO262 := zRb HO262 hb; replace HB := zbs hb; (try clear hb); (try clear hb2); (try clear hk); (try clear hi)))
        go_ret; exact ⟨by first | rfl | (simp [errW_none, errW_some] <;> rfl) | (simp [*, errW_none, errW_some] <;> rfl), zb⟩
      · replace c11 := Bool.eq_false_iff.mpr c11; subst c11; rw [if_neg (show ¬ (false = true) by decide)] at H; obtain rfl := Option.some.inj H; exact absurd hT_ (by decide)
    · rw [if_neg c8] at H; have c8b0 : (t259 == t255) = false := beq_eq_false_iff_ne.mpr c8; have c8b1 : (t259 != t255) = true := bne_iff_ne.mpr c8; obtain rfl := Option.some.inj H; exact absurd hT_ (by decide)
end Go.Proofs.Ytcokbhkjfdddkaa.Q
