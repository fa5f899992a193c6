/- Walks of 3 functions of the program: each comes to what a plain function tells. -/
import Derived.Test.YtnicfhfclnmdaaaDoorG0
import Derived.Test.YtnicfhfclnmdaaaDoorG1
namespace Go.Proofs.YtnicfhfclnmdaaaDoor.Q
open Go.RowKit Go.Proofs.YtnicfhfclnmdaaaDoorW.PrintWords Go.Proofs.YtnicfhfclnmdaaaDoorW.PrintLast Go.Proofs.YtnicfhfclnmdaaaDoorW.PrintMore Go.Proofs.YtnicfhfclnmdaaaDoorW.Zip
attribute [local go_sem] max2_int min2_int max_two min_two max_three min_three max_four min_four   -- for this text's walks alone
set_option linter.unusedVariables false
set_option linter.unusedSimpArgs false

/-! ### spec_ParseCell: function 12 -/
mutual
def spec_ParseCell.l0 : Nat → ByteArray → Int → Int → Int → List Int → Option (Int)
  | 0, _, _, _, _, _ => none
  | k + 1, x1, x5, x196000, x196001, x196002 => if x5 < (x196002.length : Int) then ((spec_IsLand.f k x196000 x196001 x196002).bind fun t196 => (spec_ParseCell.j1 k x1 x5 t196 x196000 x196001 x196002)) else (spec_ParseCell.j1 k x1 x5 false x196000 x196001 x196002)
def spec_ParseCell.j1 : Nat → ByteArray → Int → Bool → Int → Int → List Int → Option (Int)
  | 0, _, _, _, _, _, _ => none
  | k + 1, x1, x5, x14, x196000, x196001, x196002 => if x14 = true then ((spec_CellText.f k x196000 x196001 x196002 x5).bind fun t197 => (if t197.toList = x1.toList then (some x5) else (spec_ParseCell.l0 k x1 (wrap64 (x5 + 1)) x196000 x196001 x196002))) else (some (-1))
end
def spec_ParseCell.f (k : Nat) (a0_0 : Int) (a0_1 : Int) (l0_2 : List Int) (a1 : ByteArray) : Option (Int) := spec_ParseCell.l0 k a1 0 a0_0 a0_1 l0_2
set_option maxHeartbeats 8000000 in
set_option maxRecDepth 100000 in
theorem spec_ParseCell.calls (k : Nat) (a0_0 : Int) (a0_1 : Int) (A0_2 : Option Addr) (c0_2 : Nat) (l0_2 : List Int) (a1 : ByteArray) (r : Int) (w : World) (hr0_2 : Kd.C (Kd.int .i64) w A0_2 l0_2.length l0_2) (hc0_2 : l0_2.length ≤ c0_2) (h : spec_ParseCell.f k a0_0 a0_1 l0_2 a1 = some r) :
    Calls Tryd.prog 12 #[.agg #[.int .i64 a0_0, .int .i64 a0_1, .slice A0_2 l0_2.length c0_2], .string a1] w fun e w' => e = .returned (.int .i64 r) ∧ Below w.heap.size w w' := by
  have hu27 := Tryd.underlying27; have HR0_2 := Aside0.mk hr0_2; have HC0_2 := Aside0.mk hc0_2; clear hr0_2 hc0_2; have HB := Aside0.mk (Below.refl w.heap.size w); have H := h; clear h; unfold spec_ParseCell.f at H; have H' := Aside0.mk H; clear H; go_enter Tryd.func12, Tryd.ntmps12
  go_wp2_with (first | ((with_reducible refine gate_dst (N := 2) rfl ?_); refine zbx 2 #[.int .i64 a0_0, .int .i64 a0_1, .slice A0_2 l0_2.length c0_2] 27 ?_; intro gb195 hg w3 hbox hb; have BK195 := Aside0.mk (hbox); have GW195 := zga (w := w) hg; have GE195 := zga (w := w) hg; replace HB := zbs hb; clear hb hbox hg))
  go_loopg [5] k (fun kq v5 w' => ∃ (x5_1 : Int), v5 = .int .i64 x5_1 ∧ Aside0 (spec_ParseCell.l0 kq a1 x5_1 a0_0 a0_1 l0_2 = some r) ∧ Aside0 (kq ≤ k) ∧ Aside0 (w'.heap[gb195]? = some (.cells #[.int .i64 a0_0, .int .i64 a0_1, (.slice A0_2 l0_2.length c0_2)] 27 (0, 0))) ∧ Aside0 (Below w.heap.size w w'))
  case atStart => exact ⟨(0), zr, H', ⟨Nat.le_refl _⟩, ⟨zk BK195⟩, ⟨zb⟩⟩
  case round =>
    clear H'; (try clear c1); (try clear p2); obtain ⟨x5_1, rfl, HA, HK1, BK195, HB⟩ := hrel
    cases gk with
    | zero => exact absurd HA.out (by simp [spec_ParseCell.l0])
    | succ k1 =>
      have H := HA.out; clear HA; simp only [spec_ParseCell.l0] at H; have HC4 := Aside0.mk H; clear H
      go_upto_region 2 with (fail)
      go_cut [14] (fun v14 wc => ∃ (kq : Nat) (x14_3 : Bool), v14 = .bool x14_3 ∧ Aside0 (spec_ParseCell.j1 kq a1 x5_1 x14_3 a0_0 a0_1 l0_2 = some r) ∧ Aside0 (kq ≤ k1) ∧ Aside0 (wc.heap[gb195]? = some (.cells #[.int .i64 a0_0, .int .i64 a0_1, (.slice A0_2 l0_2.length c0_2)] 27 (0, 0))) ∧ Aside0 (Below w.heap.size w wc))
      case first =>
        have H := HC4.out; clear HC4
        by_cases c5 : x5_1 < (l0_2.length : Int)
        · rw [if_pos c5] at H; have c5b0 := decide_eq_true c5; clear c5; (first | rw [c5b0] | (simp only [i64_w, i32_w]; rw [c5b0]) | skip); replace H := Option.bind_eq_some_iff.mp H; obtain ⟨t196, A60, H⟩ := H; have A6 := Aside0.mk A60; clear A60; have H' := Aside0.mk H; clear H; obtain ⟨hcz7_0, hcz7_1, hcz7_2⟩ := zc3 BK195; obtain ⟨hfz7_0, hfz7_1, hfz7_2⟩ := zf3 BK195
          go_wp2_with (first | (go_at_call 28; (with_reducible refine (spec_IsLand.calls k1 a0_0 a0_1 _ _ l0_2 t196 _ ?side1 ?side2 A6.out).mono ?_); (case side1 => exact zCb HR0_2); (case side2 => exact HC0_2.out); rintro e w8 ⟨rfl, hb⟩; replace BK195 := zkb BK195 hb; replace HB := zbs hb; (try clear hb); (try clear hb2); (try clear hk); (try clear hi)))
          go_meet
          case rel => exact ⟨_, (t196), zr, H', ⟨by have := HK1.out; first | omega | exact Nat.le_refl _⟩, ⟨zk BK195⟩, ⟨zb⟩⟩
        · rw [if_neg c5] at H; have c5b0 := decide_eq_false c5; clear c5; (first | rw [c5b0] | (simp only [i64_w, i32_w]; rw [c5b0]) | skip); have H' := Aside0.mk H; clear H; obtain ⟨hcz9_0, hcz9_1, hcz9_2⟩ := zc3 BK195; obtain ⟨hfz9_0, hfz9_1, hfz9_2⟩ := zf3 BK195; go_wp2
          go_meet
          case rel => exact ⟨_, (false), zr, H', ⟨by have := HK1.out; first | omega | exact Nat.le_refl _⟩, ⟨zk BK195⟩, ⟨zb⟩⟩
      case rest =>
        clear HC4; (try clear c1); (try clear p2); (try clear c5); (try clear c5b0); (try clear hcz7_0); (try clear hcz7_1); (try clear hcz7_2); (try clear hcz9_0); (try clear hcz9_1); (try clear hcz9_2); (try clear hfz7_0); (try clear hfz7_1); (try clear hfz7_2); (try clear hfz9_0); (try clear hfz9_1); (try clear hfz9_2); (try clear p2); obtain ⟨kq, x14_3, rfl, HA, HJ3, BK195, HB⟩ := hcut; cases kq with
        | zero => exact absurd HA.out (by simp [spec_ParseCell.j1])
        | succ kj3 =>
          have H := HA.out; clear HA; simp only [spec_ParseCell.j1] at H
          by_cases c10 : x14_3 = true
          · subst c10; rw [if_pos rfl] at H; replace H := Option.bind_eq_some_iff.mp H; obtain ⟨t197, A110, H⟩ := H; have A11 := Aside0.mk A110; clear A110
            by_cases c12 : t197.toList = a1.toList
            · rw [if_pos c12] at H; have c12b0 : (t197.toList == a1.toList) = true := beq_iff_eq.mpr c12; have c12b1 : (t197.toList != a1.toList) = false := bne_eq_false_iff_eq.mpr c12; clear c12; obtain rfl := Option.some.inj H; obtain ⟨hcz13_0, hcz13_1, hcz13_2⟩ := zc3 BK195; obtain ⟨hfz13_0, hfz13_1, hfz13_2⟩ := zf3 BK195
              go_wp2_with (first | ((with_reducible refine gate_callee (f := 8) rfl ?_); refine goesL_ (some 19) rfl rfl Tryd.func8 (by kernel_rfl) rfl #[.agg #[.int .i64 a0_0, .int .i64 a0_1, .slice A0_2 l0_2.length c0_2], .int .i64 x5_1] rfl zm ?_; (with_reducible refine (spec_CellText.calls kj3 a0_0 a0_1 _ _ l0_2 x5_1 t197 _ ?side1 ?side2 A11.out).mono ?_); (case side1 => exact zCb HR0_2); (case side2 => exact HC0_2.out); rintro e w14 ⟨rfl, hb⟩; refine ⟨_, rfl, ?_⟩; replace BK195 := zkb BK195 hb; replace HB := zbs hb; (try clear hb); (try clear hb2); (try clear hk); (try clear hi)))
              go_ret; exact ⟨by first | rfl | (simp [errW_none, errW_some] <;> rfl) | (simp [*, errW_none, errW_some] <;> rfl), zb⟩
            · rw [if_neg c12] at H; have c12b0 : (t197.toList == a1.toList) = false := beq_eq_false_iff_ne.mpr c12; have c12b1 : (t197.toList != a1.toList) = true := bne_iff_ne.mpr c12; have H' := Aside0.mk H; clear H; obtain ⟨hcz15_0, hcz15_1, hcz15_2⟩ := zc3 BK195; obtain ⟨hfz15_0, hfz15_1, hfz15_2⟩ := zf3 BK195
              go_wp2_with (first | ((with_reducible refine gate_callee (f := 8) rfl ?_); refine goesL_ (some 19) rfl rfl Tryd.func8 (by kernel_rfl) rfl #[.agg #[.int .i64 a0_0, .int .i64 a0_1, .slice A0_2 l0_2.length c0_2], .int .i64 x5_1] rfl zm ?_; (with_reducible refine (spec_CellText.calls kj3 a0_0 a0_1 _ _ l0_2 x5_1 t197 _ ?side1 ?side2 A11.out).mono ?_); (case side1 => exact zCb HR0_2); (case side2 => exact HC0_2.out); rintro e w16 ⟨rfl, hb⟩; refine ⟨_, rfl, ?_⟩; replace BK195 := zkb BK195 hb; replace HB := zbs hb; (try clear hb); (try clear hb2); (try clear hk); (try clear hi)))
              go_roundg kj3
              case measure => have := HK1.out; have := HJ3.out; omega
              case rel => exact ⟨(wrap64 (x5_1 + 1)), zr, H', ⟨by have := HK1.out; have := HJ3.out; omega⟩, ⟨zk BK195⟩, ⟨zb⟩⟩
          · replace c10 := Bool.eq_false_iff.mpr c10; subst c10; rw [if_neg (show ¬ (false = true) by decide)] at H; obtain rfl := Option.some.inj H; go_wp2; go_ret; exact ⟨by first | rfl | (simp [errW_none, errW_some] <;> rfl) | (simp [*, errW_none, errW_some] <;> rfl), zb⟩

/-! ### impl_ParseCell: function 13 -/
def impl_ParseCell.l0 : Nat → ByteArray → Int → Int → Int → Int → List Int → Option (Int)
  | 0, _, _, _, _, _, _ => none
  | k + 1, x1, x8, x9, x199000, x199001, x199002 => if x9 < x8 then ((impl_IsCell.f k x199000 x199001 x199002 x9).bind fun t199 => (if t199 = true then ((impl_CellText.f k x199000 x199001 x199002 x9).bind fun t200 => (if t200.toList = x1.toList then (some x9) else (impl_ParseCell.l0 k x1 x8 (wrap64 (x9 + 1)) x199000 x199001 x199002))) else (impl_ParseCell.l0 k x1 x8 (wrap64 (x9 + 1)) x199000 x199001 x199002))) else (some (-1))
def impl_ParseCell.f (k : Nat) (a0_0 : Int) (a0_1 : Int) (l0_2 : List Int) (a1 : ByteArray) : Option (Int) := impl_ParseCell.l0 k a1 (l0_2.length : Int) 0 a0_0 a0_1 l0_2
set_option maxHeartbeats 8000000 in
set_option maxRecDepth 100000 in
theorem impl_ParseCell.calls (k : Nat) (a0_0 : Int) (a0_1 : Int) (A0_2 : Option Addr) (c0_2 : Nat) (l0_2 : List Int) (a1 : ByteArray) (r : Int) (w : World) (hr0_2 : Kd.C (Kd.int .i64) w A0_2 l0_2.length l0_2) (hc0_2 : l0_2.length ≤ c0_2) (h : impl_ParseCell.f k a0_0 a0_1 l0_2 a1 = some r) :
    Calls Tryd.prog 13 #[.agg #[.int .i64 a0_0, .int .i64 a0_1, .slice A0_2 l0_2.length c0_2], .string a1] w fun e w' => e = .returned (.int .i64 r) ∧ Below w.heap.size w w' := by
  have hu27 := Tryd.underlying27; have HR0_2 := Aside0.mk hr0_2; have HC0_2 := Aside0.mk hc0_2; clear hr0_2 hc0_2; have HB := Aside0.mk (Below.refl w.heap.size w); have H := h; clear h; unfold impl_ParseCell.f at H; have H' := Aside0.mk H; clear H; go_enter Tryd.func13, Tryd.ntmps13
  go_wp2_with (first | ((with_reducible refine gate_dst (N := 2) rfl ?_); refine zbx 2 #[.int .i64 a0_0, .int .i64 a0_1, .slice A0_2 l0_2.length c0_2] 27 ?_; intro gb198 hg w3 hbox hb; have BK198 := Aside0.mk (hbox); have GW198 := zga (w := w) hg; have GE198 := zga (w := w) hg; replace HB := zbs hb; clear hb hbox hg; obtain ⟨hcz4_0, hcz4_1, hcz4_2⟩ := zc3 BK198; obtain ⟨hfz4_0, hfz4_1, hfz4_2⟩ := zf3 BK198))
  go_loopg [9] k (fun kq v9 w' => ∃ (x9_1 : Int), v9 = .int .i64 x9_1 ∧ Aside0 (impl_ParseCell.l0 kq a1 (l0_2.length : Int) x9_1 a0_0 a0_1 l0_2 = some r) ∧ Aside0 (kq ≤ k) ∧ Aside0 (w'.heap[gb198]? = some (.cells #[.int .i64 a0_0, .int .i64 a0_1, (.slice A0_2 l0_2.length c0_2)] 27 (0, 0))) ∧ Aside0 (Below w.heap.size w w'))
  case atStart => exact ⟨(0), zr, H', ⟨Nat.le_refl _⟩, ⟨zk BK198⟩, ⟨zb⟩⟩
  case round =>
    clear H'; (try clear c1); (try clear p2); (try clear hcz4_0); (try clear hcz4_1); (try clear hcz4_2); (try clear hfz4_0); (try clear hfz4_1); (try clear hfz4_2); obtain ⟨x9_1, rfl, HA, HK1, BK198, HB⟩ := hrel
    cases gk with
    | zero => exact absurd HA.out (by simp [impl_ParseCell.l0])
    | succ k1 =>
      have H := HA.out; clear HA; simp only [impl_ParseCell.l0] at H
      by_cases c5 : x9_1 < (l0_2.length : Int)
      · rw [if_pos c5] at H; have c5b0 := decide_eq_true c5; clear c5; replace H := Option.bind_eq_some_iff.mp H; obtain ⟨t199, A60, H⟩ := H; have A6 := Aside0.mk A60; clear A60
        by_cases c7 : t199 = true
        · subst c7; rw [if_pos rfl] at H; replace H := Option.bind_eq_some_iff.mp H; obtain ⟨t200, A80, H⟩ := H; have A8 := Aside0.mk A80; clear A80
          by_cases c9 : t200.toList = a1.toList
          · rw [if_pos c9] at H; have c9b0 : (t200.toList == a1.toList) = true := beq_iff_eq.mpr c9; have c9b1 : (t200.toList != a1.toList) = false := bne_eq_false_iff_eq.mpr c9; clear c9; obtain rfl := Option.some.inj H; obtain ⟨hcz10_0, hcz10_1, hcz10_2⟩ := zc3 BK198; obtain ⟨hfz10_0, hfz10_1, hfz10_2⟩ := zf3 BK198
            go_wp2_with (first | ((with_reducible refine gate_callee (f := 26) rfl ?_); refine goesL_ (some 14) rfl rfl Tryd.func26 (by kernel_rfl) rfl #[.agg #[.int .i64 a0_0, .int .i64 a0_1, .slice A0_2 l0_2.length c0_2], .int .i64 x9_1] rfl zm ?_; (with_reducible refine (impl_IsCell.calls k1 a0_0 a0_1 _ _ l0_2 x9_1 true _ ?side1 ?side2 A6.out).mono ?_); (case side1 => exact zCb HR0_2); (case side2 => exact HC0_2.out); rintro e w11 ⟨rfl, hb⟩; refine ⟨_, rfl, ?_⟩; replace BK198 := zkb BK198 hb; replace HB := zbs hb; (try clear hb); (try clear hb2); (try clear hk); (try clear hi); obtain ⟨hcz12_0, hcz12_1, hcz12_2⟩ := zc3 BK198; obtain ⟨hfz12_0, hfz12_1, hfz12_2⟩ := zf3 BK198) | (go_at_call 10; (with_reducible refine (impl_CellText.calls k1 a0_0 a0_1 _ _ l0_2 x9_1 t200 _ ?side1 ?side2 A8.out).mono ?_); (case side1 => exact zCb HR0_2); (case side2 => exact HC0_2.out); rintro e w13 ⟨rfl, hb⟩; replace BK198 := zkb BK198 hb; replace HB := zbs hb; (try clear hb); (try clear hb2); (try clear hk); (try clear hi)))
            go_ret; exact ⟨by first | rfl | (simp [errW_none, errW_some] <;> rfl) | (simp [*, errW_none, errW_some] <;> rfl), zb⟩
          · rw [if_neg c9] at H; have c9b0 : (t200.toList == a1.toList) = false := beq_eq_false_iff_ne.mpr c9; have c9b1 : (t200.toList != a1.toList) = true := bne_iff_ne.mpr c9; have H' := Aside0.mk H; clear H; obtain ⟨hcz14_0, hcz14_1, hcz14_2⟩ := zc3 BK198; obtain ⟨hfz14_0, hfz14_1, hfz14_2⟩ := zf3 BK198
            go_wp2_with (first | ((with_reducible refine gate_callee (f := 26) rfl ?_); refine goesL_ (some 14) rfl rfl Tryd.func26 (by kernel_rfl) rfl #[.agg #[.int .i64 a0_0, .int .i64 a0_1, .slice A0_2 l0_2.length c0_2], .int .i64 x9_1] rfl zm ?_; (with_reducible refine (impl_IsCell.calls k1 a0_0 a0_1 _ _ l0_2 x9_1 true _ ?side1 ?side2 A6.out).mono ?_); (case side1 => exact zCb HR0_2); (case side2 => exact HC0_2.out); rintro e w15 ⟨rfl, hb⟩; refine ⟨_, rfl, ?_⟩; replace BK198 := zkb BK198 hb; replace HB := zbs hb; (try clear hb); (try clear hb2); (try clear hk); (try clear hi); obtain ⟨hcz16_0, hcz16_1, hcz16_2⟩ := zc3 BK198; obtain ⟨hfz16_0, hfz16_1, hfz16_2⟩ := zf3 BK198) | (go_at_call 10; (with_reducible refine (impl_CellText.calls k1 a0_0 a0_1 _ _ l0_2 x9_1 t200 _ ?side1 ?side2 A8.out).mono ?_); (case side1 => exact zCb HR0_2); (case side2 => exact HC0_2.out); rintro e w17 ⟨rfl, hb⟩; replace BK198 := zkb BK198 hb; replace HB := zbs hb; (try clear hb); (try clear hb2); (try clear hk); (try clear hi)))
            go_roundg k1
            case measure => have := HK1.out; omega
            case rel => exact ⟨(wrap64 (x9_1 + 1)), zr, H', ⟨by have := HK1.out; omega⟩, ⟨zk BK198⟩, ⟨zb⟩⟩
        · replace c7 := Bool.eq_false_iff.mpr c7; subst c7; rw [if_neg (show ¬ (false = true) by decide)] at H; have H' := Aside0.mk H; clear H; obtain ⟨hcz18_0, hcz18_1, hcz18_2⟩ := zc3 BK198; obtain ⟨hfz18_0, hfz18_1, hfz18_2⟩ := zf3 BK198
          go_wp2_with (first | ((with_reducible refine gate_callee (f := 26) rfl ?_); refine goesL_ (some 14) rfl rfl Tryd.func26 (by kernel_rfl) rfl #[.agg #[.int .i64 a0_0, .int .i64 a0_1, .slice A0_2 l0_2.length c0_2], .int .i64 x9_1] rfl zm ?_; (with_reducible refine (impl_IsCell.calls k1 a0_0 a0_1 _ _ l0_2 x9_1 false _ ?side1 ?side2 A6.out).mono ?_); (case side1 => exact zCb HR0_2); (case side2 => exact HC0_2.out); rintro e w19 ⟨rfl, hb⟩; refine ⟨_, rfl, ?_⟩; replace BK198 := zkb BK198 hb; replace HB := zbs hb; (try clear hb); (try clear hb2); (try clear hk); (try clear hi)))
          go_roundg k1
          case measure => have := HK1.out; omega
          case rel => exact ⟨(wrap64 (x9_1 + 1)), zr, H', ⟨by have := HK1.out; omega⟩, ⟨zk BK198⟩, ⟨zb⟩⟩
      · rw [if_neg c5] at H; have c5b0 := decide_eq_false c5; clear c5; obtain rfl := Option.some.inj H; go_wp2; go_ret; exact ⟨by first | rfl | (simp [errW_none, errW_some] <;> rfl) | (simp [*, errW_none, errW_some] <;> rfl), zb⟩

/-! ### laws_FnExactParseCell: function 4 -/
def laws_FnExactParseCell.f (k : Nat) (a0_0 : Int) (a0_1 : Int) (l0_2 : List Int) (a1 : ByteArray) : Option (Bool) := if (a1.size : Int) > 1048576 then (some true) else ((laws_szLand.f a0_0 a0_1 l0_2 1048576).bind fun t202 => (if t202 < 0 then (some true) else ((laws_toLand.f k a0_0 a0_1 l0_2).bind fun bt203 => ((spec_ParseCell.f k bt203.1 bt203.2.1 bt203.2.2 a1).bind fun t208 => ((laws_toLand.f k a0_0 a0_1 l0_2).bind fun bt209 => ((impl_ParseCell.f k bt209.1 bt209.2.1 bt209.2.2 a1).bind fun t215 => (if t215 = t208 then ((laws_toLand.f k a0_0 a0_1 l0_2).bind fun bt216 => ((laws_eqLand.f k bt209.1 bt209.2.1 bt209.2.2 bt216.1 bt216.2.1 bt216.2.2).bind fun t221 => (if t221 = true then (some true) else (some false)))) else (some false))))))))
set_option maxHeartbeats 8000000 in
set_option maxRecDepth 100000 in
theorem laws_FnExactParseCell.calls (k : Nat) (a0_0 : Int) (a0_1 : Int) (A0_2 : Option Addr) (c0_2 : Nat) (l0_2 : List Int) (a1 : ByteArray) (r : Bool) (hT_ : r = true) (w : World) (hr0_2 : Kd.C (Kd.int .i64) w A0_2 l0_2.length l0_2) (hc0_2 : l0_2.length ≤ c0_2) (h : laws_FnExactParseCell.f k a0_0 a0_1 l0_2 a1 = some r) :
    Calls Tryd.prog 4 #[.agg #[.int .i64 a0_0, .int .i64 a0_1, .slice A0_2 l0_2.length c0_2], .string a1] w fun e w' => e = .returned (.bool r) ∧ Below w.heap.size w w' := by
  have hu24 := Tryd.underlying24; have hu27 := Tryd.underlying27; have HR0_2 := Aside0.mk hr0_2; have HC0_2 := Aside0.mk hc0_2; clear hr0_2 hc0_2; have HB := Aside0.mk (Below.refl w.heap.size w); have H := h; clear h; unfold laws_FnExactParseCell.f at H
  by_cases c3 : (a1.size : Int) > 1048576
  · rw [if_pos c3] at H; have c3b0 : decide (1048576 < (a1.size : Int)) = true := decide_eq_true c3; have c3b1 : decide (1048576 < a1.size) = true := decide_eq_true (by omega); clear c3; obtain rfl := Option.some.inj H; go_enter Tryd.func4, Tryd.ntmps4
    go_wp2_with (first | ((with_reducible refine gate_dst (N := 2) rfl ?_); refine zbx 2 #[.int .i64 a0_0, .int .i64 a0_1, .slice A0_2 l0_2.length c0_2] 24 ?_; intro gb201 hg w4 hbox hb; have BK201 := Aside0.mk (hbox); have GW201 := zga (w := w) hg; have GE201 := zga (w := w) hg; replace HB := zbs hb; clear hb hbox hg))
    go_ret; exact ⟨by first | rfl | (simp [errW_none, errW_some] <;> rfl) | (simp [*, errW_none, errW_some] <;> rfl), zb⟩
  · rw [if_neg c3] at H; have c3b0 : decide (1048576 < (a1.size : Int)) = false := decide_eq_false c3; have c3b1 : decide (1048576 < a1.size) = false := decide_eq_false (by omega); clear c3; replace H := Option.bind_eq_some_iff.mp H; obtain ⟨t202, A50, H⟩ := H; have A5 := Aside0.mk A50; clear A50
    by_cases c6 : t202 < 0
    · rw [if_pos c6] at H; have c6b0 := decide_eq_true c6; clear c6; obtain rfl := Option.some.inj H; go_enter Tryd.func4, Tryd.ntmps4
      go_wp2_with (first | ((with_reducible refine gate_dst (N := 2) rfl ?_); refine zbx 2 #[.int .i64 a0_0, .int .i64 a0_1, .slice A0_2 l0_2.length c0_2] 24 ?_; intro gb201 hg w7 hbox hb; have BK201 := Aside0.mk (hbox); have GW201 := zga (w := w) hg; have GE201 := zga (w := w) hg; replace HB := zbs hb; clear hb hbox hg; obtain ⟨hcz8_0, hcz8_1, hcz8_2⟩ := zc3 BK201; obtain ⟨hfz8_0, hfz8_1, hfz8_2⟩ := zf3 BK201) | ((with_reducible refine gate_callee (f := 7) rfl ?_); refine goesL_ (some 14) rfl rfl Tryd.func7 (by kernel_rfl) rfl #[.agg #[.int .i64 a0_0, .int .i64 a0_1, .slice A0_2 l0_2.length c0_2], .int .i64 1048576] rfl zm ?_; (with_reducible refine (laws_szLand.calls a0_0 a0_1 _ _ l0_2 1048576 t202 _ ?side1 ?side2 A5.out).mono ?_); (case side1 => exact zCb HR0_2); (case side2 => exact HC0_2.out); rintro e w9 ⟨rfl, hb⟩; refine ⟨_, rfl, ?_⟩; replace BK201 := zkb BK201 hb; replace HB := zbs hb; (try clear hb); (try clear hb2); (try clear hk); (try clear hi)))
      go_ret; exact ⟨by first | rfl | (simp [errW_none, errW_some] <;> rfl) | (simp [*, errW_none, errW_some] <;> rfl), zb⟩
    · rw [if_neg c6] at H; have c6b0 := decide_eq_false c6; clear c6; replace H := Option.bind_eq_some_iff.mp H; obtain ⟨⟨t203, t204, t205⟩, A100, H⟩ := H; have A10 := Aside0.mk A100; clear A100; replace H := Option.bind_eq_some_iff.mp H; obtain ⟨t208, A110, H⟩ := H; have A11 := Aside0.mk A110; clear A110; replace H := Option.bind_eq_some_iff.mp H; obtain ⟨⟨t209, t210, t211⟩, A120, H⟩ := H; have A12 := Aside0.mk A120; clear A120; replace H := Option.bind_eq_some_iff.mp H; obtain ⟨t215, A130, H⟩ := H; have A13 := Aside0.mk A130; clear A130
      by_cases c14 : t215 = t208
      · rw [if_pos c14] at H; have c14b0 : (t215 == t208) = true := beq_iff_eq.mpr c14; have c14b1 : (t215 != t208) = false := bne_eq_false_iff_eq.mpr c14; clear c14; replace H := Option.bind_eq_some_iff.mp H; obtain ⟨⟨t216, t217, t218⟩, A150, H⟩ := H; have A15 := Aside0.mk A150; clear A150; replace H := Option.bind_eq_some_iff.mp H; obtain ⟨t221, A160, H⟩ := H; have A16 := Aside0.mk A160; clear A160
        by_cases c17 : t221 = true
        · subst c17; rw [if_pos rfl] at H; obtain rfl := Option.some.inj H; go_enter Tryd.func4, Tryd.ntmps4
          try go_wp2_with (first | ((with_reducible refine gate_dst (N := 2) rfl ?_); refine zbx 2 #[.int .i64 a0_0, .int .i64 a0_1, .slice A0_2 l0_2.length c0_2] 24 ?_; intro gb201 hg w18 hbox hb; have BK201 := Aside0.mk (hbox); have GW201 := zga (w := w) hg; have GE201 := zga (w := w) hg; replace HB := zbs hb; clear hb hbox hg; obtain ⟨hcz19_0, hcz19_1, hcz19_2⟩ := zc3 BK201; obtain ⟨hfz19_0, hfz19_1, hfz19_2⟩ := zf3 BK201) | ((with_reducible refine gate_callee (f := 7) rfl ?_); refine goesL_ (some 14) rfl rfl Tryd.func7 (by kernel_rfl) rfl #[.agg #[.int .i64 a0_0, .int .i64 a0_1, .slice A0_2 l0_2.length c0_2], .int .i64 1048576] rfl zm ?_; (with_reducible refine (laws_szLand.calls a0_0 a0_1 _ _ l0_2 1048576 t202 _ ?side1 ?side2 A5.out).mono ?_); (case side1 => exact zCb HR0_2); (case side2 => exact HC0_2.out); rintro e w20 ⟨rfl, hb⟩; refine ⟨_, rfl, ?_⟩; replace BK201 := zkb BK201 hb; replace HB := zbs hb; (try clear hb); (try clear hb2); (try clear hk); (try clear hi); obtain ⟨hcz21_0, hcz21_1, hcz21_2⟩ := zc3 BK201; obtain ⟨hfz21_0, hfz21_1, hfz21_2⟩ := zf3 BK201) | ((with_reducible refine gate_callee (f := 9) rfl ?_); refine goesL_ (some 18) rfl rfl Tryd.func9 (by kernel_rfl) rfl #[.agg #[.int .i64 a0_0, .int .i64 a0_1, .slice A0_2 l0_2.length c0_2]] rfl zm ?_; (with_reducible refine (laws_toLand.calls k a0_0 a0_1 _ _ l0_2 t203 t204 t205 _ ?side1 ?side2 A10.out).mono ?_); (case side1 => exact zCb HR0_2); (case side2 => exact HC0_2.out); rintro e w22 ⟨v206, rfl, ho0, hb⟩; refine ⟨_, rfl, ?_⟩; have HO207 := Aside0.mk (Kd.R_lower ho0 (below_size zb)); replace BK201 := zkb BK201 hb; replace HB := zbs hb; (try clear hb); (try clear hb2); (try clear hk); (try clear hi); (try clear ho0); obtain ⟨Ao23, co23, eo23⟩ := Kd.R_slice HO207.out; subst eo23) | ((with_reducible refine gate_callee (f := 12) rfl ?_); refine goesL_ (some 20) rfl rfl Tryd.func12 (by kernel_rfl) rfl #[.agg #[.int .i64 t203, .int .i64 t204, .slice Ao23 t205.length co23], .string a1] rfl zm ?_; (with_reducible refine (spec_ParseCell.calls k t203 t204 _ _ t205 a1 t208 _ ?side1 ?side2 A11.out).mono ?_); (case side1 => exact zCx (Kd.R_reads' HO207.out).2.2); (case side2 => exact (Kd.R_reads' HO207.out).2.1); rintro e w24 ⟨rfl, hb⟩; refine ⟨_, rfl, ?_⟩; replace HO207 := zRb HO207 hb; replace BK201 := zkb BK201 hb; replace HB := zbs hb; (try clear hb); (try clear hb2); (try clear hk); (try clear hi); obtain ⟨hcz25_0, hcz25_1, hcz25_2⟩ := zc3 BK201; obtain ⟨hfz25_0, hfz25_1, hfz25_2⟩ := zf3 BK201) | ((with_reducible refine gate_callee (f := 9) rfl ?_); refine goesL_ (some 22) rfl rfl Tryd.func9 (by kernel_rfl) rfl #[.agg #[.int .i64 a0_0, .int .i64 a0_1, .slice A0_2 l0_2.length c0_2]] rfl zm ?_; (with_reducible refine (laws_toLand.calls k a0_0 a0_1 _ _ l0_2 t209 t210 t211 _ ?side1 ?side2 A12.out).mono ?_); (case side1 => exact zCb HR0_2); (case side2 => exact HC0_2.out); rintro e w26 ⟨v212, rfl, ho0, hb⟩; refine ⟨_, rfl, ?_⟩; have HO213 := Aside0.mk (Kd.R_lower (Kd.R_new' ho0 (Kd.R_lt (zR HO207))) (below_size zb)); replace HO207 := Aside0.mk (Kd.R_elder' (zR HO207) (Kd.R_base ho0) hb); replace BK201 := zkb BK201 hb; replace HB := zbs hb; (try clear hb); (try clear hb2); (try clear hk); (try clear hi); (try clear ho0)) | ((with_reducible refine gate_dst (N := 7) rfl ?_); refine zbx 7 #[.int .i64 0, .int .i64 0, .slice none 0 0] 27 ?_; intro gb214 hg w27 hbox hb; replace HO207 := zRb HO207 hb; replace HO213 := zRb HO213 hb; have BK214 := Aside0.mk (hbox); have GW214 := zga (w := w) hg; have GE214 := zga (w := w) hg; replace HB := zbs hb; have NB201_214 := zla BK201 hg; have NB214_201 := zha BK201 hg; replace BK201 := zkb BK201 hb; clear hb hbox hg; have hnb28 := NB214_201.out; have hnc28 := NB201_214.out; obtain ⟨hcz29_0, hcz29_1, hcz29_2⟩ := zc3 BK214; obtain ⟨hfz29_0, hfz29_1, hfz29_2⟩ := zf3 BK214; obtain ⟨Ao30, co30, eo30⟩ := Kd.R_slice HO213.out; subst eo30) | ((with_reducible refine gate_callee (f := 13) rfl ?_); refine goesL_ (some 25) rfl rfl Tryd.func13 (by kernel_rfl) rfl #[.agg #[.int .i64 t209, .int .i64 t210, .slice Ao30 t211.length co30], .string a1] rfl zm ?_; (with_reducible refine (impl_ParseCell.calls k t209 t210 _ _ t211 a1 t215 _ ?side1 ?side2 A13.out).mono ?_); (case side1 => refine (Kd.R_reads' (e := 3) (base := w.heap.size) (ok := fun k_ => (True ∧ some k_ ≠ (.slice Ao23 t205.length co23 : Value).ownBlock)) (n := t211.length) (c := co30) ?_).2.2; exact (zF1 HO213 BK214)); (case side2 => exact (Kd.R_reads' HO213.out).2.1); rintro e w31 ⟨rfl, hb⟩; refine ⟨_, rfl, ?_⟩; replace HO207 := Aside0.mk (Kd.R_below (zF1 HO207 BK214) hb); replace HO213 := Aside0.mk (Kd.R_below (zF1 HO213 BK214) hb); replace BK201 := Aside0.mk (blk_below (g := gb201) (o := .cells #[.int .i64 a0_0, .int .i64 a0_1, .slice A0_2 l0_2.length c0_2] 24 (0, 0)) (zkf BK201) hb); replace BK214 := Aside0.mk (blk_below (g := gb214) (o := .cells #[.int .i64 t209, .int .i64 t210, .slice Ao30 t211.length co30] 27 (0, 0)) (zkp BK214) hb); replace HB := zbs hb; (try clear hb); (try clear hb2); (try clear hk); (try clear hi)))
          replace HO207 := Aside0.mk (Kd.R_drew HO207.out); replace HO213 := Aside0.mk (Kd.R_drew HO213.out); replace BK201 := Aside0.mk (blk_drew BK201.out); replace BK214 := Aside0.mk (blk_drew BK214.out); replace HB := Aside0.mk (below_drew1 HB.out); refine start_ (n := 5) (S := fun w' => w'.cell? ⟨gb214, 0, none⟩ = some (.int .i64 t209) ∧ w'.cell? ⟨gb214, 1, none⟩ = some (.int .i64 t210) ∧ w'.cell? ⟨gb214, 2, none⟩ = some (.slice Ao30 t211.length co30) ∧ w'.cell? ⟨gb201, 0, none⟩ = some (.int .i64 a0_0) ∧ w'.cell? ⟨gb201, 1, none⟩ = some (.int .i64 a0_1) ∧ w'.cell? ⟨gb201, 2, none⟩ = some (.slice A0_2 l0_2.length c0_2)) (ds := []) _ (by kernel_rfl) rfl rfl ⟨zq BK214 0, zq BK214 1, zq BK214 2, zq BK201 0, zq BK201 1, zq BK201 2⟩ (fun hHeld => ?_); generalize w31.drew = w32 at HO207 HO213 BK201 BK214 HB hHeld ⊢; refine take_ (i := 0) (N := some 29) (v := ?_) (a' := ?_) #[true, false, false, false, false] rfl rfl (by kernel_rfl) (fun _ _ _ h => h) (Or.inl ⟨by rfl, ?_⟩) hHeld ?_ ?_; rotate_left
          · rintro w' ⟨s0, s1, s2, s3, s4, s5⟩
            go_simp
            with_reducible rfl
          rotate_left
          · simp only [Act.put, List.setIfInBounds_toArray, List.set_cons_zero, List.set_cons_succ, i64_w, i32_w]; rfl
          refine take_ (i := 1) (N := some 30) (v := ?_) (a' := ?_) #[true, true, false, false, false] rfl rfl (by kernel_rfl) (fun _ _ _ h => h) (Or.inl ⟨by rfl, ?_⟩) hHeld ?_ ?_; rotate_left
          · rintro w' ⟨s0, s1, s2, s3, s4, s5⟩
            go_simp
            with_reducible rfl
          rotate_left
          · simp only [Act.put, List.setIfInBounds_toArray, List.set_cons_zero, List.set_cons_succ, i64_w, i32_w]; rfl
          refine one_ (i := 2) (N := some 31) #[true, true, true, false, false] rfl rfl (by kernel_rfl) (by decide) (fun K hK => ?_); refine goes_ Tryd.func9 (by kernel_rfl) rfl #[.agg #[.int .i64 a0_0, .int .i64 a0_1, .slice A0_2 l0_2.length c0_2]] (by rfl) rfl rfl zm ?_
          with_reducible refine (laws_toLand.calls k a0_0 a0_1 _ _ l0_2 t216 t217 t218 _ ?side1 ?side2 A15.out).mono ?_
          (case side1 => exact zCb HR0_2); (case side2 => exact HC0_2.out); rintro e w33 ⟨v219, rfl, ho0, hb⟩; refine ⟨_, rfl, ?_⟩; have HO220 := Aside0.mk (Kd.R_lower (Kd.R_new' (Kd.R_new' ho0 (Kd.R_lt (zR HO207))) (Kd.R_lt (zR HO213))) (below_size zb)); replace HO207 := Aside0.mk (Kd.R_elder' (zR HO207) (Kd.R_base ho0) hb); replace HO213 := Aside0.mk (Kd.R_elder' (zR HO213) (Kd.R_base ho0) hb); replace BK201 := zkb BK201 hb; replace BK214 := zkb BK214 hb; replace HB := zbs hb; (try clear hb); (try clear hb2); (try clear hk); (try clear hi); (try clear ho0); obtain ⟨Ao34, co34, eo34⟩ := Kd.R_slice HO220.out; (first | subst eo34 | (injection eo34 with f1_ f2_ f3_; have f4_ := f1_.symm; have f5_ := f3_.symm; clear f1_ f2_ f3_; subst f4_; subst f5_)); refine hK.out _ _ ⟨zq BK214 0, zq BK214 1, zq BK214 2, zq BK201 0, zq BK201 1, zq BK201 2⟩ (fun hHeld => ?_); clear hK K; refine norm_ (a' := ?_) ?_ ?_; rotate_left
          · show Act.put _ (some 31) _ = _
            simp only [Act.put, List.setIfInBounds_toArray, List.set_cons_zero, List.set_cons_succ, i64_w, i32_w]; rfl
          refine one_ (i := 3) (N := some 32) #[true, true, true, true, false] rfl rfl (by kernel_rfl) (by decide) (fun K hK => ?_); refine goes_ Tryd.func11 (by kernel_rfl) rfl #[.agg #[.int .i64 t209, .int .i64 t210, .slice Ao30 t211.length co30], .agg #[.int .i64 t216, .int .i64 t217, .slice Ao34 t218.length co34]] (by rfl) rfl rfl zm ?_
          with_reducible refine (laws_eqLand.calls k t209 t210 _ _ t211 t216 t217 _ _ t218 true _ ?side1 ?side2 ?side3 ?side4 A16.out).mono ?_
          (case side1 => exact zCx (Kd.R_reads' HO213.out).2.2); (case side2 => exact (Kd.R_reads' HO213.out).2.1); (case side3 => exact zCx (Kd.R_reads' HO220.out).2.2); (case side4 => exact (Kd.R_reads' HO220.out).2.1); rintro e w35 ⟨rfl, hb⟩; refine ⟨_, rfl, ?_⟩; replace HO207 := zRb HO207 hb; replace HO213 := zRb HO213 hb; replace HO220 := zRb HO220 hb; replace BK201 := zkb BK201 hb; replace BK214 := zkb BK214 hb; replace HB := zbs hb; (try clear hb); (try clear hb2); (try clear hk); (try clear hi); refine hK.out _ _ ⟨zq BK214 0, zq BK214 1, zq BK214 2, zq BK201 0, zq BK201 1, zq BK201 2⟩ (fun hHeld => ?_); clear hK K; refine norm_ (a' := ?_) ?_ ?_; rotate_left
          · show Act.put _ (some 32) _ = _
            simp only [Act.put, List.setIfInBounds_toArray, List.set_cons_zero, List.set_cons_succ, i64_w, i32_w]; rfl
          refine pure_ (i := 4) (N := some 33) (v := ?_) (a' := ?_) #[true, true, true, true, true] rfl rfl (by kernel_rfl) (fun _ _ _ h => h) (Or.inl ⟨by rfl, ?_⟩) ?_ ?_; rotate_left
          · intro w'
            go_simp
            with_reducible rfl
          rotate_left
          · simp only [Act.put, List.setIfInBounds_toArray, List.set_cons_zero, List.set_cons_succ, i64_w, i32_w]; rfl
          refine done_ (by kernel_rfl) ?_
          try go_wp2
          go_ret; exact ⟨by first | rfl | (simp [errW_none, errW_some] <;> rfl) | (simp [*, errW_none, errW_some] <;> rfl), zb⟩
        · replace c17 := Bool.eq_false_iff.mpr c17; subst c17; rw [if_neg (show ¬ (false = true) by decide)] at H; obtain rfl := Option.some.inj H; exact absurd hT_ (by decide)
      · rw [if_neg c14] at H; have c14b0 : (t215 == t208) = false := beq_eq_false_iff_ne.mpr c14; have c14b1 : (t215 != t208) = true := bne_iff_ne.mpr c14; obtain rfl := Option.some.inj H; exact absurd hT_ (by decide)
end Go.Proofs.YtnicfhfclnmdaaaDoor.Q
