/- Walks of 2 functions of the program: each comes to what a plain function tells. -/
import Derived.Test.YtcokbhkjfdddkaaG0
import Derived.Test.YtcokbhkjfdddkaaG3
import Derived.Test.YtcokbhkjfdddkaaG5
import Derived.Test.YtcokbhkjfdddkaaG7
import Derived.Test.YtcokbhkjfdddkaaG34
namespace Go.Proofs.Ytcokbhkjfdddkaa.Q
open Go.RowKit Go.Proofs.YtcokbhkjfdddkaaW.PrintWords Go.Proofs.YtcokbhkjfdddkaaW.PrintLast Go.Proofs.YtcokbhkjfdddkaaW.PrintMore Go.Proofs.YtcokbhkjfdddkaaW.Zip
attribute [local go_sem] max2_int min2_int max_two min_two max_three min_three max_four min_four   -- for this text's walks alone
set_option linter.unusedVariables false
set_option linter.unusedSimpArgs false
attribute [local go_sem high] eqA81

/-! ### spec_IsFair: function 41 -/
mutual
def spec_IsFair.l0 : Nat → List (S81) → List Int → Int → Option (Bool)
  | 0, _, _, _ => none
  | k + 1, x0, x1, x5 => if x5 < (x0.length : Int) then (spec_IsFair.j1 k x0 x1 x5 ((x1.length : Int) == (x0.length : Int))) else (spec_IsFair.j1 k x0 x1 x5 false)
def spec_IsFair.j1 : Nat → List (S81) → List Int → Int → Bool → Option (Bool)
  | 0, _, _, _, _ => none
  | k + 1, x0, x1, x5, x17 => if x17 = true then (spec_IsFair.l1 k x0 x1 x5 0) else (some ((x1.length : Int) == (x0.length : Int)))
def spec_IsFair.l1 : Nat → List (S81) → List Int → Int → Int → Option (Bool)
  | 0, _, _, _, _ => none
  | k + 1, x0, x1, x5, x6 => if x6 < (x0.length : Int) then (if 0 ≤ x5 then (if x5 < (x1.length : Int) then (if 0 ≤ x6 then (if x6 < (x1.length : Int) then (if x5 < (x0.length : Int) then (if (wrap64 ((rd x1 x5) * ((rd_T81 x0 x6).f2))) > (wrap64 ((wrap64 ((wrap64 ((rd x1 x6) + 1)) * ((rd_T81 x0 x5).f2))) + ((rd_T81 x0 x6).f2))) then (some false) else (spec_IsFair.l1 k x0 x1 x5 (wrap64 (x6 + 1)))) else (none)) else (none)) else (none)) else (none)) else (none)) else (spec_IsFair.l0 k x0 x1 (wrap64 (x5 + 1)))
end
def spec_IsFair.f (k : Nat) (l0 : List (S81)) (l1 : List Int) : Option (Bool) := spec_IsFair.l0 k l0 l1 0
set_option maxHeartbeats 8000000 in
set_option maxRecDepth 100000 in
theorem spec_IsFair.calls (k : Nat) (A0 : Option Addr) (c0 : Nat) (l0 : List (S81)) (A1 : Option Addr) (c1 : Nat) (l1 : List Int) (r : Bool) (w : World) (hr0 : Kd.C k81 w A0 l0.length l0) (hc0 : l0.length ≤ c0) (hr1 : Kd.C (Kd.int .i64) w A1 l1.length l1) (hc1 : l1.length ≤ c1) (h : spec_IsFair.f k l0 l1 = some r) :
    Calls Try.prog 41 #[.slice A0 l0.length c0, .slice A1 l1.length c1] w fun e w' => e = .returned (.bool r) ∧ Drawn0 w w' := by
  have HR0 := Aside0.mk hr0; have HC0 := Aside0.mk hc0; clear hr0 hc0; have HR1 := Aside0.mk hr1; have HC1 := Aside0.mk hc1; clear hr1 hc1; have H := h; clear h; unfold spec_IsFair.f at H; have H' := Aside0.mk H; clear H; go_enter Try.func41, Try.ntmps41; go_wp2
  repeat (go_quiet (fail); try go_wp2)
  go_loopg [5] k (fun kq v5 w' => ∃ (x5_1 : Int), v5 = .int .i64 x5_1 ∧ Aside0 (spec_IsFair.l0 kq l0 l1 x5_1 = some r) ∧ Aside0 (kq ≤ k) ∧ Drawn0 w w')
  case atStart => exact ⟨(0), zr, H', ⟨Nat.le_refl _⟩, by repeat (first | exact Drawn0.refl _ | apply Drawn0.step)⟩
  case round =>
    clear H'; (try clear c1); (try clear p2); obtain ⟨x5_1, rfl, HA, HK1, ⟨m1, rfl⟩⟩ := hrel
    cases gk with
    | zero => exact absurd HA.out (by simp [spec_IsFair.l0])
    | succ k1 =>
      have H := HA.out; clear HA; simp only [spec_IsFair.l0] at H; have HC3 := Aside0.mk H; clear H
      go_upto_region 2 with (fail)
      repeat (go_quiet (fail); go_upto_region 2 with (fail))
      go_cut [17] (fun v17 wc => ∃ (kq : Nat) (x17_2 : Bool), v17 = .bool x17_2 ∧ Aside0 (spec_IsFair.j1 kq l0 l1 x5_1 x17_2 = some r) ∧ Aside0 (kq ≤ k1) ∧ Drawn0 w wc)
      case first =>
        have H := HC3.out; clear HC3
        by_cases c4 : x5_1 < (l0.length : Int)
        · rw [if_pos c4] at H; have c4b0 := decide_eq_true c4; clear c4; (first | rw [c4b0] | (simp only [i64_w, i32_w]; rw [c4b0]) | skip); have H' := Aside0.mk H; clear H; go_wp2
          repeat (go_quiet (fail); try go_wp2)
          go_meet
          case rel => exact ⟨_, (((l1.length : Int) == (l0.length : Int))), zr, H', ⟨by have := HK1.out; first | omega | exact Nat.le_refl _⟩, by repeat (first | exact Drawn0.refl _ | apply Drawn0.step)⟩
        · rw [if_neg c4] at H; have c4b0 := decide_eq_false c4; clear c4; (first | rw [c4b0] | (simp only [i64_w, i32_w]; rw [c4b0]) | skip); have H' := Aside0.mk H; clear H; go_wp2
          repeat (go_quiet (fail); try go_wp2)
          go_meet
          case rel => exact ⟨_, (false), zr, H', ⟨by have := HK1.out; first | omega | exact Nat.le_refl _⟩, by repeat (first | exact Drawn0.refl _ | apply Drawn0.step)⟩
      case rest =>
        clear HC3; (try clear c1); (try clear p2); (try clear c4); (try clear c4b0); (try clear p2); obtain ⟨kq, x17_2, rfl, HA, HJ2, ⟨mc2, rfl⟩⟩ := hcut; cases kq with
        | zero => exact absurd HA.out (by simp [spec_IsFair.j1])
        | succ kj2 =>
          have H := HA.out; clear HA; simp only [spec_IsFair.j1] at H
          by_cases c5 : x17_2 = true
          · subst c5; rw [if_pos rfl] at H; have H' := Aside0.mk H; clear H; go_wp2
            repeat (go_quiet (fail); try go_wp2)
            go_loopg [6] kj2 (fun kq v6 w' => ∃ (x6_3 : Int), v6 = .int .i64 x6_3 ∧ Aside0 (spec_IsFair.l1 kq l0 l1 x5_1 x6_3 = some r) ∧ Aside0 (kq ≤ kj2) ∧ Drawn0 w w')
            case atStart => exact ⟨(0), zr, H', ⟨Nat.le_refl _⟩, by repeat (first | exact Drawn0.refl _ | apply Drawn0.step)⟩
            case round =>
              clear H'; (try clear c1); (try clear c2); (try clear p2); (try clear c4); (try clear c4b0); (try clear c5); (try clear p2); obtain ⟨x6_3, rfl, HA, HK3, ⟨m3, rfl⟩⟩ := hrel
              cases gk with
              | zero => exact absurd HA.out (by simp [spec_IsFair.l1])
              | succ k3 =>
                have H := HA.out; clear HA; simp only [spec_IsFair.l1] at H
                by_cases c6 : x6_3 < (l0.length : Int)
                · rw [if_pos c6] at H; have c6b0 := decide_eq_true c6; clear c6; obtain ⟨c7, H⟩ := zif H; have c7b0 := decide_eq_true c7; clear c7; obtain ⟨c8, H⟩ := zif H; have c8b0 := decide_eq_true c8; clear c8; obtain ⟨c9, H⟩ := zif H; have c9b0 := decide_eq_true c9; clear c9; obtain ⟨c10, H⟩ := zif H; have c10b0 := decide_eq_true c10; clear c10; obtain ⟨c11, H⟩ := zif H; have c11b0 := decide_eq_true c11; clear c11
                  by_cases c12 : (wrap64 ((rd l1 x5_1) * ((rd_T81 l0 x6_3).f2))) > (wrap64 ((wrap64 ((wrap64 ((rd l1 x6_3) + 1)) * ((rd_T81 l0 x5_1).f2))) + ((rd_T81 l0 x6_3).f2)))
                  · rw [if_pos c12] at H; have c12b0 : decide ((wrap64 ((wrap64 ((wrap64 ((rd l1 x6_3) + 1)) * ((rd_T81 l0 x5_1).f2))) + ((rd_T81 l0 x6_3).f2))) < (wrap64 ((rd l1 x5_1) * ((rd_T81 l0 x6_3).f2)))) = true := decide_eq_true c12; clear c12; obtain rfl := Option.some.inj H; have p264 : 0 ≤ (x5_1 : Int) := zd; have q264 : x5_1 < (l1.length : Int) := zd; obtain ⟨ad264, e264, hx264_0⟩ := Kd.at_int HR1.out x5_1 p264 q264; cases e264; replace p264 := eq_true p264; replace q264 := eq_true q264; have p265 : 0 ≤ (x6_3 : Int) := zd; have q265 : x6_3 < (l0.length : Int) := zd; obtain ⟨ad265, e265, hx265_0, hx265_1, hx265_2, hx265_3⟩ := at_T81 HR0.out x6_3 p265 q265; cases e265; replace p265 := eq_true p265; replace q265 := eq_true q265; have p266 : 0 ≤ (x6_3 : Int) := zd; have q266 : x6_3 < (l1.length : Int) := zd; obtain ⟨ad266, e266, hx266_0⟩ := Kd.at_int HR1.out x6_3 p266 q266; obtain rfl : ad264 = ad266 := (by injection e266); replace p266 := eq_true p266; replace q266 := eq_true q266; have p267 : 0 ≤ (x5_1 : Int) := zd; have q267 : x5_1 < (l0.length : Int) := zd; obtain ⟨ad267, e267, hx267_0, hx267_1, hx267_2, hx267_3⟩ := at_T81 HR0.out x5_1 p267 q267; obtain rfl : ad265 = ad267 := (by injection e267); replace p267 := eq_true p267; replace q267 := eq_true q267; have p268 : 0 ≤ (x6_3 : Int) := zd; have q268 : x6_3 < (l0.length : Int) := zd; obtain ⟨ad268, e268, hx268_0, hx268_1, hx268_2, hx268_3⟩ := at_T81 HR0.out x6_3 p268 q268; obtain rfl : ad265 = ad268 := (by injection e268); replace p268 := eq_true p268; replace q268 := eq_true q268; go_wp2
                    repeat (go_quiet (fail); try go_wp2)
                    go_ret; exact ⟨by first | rfl | (simp; done) | (simp [*]; done), by repeat (first | exact Drawn0.refl _ | apply Drawn0.step)⟩
                  · rw [if_neg c12] at H; have c12b0 : decide ((wrap64 ((wrap64 ((wrap64 ((rd l1 x6_3) + 1)) * ((rd_T81 l0 x5_1).f2))) + ((rd_T81 l0 x6_3).f2))) < (wrap64 ((rd l1 x5_1) * ((rd_T81 l0 x6_3).f2)))) = false := decide_eq_false c12; clear c12; have H' := Aside0.mk H; clear H; have p264 : 0 ≤ (x5_1 : Int) := zd; have q264 : x5_1 < (l1.length : Int) := zd; obtain ⟨ad264, e264, hx264_0⟩ := Kd.at_int HR1.out x5_1 p264 q264; cases e264; replace p264 := eq_true p264; replace q264 := eq_true q264; have p265 : 0 ≤ (x6_3 : Int) := zd; have q265 : x6_3 < (l0.length : Int) := zd; obtain ⟨ad265, e265, hx265_0, hx265_1, hx265_2, hx265_3⟩ := at_T81 HR0.out x6_3 p265 q265; cases e265; replace p265 := eq_true p265; replace q265 := eq_true q265; have p266 : 0 ≤ (x6_3 : Int) := zd; have q266 : x6_3 < (l1.length : Int) := zd; obtain ⟨ad266, e266, hx266_0⟩ := Kd.at_int HR1.out x6_3 p266 q266; obtain rfl : ad264 = ad266 := (by injection e266); replace p266 := eq_true p266; replace q266 := eq_true q266; have p267 : 0 ≤ (x5_1 : Int) := zd; have q267 : x5_1 < (l0.length : Int) := zd; obtain ⟨ad267, e267, hx267_0, hx267_1, hx267_2, hx267_3⟩ := at_T81 HR0.out x5_1 p267 q267; obtain rfl : ad265 = ad267 := (by injection e267); replace p267 := eq_true p267; replace q267 := eq_true q267; have p268 : 0 ≤ (x6_3 : Int) := zd; have q268 : x6_3 < (l0.length : Int) := zd; obtain ⟨ad268, e268, hx268_0, hx268_1, hx268_2, hx268_3⟩ := at_T81 HR0.out x6_3 p268 q268; obtain rfl : ad265 = ad268 := (by injection e268); replace p268 := eq_true p268; replace q268 := eq_true q268; go_wp2
                    repeat (go_quiet (fail); try go_wp2)
                    go_roundg k3
                    case measure => have := HK1.out; have := HJ2.out; have := HK3.out; omega
                    case rel => exact ⟨(wrap64 (x6_3 + 1)), zr, H', ⟨by have := HK1.out; have := HJ2.out; have := HK3.out; omega⟩, by repeat (first | exact Drawn0.refl _ | apply Drawn0.step)⟩
                · rw [if_neg c6] at H; have c6b0 := decide_eq_false c6; clear c6; have H' := Aside0.mk H; clear H; go_wp2
                  repeat (go_quiet (fail); try go_wp2)
                  go_roundg k3
                  case measure => have := HK1.out; have := HJ2.out; have := HK3.out; omega
                  case rel => exact ⟨(wrap64 (x5_1 + 1)), zr, H', ⟨by have := HK1.out; have := HJ2.out; have := HK3.out; omega⟩, by repeat (first | exact Drawn0.refl _ | apply Drawn0.step)⟩
          · replace c5 := Bool.eq_false_iff.mpr c5; subst c5; rw [if_neg (show ¬ (false = true) by decide)] at H; obtain rfl := Option.some.inj H; go_wp2
            repeat (go_quiet (fail); try go_wp2)
            go_ret; exact ⟨by first | rfl | (simp; done) | (simp [*]; done), by repeat (first | exact Drawn0.refl _ | apply Drawn0.step)⟩

/-! ### laws_FnExactIsFair: function 7 -/
def laws_FnExactIsFair.f (k : Nat) (l0 : List (S113)) (l1 : List Int) : Option (Bool) := if (l1.length : Int) > 1048576 then (some true) else ((laws_szMemberS.f l0 1048576).bind fun t292 => (if t292 < 0 then (some true) else ((laws_toMemberS.f k l0).bind fun t293 => ((laws_toIntS.f k l1).bind fun t296 => ((spec_IsFair.f k t293 t296).bind fun t299 => ((laws_toMemberS.f k l0).bind fun t300 => ((laws_toIntS.f k l1).bind fun t303 => ((impl_IsFair.f k t300 t303).bind fun t306 => (if (t306 != t299) = true then (some false) else ((laws_toMemberS.f k l0).bind fun t307 => ((laws_eqMemberS.f k t300 t307).bind fun t310 => (if t310 = true then ((laws_toIntS.f k l1).bind fun t311 => ((laws_eqIntS.f k t303 t311).bind fun t314 => (if t314 = true then (some true) else (some false)))) else (some false)))))))))))))
set_option maxHeartbeats 8000000 in
set_option maxRecDepth 100000 in
theorem laws_FnExactIsFair.calls (k : Nat) (A0 : Option Addr) (c0 : Nat) (l0 : List (S113)) (A1 : Option Addr) (c1 : Nat) (l1 : List Int) (r : Bool) (hT_ : r = true) (w : World) (hr0 : Kd.C k113 w A0 l0.length l0) (hc0 : l0.length ≤ c0) (hr1 : Kd.C (Kd.int .i64) w A1 l1.length l1) (hc1 : l1.length ≤ c1) (h : laws_FnExactIsFair.f k l0 l1 = some r) :
    Calls Try.prog 7 #[.slice A0 l0.length c0, .slice A1 l1.length c1] w fun e w' => e = .returned (.bool r) ∧ Below w.heap.size w w' := by
  have HR0 := Aside0.mk hr0; have HC0 := Aside0.mk hc0; clear hr0 hc0; have HR1 := Aside0.mk hr1; have HC1 := Aside0.mk hc1; clear hr1 hc1; have HB := Aside0.mk (Below.refl w.heap.size w); have H := h; clear h; unfold laws_FnExactIsFair.f at H
  by_cases c3 : (l1.length : Int) > 1048576
  · rw [if_pos c3] at H; have c3b0 : decide (1048576 < (l1.length : Int)) = true := decide_eq_true c3; have c3b1 : decide (1048576 < l1.length) = true := decide_eq_true (by omega); clear c3; obtain rfl := Option.some.inj H; go_enter Try.func7, Try.ntmps7; go_wp2; go_ret; exact ⟨by first | rfl | (simp [errW_none, errW_some] <;> rfl) | (simp [*, errW_none, errW_some] <;> rfl), zb⟩
  · rw [if_neg c3] at H; have c3b0 : decide (1048576 < (l1.length : Int)) = false := decide_eq_false c3; have c3b1 : decide (1048576 < l1.length) = false := decide_eq_false (by omega); clear c3; replace H := Option.bind_eq_some_iff.mp H; obtain ⟨t292, A40, H⟩ := H; have A4 := Aside0.mk A40; clear A40
    by_cases c5 : t292 < 0
    · rw [if_pos c5] at H; have c5b0 := decide_eq_true c5; clear c5; obtain rfl := Option.some.inj H; go_enter Try.func7, Try.ntmps7
      go_wp2_with (first | ((with_reducible refine gate_callee (f := 40) rfl ?_); refine zgl 15 Try.func40 #[.slice A0 l0.length c0, .int .i64 1048576] ?_; (with_reducible refine (laws_szMemberS.calls _ _ l0 1048576 t292 _ ?side1 ?side2 A4.out).mono ?_); (case side1 => exact zCx HR0.out); (case side2 => exact HC0.out); rintro e w' ⟨rfl, ⟨nd, rfl⟩⟩; refine ⟨_, rfl, ?_⟩))
      go_ret; exact ⟨by first | rfl | (simp [errW_none, errW_some] <;> rfl) | (simp [*, errW_none, errW_some] <;> rfl), zb⟩
    · rw [if_neg c5] at H; have c5b0 := decide_eq_false c5; clear c5; replace H := Option.bind_eq_some_iff.mp H; obtain ⟨t293, A60, H⟩ := H; have A6 := Aside0.mk A60; clear A60; replace H := Option.bind_eq_some_iff.mp H; obtain ⟨t296, A70, H⟩ := H; have A7 := Aside0.mk A70; clear A70; replace H := Option.bind_eq_some_iff.mp H; obtain ⟨t299, A80, H⟩ := H; have A8 := Aside0.mk A80; clear A80; replace H := Option.bind_eq_some_iff.mp H; obtain ⟨t300, A90, H⟩ := H; have A9 := Aside0.mk A90; clear A90; replace H := Option.bind_eq_some_iff.mp H; obtain ⟨t303, A100, H⟩ := H; have A10 := Aside0.mk A100; clear A100; replace H := Option.bind_eq_some_iff.mp H; obtain ⟨t306, A110, H⟩ := H; have A11 := Aside0.mk A110; clear A110
      by_cases c12 : (t306 != t299) = true
      · rw [if_pos c12] at H; have c12b0 : (t306 != t299) = true := c12; (try (have c12b1 : decide (t306 = t299) = false := by simpa using c12)); (try (have c12b2 : (t306 == t299) = false := by simpa using c12)); (try (have c12b3 : ¬ (t306 = t299) := by simpa using c12)); clear c12; obtain rfl := Option.some.inj H; exact absurd hT_ (by decide)
      · rw [if_neg c12] at H
        have c12b0 : (t306 != t299) = false := by simpa using c12
        (try (have c12b1 : decide (t306 = t299) = true := by simpa using c12)); (try (have c12b2 : (t306 == t299) = true := by simpa using c12)); clear c12; replace H := Option.bind_eq_some_iff.mp H; obtain ⟨t307, A220, H⟩ := H; have A22 := Aside0.mk A220; clear A220; replace H := Option.bind_eq_some_iff.mp H; obtain ⟨t310, A230, H⟩ := H; have A23 := Aside0.mk A230; clear A230
        by_cases c24 : t310 = true
        · subst c24; rw [if_pos rfl] at H; replace H := Option.bind_eq_some_iff.mp H; obtain ⟨t311, A250, H⟩ := H; have A25 := Aside0.mk A250; clear A250; replace H := Option.bind_eq_some_iff.mp H; obtain ⟨t314, A260, H⟩ := H; have A26 := Aside0.mk A260; clear A260
          by_cases c27 : t314 = true
          · subst c27; rw [if_pos rfl] at H; obtain rfl := Option.some.inj H; go_enter Try.func7, Try.ntmps7
            go_wp2_with (first | ((with_reducible refine gate_callee (f := 40) rfl ?_); refine zgl 15 Try.func40 #[.slice A0 l0.length c0, .int .i64 1048576] ?_; (with_reducible refine (laws_szMemberS.calls _ _ l0 1048576 t292 _ ?side1 ?side2 A4.out).mono ?_); (case side1 => exact zCx HR0.out); (case side2 => exact HC0.out); rintro e w' ⟨rfl, ⟨nd, rfl⟩⟩; refine ⟨_, rfl, ?_⟩) | ((with_reducible refine gate_callee (f := 42) rfl ?_); refine zgl 19 Try.func42 #[.slice A0 l0.length c0] ?_; (with_reducible refine (laws_toMemberS.calls k _ _ l0 t293 _ ?side1 ?side2 A6.out).mono ?_); (case side1 => exact zCx HR0.out); (case side2 => exact HC0.out); rintro e w28 ⟨v294, rfl, ho0, hb⟩; refine ⟨_, rfl, ?_⟩; have HO295 := Aside0.mk (Kd.R_lower ho0 (below_size zb)); replace HB := zbs hb; (try clear hb); (try clear hb2); (try clear hk); (try clear hi); (try clear ho0)) | ((with_reducible refine gate_callee (f := 26) rfl ?_); refine zgl 21 Try.func26 #[.slice A1 l1.length c1] ?_; (with_reducible refine (laws_toIntS.calls k _ _ l1 t296 _ ?side1 ?side2 A7.out).mono ?_); (case side1 => exact zCb HR1); (case side2 => exact HC1.out); rintro e w29 ⟨v297, rfl, ho0, hb⟩; refine ⟨_, rfl, ?_⟩; replace HO295 := zRb HO295 hb; have HO298 := Aside0.mk (Kd.R_lower ho0 (below_size zb)); replace HB := zbs hb; (try clear hb); (try clear hb2); (try clear hk); (try clear hi); (try clear ho0); obtain ⟨Ao30, co30, eo30⟩ := Kd.R_slice HO295.out; subst eo30; obtain ⟨Ao31, co31, eo31⟩ := Kd.R_slice HO298.out; subst eo31) | ((with_reducible refine gate_callee (f := 41) rfl ?_); refine zgl 22 Try.func41 #[.slice Ao30 t293.length co30, .slice Ao31 t296.length co31] ?_; (with_reducible refine (spec_IsFair.calls k _ _ t293 _ _ t296 t299 _ ?side1 ?side2 ?side3 ?side4 A8.out).mono ?_); (case side1 => exact zCx (Kd.R_reads' HO295.out).2.2); (case side2 => exact (Kd.R_reads' HO295.out).2.1); (case side3 => exact zCx (Kd.R_reads' HO298.out).2.2); (case side4 => exact (Kd.R_reads' HO298.out).2.1); rintro e w' ⟨rfl, ⟨nd, rfl⟩⟩; refine ⟨_, rfl, ?_⟩) | ((with_reducible refine gate_callee (f := 42) rfl ?_); refine zgl 24 Try.func42 #[.slice A0 l0.length c0] ?_; (with_reducible refine (laws_toMemberS.calls k _ _ l0 t300 _ ?side1 ?side2 A9.out).mono ?_); (case side1 => exact zCb HR0); (case side2 => exact HC0.out); rintro e w32 ⟨v301, rfl, ho0, hb⟩; refine ⟨_, rfl, ?_⟩; replace HO298 := zRb HO298 hb; have HO302 := Aside0.mk (Kd.R_lower (Kd.R_new' ho0 (Kd.R_lt (zR HO295))) (below_size zb)); replace HO295 := Aside0.mk (Kd.R_elder' (zR HO295) (Kd.R_base ho0) hb); replace HB := zbs hb; (try clear hb); (try clear hb2); (try clear hk); (try clear hi); (try clear ho0)) | ((with_reducible refine gate_callee (f := 26) rfl ?_); refine zgl 26 Try.func26 #[.slice A1 l1.length c1] ?_; (with_reducible refine (laws_toIntS.calls k _ _ l1 t303 _ ?side1 ?side2 A10.out).mono ?_); (case side1 => exact zCb HR1); (case side2 => exact HC1.out); rintro e w33 ⟨v304, rfl, ho0, hb⟩; refine ⟨_, rfl, ?_⟩; replace HO295 := zRb HO295 hb; replace HO302 := zRb HO302 hb; have HO305 := Aside0.mk (Kd.R_lower (Kd.R_new' ho0 (Kd.R_lt (zR HO298))) (below_size zb)); replace HO298 := Aside0.mk (Kd.R_elder' (zR HO298) (Kd.R_base ho0) hb); replace HB := zbs hb; (try clear hb); (try clear hb2); (try clear hk); (try clear hi); (try clear ho0); obtain ⟨Ao34, co34, eo34⟩ := Kd.R_slice HO302.out; subst eo34; obtain ⟨Ao35, co35, eo35⟩ := Kd.R_slice HO305.out; subst eo35) | ((with_reducible refine gate_callee (f := 43) rfl ?_); refine zgl 29 Try.func43 #[.slice Ao34 t300.length co34, .slice Ao35 t303.length co35] ?_; (with_reducible refine (impl_IsFair.calls k _ _ t300 _ _ t303 t306 _ ?side1 ?side2 ?side3 ?side4 A11.out).mono ?_); (case side1 => exact zCx (Kd.R_reads' HO302.out).2.2); (case side2 => exact (Kd.R_reads' HO302.out).2.1); (case side3 => exact zCx (Kd.R_reads' HO305.out).2.2); (case side4 => exact (Kd.R_reads' HO305.out).2.1); rintro e w36 ⟨rfl, hb⟩; refine ⟨_, rfl, ?_⟩; replace HO295 := zRb HO295 hb; replace HO298 := zRb HO298 hb; replace HO302 := zRb HO302 hb; replace HO305 := zRb HO305 hb; replace HB := zbs hb; (try clear hb); (try clear hb2); (try clear hk); (try clear hi)) | ((with_reducible refine gate_callee (f := 42) rfl ?_); refine zgl 35 Try.func42 #[.slice A0 l0.length c0] ?_; (with_reducible refine (laws_toMemberS.calls k _ _ l0 t307 _ ?side1 ?side2 A22.out).mono ?_); (case side1 => exact zCb HR0); (case side2 => exact HC0.out); rintro e w37 ⟨v308, rfl, ho0, hb⟩; refine ⟨_, rfl, ?_⟩; replace HO298 := zRb HO298 hb; replace HO305 := zRb HO305 hb; have HO309 := Aside0.mk (Kd.R_lower (Kd.R_new' (Kd.R_new' ho0 (Kd.R_lt (zR HO295))) (Kd.R_lt (zR HO302))) (below_size zb)); replace HO295 := Aside0.mk (Kd.R_elder' (zR HO295) (Kd.R_base ho0) hb); replace HO302 := Aside0.mk (Kd.R_elder' (zR HO302) (Kd.R_base ho0) hb); replace HB := zbs hb; (try clear hb); (try clear hb2); (try clear hk); (try clear hi); (try clear ho0); obtain ⟨Ao38, co38, eo38⟩ := Kd.R_slice HO309.out; subst eo38) | ((with_reducible refine gate_callee (f := 44) rfl ?_); refine zgl 36 Try.func44 #[.slice Ao34 t300.length co34, .slice Ao38 t307.length co38] ?_; (with_reducible refine (laws_eqMemberS.calls k _ _ t300 _ _ t307 true _ ?side1 ?side2 ?side3 ?side4 A23.out).mono ?_); (case side1 => exact zCx (Kd.R_reads' HO302.out).2.2); (case side2 => exact (Kd.R_reads' HO302.out).2.1); (case side3 => exact zCx (Kd.R_reads' HO309.out).2.2); (case side4 => exact (Kd.R_reads' HO309.out).2.1); rintro e w39 ⟨rfl, hb⟩; refine ⟨_, rfl, ?_⟩; replace HO295 := zRb HO295 hb; replace HO298 := zRb HO298 hb; replace HO302 := zRb HO302 hb; replace HO305 := zRb HO305 hb; replace HO309 := zRb HO309 hb; replace HB := zbs hb; (try clear hb); (try clear hb2); (try clear hk); (try clear hi)) | ((with_reducible refine gate_callee (f := 26) rfl ?_); refine zgl 40 Try.func26 #[.slice A1 l1.length c1] ?_; (with_reducible refine (laws_toIntS.calls k _ _ l1 t311 _ ?side1 ?side2 A25.out).mono ?_); (case side1 => exact zCb HR1); (case side2 => exact HC1.out); rintro e w40 ⟨v312, rfl, ho0, hb⟩; refine ⟨_, rfl, ?_⟩; replace HO295 := zRb HO295 hb; replace HO302 := zRb HO302 hb; replace HO309 := zRb HO309 hb; have HO313 := Aside0.mk (Kd.R_lower (Kd.R_new' (Kd.R_new' ho0 (Kd.R_lt (zR HO298))) (Kd.R_lt (zR HO305))) (below_size zb)); replace HO298 := Aside0.mk (Kd.R_elder' (zR HO298) (Kd.R_base ho0) hb); replace HO305 := Aside0.mk (Kd.R_elder' (zR HO305) (Kd.R_base ho0) hb); replace HB := zbs hb; (try clear hb); (try clear hb2); (try clear hk); (try clear hi); (try clear ho0); obtain ⟨Ao41, co41, eo41⟩ := Kd.R_slice HO313.out; subst eo41) | ((with_reducible refine gate_callee (f := 28) rfl ?_); refine zgl 41 Try.func28 #[.slice Ao35 t303.length co35, .slice Ao41 t311.length co41] ?_; (with_reducible refine (laws_eqIntS.calls k _ _ t303 _ _ t311 true _ ?side1 ?side2 ?side3 ?side4 A26.out).mono ?_); (case side1 => exact zCx (Kd.R_reads' HO305.out).2.2); (case side2 => exact (Kd.R_reads' HO305.out).2.1); (case side3 => exact zCx (Kd.R_reads' HO313.out).2.2); (case side4 => exact (Kd.R_reads' HO313.out).2.1); rintro e w' ⟨rfl, ⟨nd, rfl⟩⟩; refine ⟨_, rfl, ?_⟩))
            go_ret; exact ⟨by first | rfl | (simp [errW_none, errW_some] <;> rfl) | (simp [*, errW_none, errW_some] <;> rfl), zb⟩
          · replace c27 := Bool.eq_false_iff.mpr c27; subst c27; rw [if_neg (show ¬ (false = true) by decide)] at H; obtain rfl := Option.some.inj H; exact absurd hT_ (by decide)
        · replace c24 := Bool.eq_false_iff.mpr c24; subst c24; rw [if_neg (show ¬ (false = true) by decide)] at H; obtain rfl := Option.some.inj H; exact absurd hT_ (by decide)
end Go.Proofs.Ytcokbhkjfdddkaa.Q
