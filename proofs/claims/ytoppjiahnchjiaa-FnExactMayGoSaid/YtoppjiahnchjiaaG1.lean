/- Walks of 19 functions of the program: each comes to what a plain function tells. -/
import Derived.Test.YtoppjiahnchjiaaG0
namespace Go.Proofs.Ytoppjiahnchjiaa.Q
open Go.RowKit Go.Proofs.YtoppjiahnchjiaaW.PrintWords Go.Proofs.YtoppjiahnchjiaaW.PrintLast Go.Proofs.YtoppjiahnchjiaaW.PrintMore Go.Proofs.YtoppjiahnchjiaaW.Zip
attribute [local go_sem] max2_int min2_int max_two min_two max_three min_three max_four min_four   -- for this text's walks alone
set_option linter.unusedVariables false
set_option maxHeartbeats 8000000
set_option maxRecDepth 100000
set_option linter.unusedSimpArgs false

def laws_szIntS.f (l0 : List Int) (a1 : Int) : Option (Int) := if (wrap64 (a1 - (l0.length : Int))) < 0 then (some (-1)) else (some (wrap64 (a1 - (l0.length : Int))))
theorem laws_szIntS.calls (A0 : Option Addr) (c0 : Nat) (l0 : List Int) (a1 : Int) (r : Int) (w : World) (aC : Kd.C (Kd.int .i64) w A0 l0.length l0) (aD : l0.length ≤ c0) (h : laws_szIntS.f l0 a1 = some r) :
  Calls Try.prog 25 #[.slice A0 l0.length c0, .int .i64 a1] w fun e w' => e = .returned (.int .i64 r) ∧ Drawn0 w w' := by
 have aJ := zA aC; have aK := zA aD; clear aC aD; have H := h; clear h; unfold laws_szIntS.f at H
 by_cases c3 : (wrap64 (a1 - (l0.length : Int))) < 0
 ·rw [if_pos c3] at H; have aE := decide_eq_true c3; clear c3; obtain rfl := zI H; go_enter Try.func25, Try.ntmps25; go_wp2; go_ret; exact ⟨by first | rfl | (simp; done) | (simp [*]; done), by repeat (first | exact Drawn0.refl _ | apply Drawn0.step)⟩
 ·rw [if_neg c3] at H; have aE := decide_eq_false c3; clear c3; obtain rfl := zI H; go_enter Try.func25, Try.ntmps25; go_wp2; go_ret; exact ⟨by first | rfl | (simp; done) | (simp [*]; done), by repeat (first | exact Drawn0.refl _ | apply Drawn0.step)⟩

def laws_szLand.f (a0_0 : Int) (a0_1 : Int) (l0_2 : List Int) (a1 : Int) : Option (Int) := (laws_szIntS.f l0_2 a1).bind fun t102 => (if t102 < 0 then (some (-1)) else (some t102))
theorem laws_szLand.calls (aH : Int) (aG : Int) (aE : Option Addr) (aD : Nat) (aA : List Int) (a1 : Int) (r : Int) (w : World) (aJ : Kd.C (Kd.int .i64) w aE aA.length aA) (aK : aA.length ≤ aD) (h : laws_szLand.f aH aG aA a1 = some r) :
  Calls Try.prog 7 #[.agg #[.int .i64 aH, .int .i64 aG, .slice aE aA.length aD], .int .i64 a1] w fun e w' => e = .returned (.int .i64 r) ∧ Below w.heap.size w w' := by
 have hu24 := Try.underlying24; have aM := zA aJ; have aN := zA aK; clear aJ aK; have HB := zA (Below.refl w.heap.size w); have H := h; clear h; unfold laws_szLand.f at H; obtain ⟨aI, A3, H⟩ := zB H
 by_cases c4 : aI < 0
 ·rw [if_pos c4] at H; have aU := decide_eq_true c4; clear c4; obtain rfl := zI H; go_enter Try.func7, Try.ntmps7
  go_wp2_with (first | ((with_reducible refine gate_dst (N := 2) rfl ?_); refine zbx 2 #[.int .i64 aH, .int .i64 aG, .slice aE aA.length aD] 24 ?_; intro aR hg w5 hbox hb; have aC := zA (hbox); have aT := zga (w := w) hg; replace HB := zbs hb; clear hb hbox hg; obtain ⟨bG, bF, bE⟩ := zc3 aC; obtain ⟨bA, aZ, aY⟩ := zf3 aC) | ((with_reducible refine gate_callee (f := 25) rfl ?_); refine zgl 8 Try.func25 #[.slice aE aA.length aD, .int .i64 a1] ?_; (with_reducible refine (laws_szIntS.calls _ _ aA a1 aI _ ?side1 ?side2 A3.out).mono ?_); (case side1 => exact zCb aM); (case side2 => exact aN.out); rintro e w' ⟨rfl, ⟨nd, rfl⟩⟩; refine ⟨_, rfl, ?_⟩))
  go_ret; exact ⟨zE, zb⟩
 ·rw [if_neg c4] at H; have aU := decide_eq_false c4; clear c4; obtain rfl := zI H; go_enter Try.func7, Try.ntmps7
  go_wp2_with (first | ((with_reducible refine gate_dst (N := 2) rfl ?_); refine zbx 2 #[.int .i64 aH, .int .i64 aG, .slice aE aA.length aD] 24 ?_; intro aR hg w7 hbox hb; have aC := zA (hbox); have aT := zga (w := w) hg; replace HB := zbs hb; clear hb hbox hg; obtain ⟨bD, bC, bB⟩ := zc3 aC; obtain ⟨aX, aW, aV⟩ := zf3 aC) | ((with_reducible refine gate_callee (f := 25) rfl ?_); refine zgl 8 Try.func25 #[.slice aE aA.length aD, .int .i64 a1] ?_; (with_reducible refine (laws_szIntS.calls _ _ aA a1 aI _ ?side1 ?side2 A3.out).mono ?_); (case side1 => exact zCb aM); (case side2 => exact aN.out); rintro e w' ⟨rfl, ⟨nd, rfl⟩⟩; refine ⟨_, rfl, ?_⟩))
  go_ret; exact ⟨zE, zb⟩

def laws_szDepotS.f (l0 : List (S60)) (a1 : Int) : Option (Int) := if (wrap64 (a1 - (l0.length : Int))) < 0 then (some (-1)) else (some (wrap64 (a1 - (l0.length : Int))))
theorem laws_szDepotS.calls (A0 : Option Addr) (c0 : Nat) (l0 : List (S60)) (a1 : Int) (r : Int) (w : World) (aC : Kd.C k60 w A0 l0.length l0) (aD : l0.length ≤ c0) (h : laws_szDepotS.f l0 a1 = some r) :
  Calls Try.prog 8 #[.slice A0 l0.length c0, .int .i64 a1] w fun e w' => e = .returned (.int .i64 r) ∧ Drawn0 w w' := by
 have aJ := zA aC; have aK := zA aD; clear aC aD; have H := h; clear h; unfold laws_szDepotS.f at H
 by_cases c3 : (wrap64 (a1 - (l0.length : Int))) < 0
 ·rw [if_pos c3] at H; have aE := decide_eq_true c3; clear c3; obtain rfl := zI H; go_enter Try.func8, Try.ntmps8; go_wp2; go_ret; exact ⟨by first | rfl | (simp; done) | (simp [*]; done), by repeat (first | exact Drawn0.refl _ | apply Drawn0.step)⟩
 ·rw [if_neg c3] at H; have aE := decide_eq_false c3; clear c3; obtain rfl := zI H; go_enter Try.func8, Try.ntmps8; go_wp2; go_ret; exact ⟨by first | rfl | (simp; done) | (simp [*]; done), by repeat (first | exact Drawn0.refl _ | apply Drawn0.step)⟩

def laws_szMemberS.f (l0 : List (S87)) (a1 : Int) : Option (Int) := if (wrap64 (a1 - (l0.length : Int))) < 0 then (some (-1)) else (some (wrap64 (a1 - (l0.length : Int))))
theorem laws_szMemberS.calls (A0 : Option Addr) (c0 : Nat) (l0 : List (S87)) (a1 : Int) (r : Int) (w : World) (aC : Kd.C k87 w A0 l0.length l0) (aD : l0.length ≤ c0) (h : laws_szMemberS.f l0 a1 = some r) :
  Calls Try.prog 26 #[.slice A0 l0.length c0, .int .i64 a1] w fun e w' => e = .returned (.int .i64 r) ∧ Drawn0 w w' := by
 have aJ := zA aC; have aK := zA aD; clear aC aD; have H := h; clear h; unfold laws_szMemberS.f at H
 by_cases c3 : (wrap64 (a1 - (l0.length : Int))) < 0
 ·rw [if_pos c3] at H; have aE := decide_eq_true c3; clear c3; obtain rfl := zI H; go_enter Try.func26, Try.ntmps26; go_wp2; go_ret; exact ⟨by first | rfl | (simp; done) | (simp [*]; done), by repeat (first | exact Drawn0.refl _ | apply Drawn0.step)⟩
 ·rw [if_neg c3] at H; have aE := decide_eq_false c3; clear c3; obtain rfl := zI H; go_enter Try.func26, Try.ntmps26; go_wp2; go_ret; exact ⟨by first | rfl | (simp; done) | (simp [*]; done), by repeat (first | exact Drawn0.refl _ | apply Drawn0.step)⟩

def laws_szBoolS.f (l0 : List Bool) (a1 : Int) : Option (Int) := if (wrap64 (a1 - (l0.length : Int))) < 0 then (some (-1)) else (some (wrap64 (a1 - (l0.length : Int))))
theorem laws_szBoolS.calls (A0 : Option Addr) (c0 : Nat) (l0 : List Bool) (a1 : Int) (r : Int) (w : World) (aC : Kd.C Kd.bool w A0 l0.length l0) (aD : l0.length ≤ c0) (h : laws_szBoolS.f l0 a1 = some r) :
  Calls Try.prog 27 #[.slice A0 l0.length c0, .int .i64 a1] w fun e w' => e = .returned (.int .i64 r) ∧ Drawn0 w w' := by
 have aJ := zA aC; have aK := zA aD; clear aC aD; have H := h; clear h; unfold laws_szBoolS.f at H
 by_cases c3 : (wrap64 (a1 - (l0.length : Int))) < 0
 ·rw [if_pos c3] at H; have aE := decide_eq_true c3; clear c3; obtain rfl := zI H; go_enter Try.func27, Try.ntmps27; go_wp2; go_ret; exact ⟨by first | rfl | (simp; done) | (simp [*]; done), by repeat (first | exact Drawn0.refl _ | apply Drawn0.step)⟩
 ·rw [if_neg c3] at H; have aE := decide_eq_false c3; clear c3; obtain rfl := zI H; go_enter Try.func27, Try.ntmps27; go_wp2; go_ret; exact ⟨by first | rfl | (simp; done) | (simp [*]; done), by repeat (first | exact Drawn0.refl _ | apply Drawn0.step)⟩

def laws_szParty.f (a0_0 : Int) (a0_1 : Int) (l0_2 : List (S87)) (l0_3 : List Bool) (a1 : Int) : Option (Int) := (laws_szMemberS.f l0_2 a1).bind fun t104 => (if t104 < 0 then (some (-1)) else ((laws_szBoolS.f l0_3 t104).bind fun t105 => (if t105 < 0 then (some (-1)) else (some t105))))
theorem laws_szParty.calls (aM : Int) (aK : Int) (aH : Option Addr) (aG : Nat) (aA : List (S87)) (aJ : Option Addr) (aI : Nat) (aC : List Bool) (a1 : Int) (r : Int) (w : World) (aV : Kd.C k87 w aH aA.length aA) (aX : aA.length ≤ aG) (aU : Kd.C Kd.bool w aJ aC.length aC) (aW : aC.length ≤ aI) (h : laws_szParty.f aM aK aA aC a1 = some r) :
  Calls Try.prog 9 #[.agg #[.int .i64 aM, .int .i64 aK, .slice aH aA.length aG, .slice aJ aC.length aI], .int .i64 a1] w fun e w' => e = .returned (.int .i64 r) ∧ Below w.heap.size w w' := by
 have hu31 := Try.underlying31; have aN := zA aV; have aQ := zA aX; clear aV aX; have aZ := zA aU; have bA := zA aW; clear aU aW; have HB := zA (Below.refl w.heap.size w); have H := h; clear h; unfold laws_szParty.f at H; obtain ⟨aE, A3, H⟩ := zB H
 by_cases c4 : aE < 0
 ·rw [if_pos c4] at H; have bD := decide_eq_true c4; clear c4; obtain rfl := zI H; go_enter Try.func9, Try.ntmps9
  go_wp2_with (first | ((with_reducible refine gate_dst (N := 2) rfl ?_); refine zbx 2 #[.int .i64 aM, .int .i64 aK, .slice aH aA.length aG, .slice aJ aC.length aI] 31 ?_; intro aY hg w5 hbox hb; have aD := zA (hbox); have bB := zga (w := w) hg; replace HB := zbs hb; clear hb hbox hg; obtain ⟨cC, cB, cA, bZ⟩ := zc4 aD; obtain ⟨bY, bX, bW, bV⟩ := zf4 aD) | ((with_reducible refine gate_callee (f := 26) rfl ?_); refine zgl 8 Try.func26 #[.slice aH aA.length aG, .int .i64 a1] ?_; (with_reducible refine (laws_szMemberS.calls _ _ aA a1 aE _ ?side1 ?side2 A3.out).mono ?_); (case side1 => exact zCb aN); (case side2 => exact aQ.out); rintro e w' ⟨rfl, ⟨nd, rfl⟩⟩; refine ⟨_, rfl, ?_⟩))
  go_ret; exact ⟨zE, zb⟩
 ·rw [if_neg c4] at H; have bD := decide_eq_false c4; clear c4; obtain ⟨aT, A7, H⟩ := zB H
  by_cases c8 : aT < 0
  ·rw [if_pos c8] at H; have bC := decide_eq_true c8; clear c8; obtain rfl := zI H; go_enter Try.func9, Try.ntmps9
   go_wp2_with (first | ((with_reducible refine gate_dst (N := 2) rfl ?_); refine zbx 2 #[.int .i64 aM, .int .i64 aK, .slice aH aA.length aG, .slice aJ aC.length aI] 31 ?_; intro aY hg w9 hbox hb; have aD := zA (hbox); have bB := zga (w := w) hg; replace HB := zbs hb; clear hb hbox hg; obtain ⟨bU, bT, bS, bR⟩ := zc4 aD; obtain ⟨bM, bL, bK, bJ⟩ := zf4 aD) | ((with_reducible refine gate_callee (f := 26) rfl ?_); refine zgl 8 Try.func26 #[.slice aH aA.length aG, .int .i64 a1] ?_; (with_reducible refine (laws_szMemberS.calls _ _ aA a1 aE _ ?side1 ?side2 A3.out).mono ?_); (case side1 => exact zCb aN); (case side2 => exact aQ.out); rintro e w' ⟨rfl, ⟨nd, rfl⟩⟩; refine ⟨_, rfl, ?_⟩) | ((with_reducible refine gate_callee (f := 27) rfl ?_); refine zgl 14 Try.func27 #[.slice aJ aC.length aI, .int .i64 aE] ?_; (with_reducible refine (laws_szBoolS.calls _ _ aC aE aT _ ?side1 ?side2 A7.out).mono ?_); (case side1 => exact zCb aZ); (case side2 => exact bA.out); rintro e w' ⟨rfl, ⟨nd, rfl⟩⟩; refine ⟨_, rfl, ?_⟩))
   go_ret; exact ⟨zE, zb⟩
  ·rw [if_neg c8] at H; have bC := decide_eq_false c8; clear c8; obtain rfl := zI H; go_enter Try.func9, Try.ntmps9
   go_wp2_with (first | ((with_reducible refine gate_dst (N := 2) rfl ?_); refine zbx 2 #[.int .i64 aM, .int .i64 aK, .slice aH aA.length aG, .slice aJ aC.length aI] 31 ?_; intro aY hg cE hbox hb; have aD := zA (hbox); have bB := zga (w := w) hg; replace HB := zbs hb; clear hb hbox hg; obtain ⟨bQ, bP, bO, bN⟩ := zc4 aD; obtain ⟨bI, bH, bG, bF⟩ := zf4 aD) | ((with_reducible refine gate_callee (f := 26) rfl ?_); refine zgl 8 Try.func26 #[.slice aH aA.length aG, .int .i64 a1] ?_; (with_reducible refine (laws_szMemberS.calls _ _ aA a1 aE _ ?side1 ?side2 A3.out).mono ?_); (case side1 => exact zCb aN); (case side2 => exact aQ.out); rintro e w' ⟨rfl, ⟨nd, rfl⟩⟩; refine ⟨_, rfl, ?_⟩) | ((with_reducible refine gate_callee (f := 27) rfl ?_); refine zgl 14 Try.func27 #[.slice aJ aC.length aI, .int .i64 aE] ?_; (with_reducible refine (laws_szBoolS.calls _ _ aC aE aT _ ?side1 ?side2 A7.out).mono ?_); (case side1 => exact zCb aZ); (case side2 => exact bA.out); rintro e w' ⟨rfl, ⟨nd, rfl⟩⟩; refine ⟨_, rfl, ?_⟩))
   go_ret; exact ⟨zE, zb⟩

def spec_l1In.f (a0 : Int) (a1 : Int) (a2 : Int) : Option (Bool) := if a0 ≥ a1 then (some (decide (a0 ≤ a2))) else (some false)
theorem spec_l1In.calls (a0 : Int) (a1 : Int) (a2 : Int) (r : Bool) (w : World) (h : spec_l1In.f a0 a1 a2 = some r) :
  Calls Try.prog 79 #[.int .i64 a0, .int .i64 a1, .int .i64 a2] w fun e w' => e = .returned (.bool r) ∧ Drawn0 w w' := by
 have H := h; clear h; unfold spec_l1In.f at H
 by_cases c4 : a0 ≥ a1
 ·rw [if_pos c4] at H; have aD : decide (a1 ≤ a0) = true := decide_eq_true c4; clear c4; obtain rfl := zI H; go_enter Try.func79, Try.ntmps79; go_wp2; go_ret; exact ⟨by first | rfl | (simp; done) | (simp [*]; done), by repeat (first | exact Drawn0.refl _ | apply Drawn0.step)⟩
 ·rw [if_neg c4] at H; have aD : decide (a1 ≤ a0) = false := decide_eq_false c4; clear c4; obtain rfl := zI H; go_enter Try.func79, Try.ntmps79; go_wp2; go_ret; exact ⟨by first | rfl | (simp; done) | (simp [*]; done), by repeat (first | exact Drawn0.refl _ | apply Drawn0.step)⟩

def spec_IsRule.f (a0_0 : Int) (a0_1 : Int) : Option (Bool) := (spec_l1In.f a0_1 1 10).bind fun t107 => (if t107 = true then ((spec_l1In.f a0_0 0 (wrap64 (a0_1 - 1))).bind fun t108 => (some t108)) else (some false))
theorem spec_IsRule.calls (aD : Int) (aA : Int) (r : Bool) (w : World) (h : spec_IsRule.f aD aA = some r) :
  Calls Try.prog 47 #[.agg #[.int .i64 aD, .int .i64 aA]] w fun e w' => e = .returned (.bool r) ∧ Below w.heap.size w w' := by
 have hu38 := Try.underlying38; have HB := zA (Below.refl w.heap.size w); have H := h; clear h; unfold spec_IsRule.f at H; obtain ⟨aJ, A2, H⟩ := zB H
 by_cases c3 : aJ = true
 ·subst c3; rw [if_pos rfl] at H; obtain ⟨aI, A4, H⟩ := zB H; obtain rfl := zI H; go_enter Try.func47, Try.ntmps47
  go_wp2_with (first | ((with_reducible refine gate_dst (N := 1) rfl ?_); refine zbx 1 #[.int .i64 aD, .int .i64 aA] 38 ?_; intro aE hg w5 hbox hb; have aC := zA (hbox); have aH := zga (w := w) hg; replace HB := zbs hb; clear hb hbox hg; obtain ⟨aV, aU⟩ := zc2 aC; obtain ⟨aQ, aN⟩ := zf2 aC) | ((with_reducible refine gate_callee (f := 79) rfl ?_); refine zgl 5 Try.func79 #[.int .i64 aA, .int .i64 1, .int .i64 10] ?_; (with_reducible refine (spec_l1In.calls aA 1 10 true _ A2.out).mono ?_); rintro e w' ⟨rfl, ⟨nd, rfl⟩⟩; refine ⟨_, rfl, ?_⟩) | (go_at_call 79; (with_reducible refine (spec_l1In.calls aD 0 (wrap64 (aA - 1)) aI _ A4.out).mono ?_); rintro e w' ⟨rfl, ⟨nd, rfl⟩⟩))
  go_ret; exact ⟨zE, zb⟩
 ·replace c3 := Bool.eq_false_iff.mpr c3; subst c3; rw [if_neg zNo] at H; obtain rfl := zI H; go_enter Try.func47, Try.ntmps47
  go_wp2_with (first | ((with_reducible refine gate_dst (N := 1) rfl ?_); refine zbx 1 #[.int .i64 aD, .int .i64 aA] 38 ?_; intro aE hg w7 hbox hb; have aC := zA (hbox); have aH := zga (w := w) hg; replace HB := zbs hb; clear hb hbox hg; obtain ⟨aT, aR⟩ := zc2 aC; obtain ⟨aM, aK⟩ := zf2 aC) | ((with_reducible refine gate_callee (f := 79) rfl ?_); refine zgl 5 Try.func79 #[.int .i64 aA, .int .i64 1, .int .i64 10] ?_; (with_reducible refine (spec_l1In.calls aA 1 10 false _ A2.out).mono ?_); rintro e w' ⟨rfl, ⟨nd, rfl⟩⟩; refine ⟨_, rfl, ?_⟩))
  go_ret; exact ⟨zE, zb⟩

def spec_CountStorms.l0 : Nat → List Bool → Int → Int → Option (Int)
  | 0, _, _, _ => none
  | k + 1, x0, x3, x4 => if x4 < (x0.length : Int) then (if 0 ≤ x4 then (if rdOf false x0 x4 = true then (spec_CountStorms.l0 k x0 (wrap64 (x3 + 1)) (wrap64 (x4 + 1))) else (spec_CountStorms.l0 k x0 x3 (wrap64 (x4 + 1)))) else (none)) else (some x3)
def spec_CountStorms.f (k : Nat) (l0 : List Bool) : Option (Int) := spec_CountStorms.l0 k l0 0 0
theorem spec_CountStorms.calls (k : Nat) (A0 : Option Addr) (c0 : Nat) (l0 : List Bool) (r : Int) (w : World) (aG : Kd.C Kd.bool w A0 l0.length l0) (aH : l0.length ≤ c0) (h : spec_CountStorms.f k l0 = some r) :
  Calls Try.prog 65 #[.slice A0 l0.length c0] w fun e w' => e = .returned (.int .i64 r) ∧ Drawn0 w w' := by
 have aI := zA aG; have aQ := zA aH; clear aG aH; have H := h; clear h; unfold spec_CountStorms.f at H; have H' := zA H; clear H; go_enter Try.func65, Try.ntmps65; go_wp2
 go_loopg [3, 4] k (fun kq v3 v4 w' => ∃ (aC : Int) (aA : Int), v3 = .int .i64 aC ∧ v4 = .int .i64 aA ∧ Aside0 (spec_CountStorms.l0 kq l0 aC aA = some r) ∧ Aside0 (kq ≤ k) ∧ Drawn0 w w')
 case atStart => exact ⟨(0), (0), zr, zr, H', ⟨Nat.le_refl _⟩, by repeat (first | exact Drawn0.refl _ | apply Drawn0.step)⟩
 case round =>
  clear H'; obtain ⟨aC, aA, rfl, rfl, HA, HK1, ⟨m1, rfl⟩⟩ := hrel
  cases gk with
  | zero => exact absurd HA.out (by simp [spec_CountStorms.l0])
  | succ k1 =>
   have H := HA.out; clear HA; simp only [spec_CountStorms.l0] at H
   by_cases c2 : aA < (l0.length : Int)
   ·rw [if_pos c2] at H; have aJ := decide_eq_true c2; clear c2; obtain ⟨aN, H⟩ := zifD H; obtain ⟨bq4, hbq4⟩ : ∃ b_ : Bool, b_ = (rdOf false l0 aA) := ⟨_, rfl⟩
    replace H : (if bq4 = true then (spec_CountStorms.l0 k1 l0 (wrap64 (aC + 1)) (wrap64 (aA + 1))) else (spec_CountStorms.l0 k1 l0 aC (wrap64 (aA + 1)))) = some r := by rw [← hbq4] at H; exact H
    have Nbq4 := zA hbq4; clear hbq4
    by_cases c5 : bq4 = true
    ·subst c5; rw [if_pos rfl] at H; have H' := zA H; clear H; have p109 : 0 ≤ (aA : Int) := zd; have q109 : aA < (l0.length : Int) := zd; obtain ⟨ad109, e109, hx109_0⟩ := Kd.at_bool aI.out aA p109 q109; (try rw [← Nbq4.out] at hx109_0); cases e109; replace p109 := eq_true p109; replace q109 := eq_true q109; go_wp2
     go_roundg k1
     case measure => have := HK1.out; omega
     case rel => exact ⟨(wrap64 (aC + 1)), (wrap64 (aA + 1)), zr, zr, H', ⟨by have := HK1.out; omega⟩, by repeat (first | exact Drawn0.refl _ | apply Drawn0.step)⟩
    ·replace c5 := Bool.eq_false_iff.mpr c5; subst c5; rw [if_neg zNo] at H; have H' := zA H; clear H; have p109 : 0 ≤ (aA : Int) := zd; have q109 : aA < (l0.length : Int) := zd; obtain ⟨ad109, e109, hx109_0⟩ := Kd.at_bool aI.out aA p109 q109; (try rw [← Nbq4.out] at hx109_0); cases e109; replace p109 := eq_true p109; replace q109 := eq_true q109; go_wp2
     go_roundg k1
     case measure => have := HK1.out; omega
     case rel => exact ⟨(aC), (wrap64 (aA + 1)), zr, zr, H', ⟨by have := HK1.out; omega⟩, by repeat (first | exact Drawn0.refl _ | apply Drawn0.step)⟩
   ·rw [if_neg c2] at H; have aJ := decide_eq_false c2; clear c2; obtain rfl := zI H; go_wp2; go_ret; exact ⟨by first | rfl | (simp; done) | (simp [*]; done), by repeat (first | exact Drawn0.refl _ | apply Drawn0.step)⟩

def spec_Max.f (a0 : Int) (a1 : Int) : Option (Int) := if a1 > a0 then (some a1) else (some a0)
theorem spec_Max.calls (a0 : Int) (a1 : Int) (r : Int) (w : World) (h : spec_Max.f a0 a1 = some r) :
  Calls Try.prog 66 #[.int .i64 a0, .int .i64 a1] w fun e w' => e = .returned (.int .i64 r) ∧ Drawn0 w w' := by
 have H := h; clear h; unfold spec_Max.f at H
 by_cases c3 : a1 > a0
 ·rw [if_pos c3] at H; have aD : decide (a0 < a1) = true := decide_eq_true c3; clear c3; obtain rfl := zI H; go_enter Try.func66, Try.ntmps66; go_wp2; go_ret; exact ⟨by first | rfl | (simp; done) | (simp [*]; done), by repeat (first | exact Drawn0.refl _ | apply Drawn0.step)⟩
 ·rw [if_neg c3] at H; have aD : decide (a0 < a1) = false := decide_eq_false c3; clear c3; obtain rfl := zI H; go_enter Try.func66, Try.ntmps66; go_wp2; go_ret; exact ⟨by first | rfl | (simp; done) | (simp [*]; done), by repeat (first | exact Drawn0.refl _ | apply Drawn0.step)⟩

def spec_MayStorm.f (k : Nat) (a0_0 : Int) (a0_1 : Int) (l1 : List Bool) : Option (Bool) := (spec_IsRule.f a0_0 a0_1).bind fun t111 => (if t111 = true then ((spec_Max.f 0 (wrap64 ((wrap64 ((l1.length : Int) + 1)) - a0_1))).bind fun t112 => (if 0 ≤ t112 then (if t112 ≤ (l1.length : Int) then ((spec_CountStorms.f k (l1.drop (t112 : Int).toNat)).bind fun t114 => (some (decide (t114 < a0_0)))) else (none)) else (none))) else (some false))
def spec_MayStorm.T1 : Bool × List (List Nat × List Nat) := (true, [([], []), ([0], [0]), ([1, 1], [1]), ([2], [2]), ([2], [2]), ([4, 2], [2, 4]), ([5, 2], [2, 5]), ([2], [2]), ([7, 2], [2, 7]), ([6, 8, 2], [2, 6, 8]), ([9, 2, 2], [2, 9]), ([3, 10, 2], [2, 3, 10]), ([11, 10, 2], [2, 11]), ([2], [2]), ([13, 2], [2, 13]), ([12, 14, 2], [2, 12, 14]), ([2, 15], [2, 15]), ([16, 12, 0, 1, 2, 3, 4, 5, 6, 7, 8, 9, 10, 11, 12, 13, 14, 15, 16], [16])])
def spec_MayStorm.B1 : List Nat := [0, 1, 3, 7, 7, 23, 55, 7, 135, 503, 1015, 2047, 4095, 7, 8199, 32767, 65535, 131071]
theorem spec_MayStorm.tab1 : rtab .any (opsOf Try.f40 1) = spec_MayStorm.T1 := by kernel_rfl
theorem spec_MayStorm.bits1 : waitsOk spec_MayStorm.T1.2 spec_MayStorm.B1 = true := by kernel_rfl
theorem spec_MayStorm.calls (k : Nat) (aD : Int) (aC : Int) (A1 : Option Addr) (c1 : Nat) (l1 : List Bool) (r : Bool) (w : World) (aQ : Kd.C Kd.bool w A1 l1.length l1) (aR : l1.length ≤ c1) (h : spec_MayStorm.f k aD aC l1 = some r) :
  Calls Try.prog 40 #[.agg #[.int .i64 aD, .int .i64 aC], .slice A1 l1.length c1] w fun e w' => e = .returned (.bool r) ∧ Below w.heap.size w w' := by
 have hu38 := Try.underlying38; have aZ := zA aQ; have bA := zA aR; clear aQ aR; have HB := zA (Below.refl w.heap.size w); have H := h; clear h; unfold spec_MayStorm.f at H; obtain ⟨aU, A3, H⟩ := zB H
 by_cases c4 : aU = true
 ·subst c4; rw [if_pos rfl] at H; obtain ⟨aE, A5, H⟩ := zB H; obtain ⟨c6, H⟩ := zif H; have bH := eq_true c6; have bG := decide_eq_true c6; clear c6; obtain ⟨c7, H⟩ := zif H; have bF := eq_true c7; have bE := decide_eq_true c7; clear c7; obtain ⟨aT, A8, H⟩ := zB H; obtain rfl := zI H; go_enter Try.func40, Try.ntmps40
  try go_wp2_with (first | ((with_reducible refine gate_dst (N := 2) rfl ?_); (try (refine gate_guard (by rfl) ?_; dsimp only)); refine zbx 2 #[.int .i64 aD, .int .i64 aC] 38 ?_; intro aG hg w9 hbox hb; have aA := zA (hbox); have aN := zga (w := w) hg; replace HB := zbs hb; clear hb hbox hg))
  replace aA := zA (blk_drew aA.out); replace HB := zA (below_drew1 HB.out); refine start_ (n := 18) (S := fun w' => w'.cell? ⟨aG, 0, none⟩ = some (.int .i64 aD) ∧ w'.cell? ⟨aG, 1, none⟩ = some (.int .i64 aC)) (ds := []) _ (by kernel_rfl) rfl rfl ⟨zq aA 0, zq aA 1⟩ (fun hHeld => ?_); refine with_tabW spec_MayStorm.tab1 spec_MayStorm.bits1 (fun HT_ HW_ => ?_); generalize w9.drew = bN at aA HB hHeld ⊢; refine zt 0 5 HT_ HW_ hHeld ?_; refine zo 1 6 HT_ (fun K hK => ?_); refine zgo Try.func47 #[.agg #[.int .i64 aD, .int .i64 aC]] ?_
  with_reducible refine (spec_IsRule.calls aD aC true _ A3.out).mono ?_
  rintro e bM ⟨rfl, hb⟩; refine ⟨_, rfl, ?_⟩; replace aA := zkb aA hb; replace HB := zbs hb; (try clear hb); refine hK.out _ _ ⟨zq aA 0, zq aA 1⟩ (fun hHeld => ?_); clear hK K; refine norm_ zV ?_; refine zp 2 7 HT_ ?_; refine zp 3 8 HT_ ?_; refine zp 4 9 HT_ ?_; refine zp 5 10 HT_ ?_; refine zp 6 11 HT_ ?_; refine zp 7 12 HT_ ?_; refine zp 13 18 HT_ ?_; refine zt 8 13 HT_ HW_ hHeld ?_; refine zp 9 14 HT_ ?_; refine zt 14 19 HT_ HW_ hHeld ?_; refine zo 10 15 HT_ (fun K hK => ?_); refine zgo Try.func66 #[.int .i64 0, .int .i64 (wrap64 ((wrap64 ((l1.length : Int) + 1)) - aC))] ?_
  with_reducible refine (spec_Max.calls 0 (wrap64 ((wrap64 ((l1.length : Int) + 1)) - aC)) aE _ A5.out).mono ?_
  rintro e w' ⟨rfl, ⟨nd, rfl⟩⟩; refine ⟨_, rfl, ?_⟩; obtain ⟨i012, hi012, _, hsz12, _⟩ := info_parts info4; obtain ⟨bC, hcut12, hA12, hC12⟩ := print_drop_of (P := Try.prog) Value.bool false 29 4 .i64 Try.underlying29 hi012 hsz12 A1 c1 l1 aE zd zd bA.out; have aK := zA (Kd.C_of_reads (h1 := fun _ => rfl) (hA12 _ (Kd.reads_of_C aZ.out))); have aM := zA hC12; clear hA12 hC12 hi012 hsz12; refine hK.out _ _ ⟨zq aA 0, zq aA 1⟩ (fun hHeld => ?_); clear hK K; refine norm_ zV ?_; refine zp 11 16 HT_ ?_; refine zo 12 17 HT_ (fun K hK => ?_); refine goes_ Try.func65 (by kernel_rfl) rfl #[.slice bC (l1.drop (aE : Int).toNat).length (c1 - aE.toNat)] (by rfl) rfl rfl (by (try simp only [List.map_toArray, List.map_cons, List.map_nil]); first | done | (rw [show (l1.drop (aE : Int).toNat).length = (l1.length - aE.toNat) from List.length_drop] <;> rfl) | rfl | (simp only [List.length_drop, List.length_take]; rfl)) ?_
  with_reducible refine (spec_CountStorms.calls k _ _ (l1.drop (aE : Int).toNat) aT _ ?side1 ?side2 A8.out).mono ?_
  (case side1 => exact zCb aK); (case side2 => exact aM.out); rintro e w' ⟨rfl, ⟨nd, rfl⟩⟩; refine ⟨_, rfl, ?_⟩; refine hK.out _ _ ⟨zq aA 0, zq aA 1⟩ (fun hHeld => ?_); clear hK K; refine norm_ zV ?_; refine zp 15 20 HT_ ?_; refine zp 16 21 HT_ ?_; refine zp 17 4 HT_ ?_; refine done_ (done_of HT_.out (by kernel_rfl)) ?_
  try go_wp2
  go_ret; exact ⟨zE, zb⟩
 ·replace c4 := Bool.eq_false_iff.mpr c4; subst c4; rw [if_neg zNo] at H; obtain rfl := zI H; go_enter Try.func40, Try.ntmps40
  try go_wp2_with (first | ((with_reducible refine gate_dst (N := 2) rfl ?_); (try (refine gate_guard (by rfl) ?_; dsimp only)); refine zbx 2 #[.int .i64 aD, .int .i64 aC] 38 ?_; intro aG hg aY hbox hb; have aA := zA (hbox); have aN := zga (w := w) hg; replace HB := zbs hb; clear hb hbox hg))
  replace aA := zA (blk_drew aA.out); replace HB := zA (below_drew1 HB.out); refine start_ (n := 18) (S := fun w' => w'.cell? ⟨aG, 0, none⟩ = some (.int .i64 aD) ∧ w'.cell? ⟨aG, 1, none⟩ = some (.int .i64 aC)) (ds := []) _ (by kernel_rfl) rfl rfl ⟨zq aA 0, zq aA 1⟩ (fun hHeld => ?_); refine with_tabW spec_MayStorm.tab1 spec_MayStorm.bits1 (fun HT_ HW_ => ?_); generalize aY.drew = bL at aA HB hHeld ⊢; refine zt 0 5 HT_ HW_ hHeld ?_; refine zo 1 6 HT_ (fun K hK => ?_); refine zgo Try.func47 #[.agg #[.int .i64 aD, .int .i64 aC]] ?_
  with_reducible refine (spec_IsRule.calls aD aC false _ A3.out).mono ?_
  rintro e bK ⟨rfl, hb⟩; refine ⟨_, rfl, ?_⟩; replace aA := zkb aA hb; replace HB := zbs hb; (try clear hb); refine hK.out _ _ ⟨zq aA 0, zq aA 1⟩ (fun hHeld => ?_); clear hK K; refine norm_ zV ?_; refine zp 2 7 HT_ ?_; refine zu 3 8 HT_ ?_; refine zu 4 9 HT_ ?_; refine zu 5 10 HT_ ?_; refine zu 6 11 HT_ ?_; refine zu 7 12 HT_ ?_; refine zu 8 13 HT_ ?_; refine zu 9 14 HT_ ?_; refine zu 10 15 HT_ ?_; refine zu 11 16 HT_ ?_; refine zu 12 17 HT_ ?_; refine zu 13 18 HT_ ?_; refine zu 14 19 HT_ ?_; refine zu 15 20 HT_ ?_; refine zp 16 21 HT_ ?_; refine zp 17 4 HT_ ?_; refine done_ (done_of HT_.out (by kernel_rfl)) ?_
  try go_wp2
  go_ret; exact ⟨zE, zb⟩

mutual
def spec_l4Near.j0 : Nat → Int → List Int → Bool → Int → Int → List Int → Option (List Int)
  | 0, _, _, _, _, _, _ => none
  | k + 1, x1, x5, x21, x116000, x116001, x116002 => if x21 = true then (if x5.length < 17592186044416 then (spec_l4Near.j1 k x1 (x5 ++ [wrap64 (x1 - x116000)]) x116000 x116001 x116002) else (none)) else (spec_l4Near.j1 k x1 x5 x116000 x116001 x116002)
def spec_l4Near.j1 : Nat → Int → List Int → Int → Int → List Int → Option (List Int)
  | 0, _, _, _, _, _ => none
  | k + 1, x1, x5, x116000, x116001, x116002 => if x116000 = 0 then (none) else (if (Int.tmod x1 x116000) > 0 then (if 0 ≤ (wrap64 (x1 - 1)) then (if (wrap64 (x1 - 1)) < (x116002.length : Int) then (spec_l4Near.j2 k x1 x5 ((rd x116002 (wrap64 (x1 - 1))) != 2) x116000 x116001 x116002) else (none)) else (none)) else (spec_l4Near.j2 k x1 x5 false x116000 x116001 x116002))
def spec_l4Near.j2 : Nat → Int → List Int → Bool → Int → Int → List Int → Option (List Int)
  | 0, _, _, _, _, _, _ => none
  | k + 1, x1, x5, x42, x116000, x116001, x116002 => if x42 = true then (if x5.length < 17592186044416 then (spec_l4Near.j3 k x1 (x5 ++ [wrap64 (x1 - 1)]) x116000 x116001 x116002) else (none)) else (spec_l4Near.j3 k x1 x5 x116000 x116001 x116002)
def spec_l4Near.j3 : Nat → Int → List Int → Int → Int → List Int → Option (List Int)
  | 0, _, _, _, _, _ => none
  | k + 1, x1, x5, x116000, x116001, x116002 => if x116000 = 0 then (none) else (if (Int.tmod x1 x116000) < (wrap64 (x116000 - 1)) then (if 0 ≤ (wrap64 (x1 + 1)) then (if (wrap64 (x1 + 1)) < (x116002.length : Int) then (spec_l4Near.j4 k x1 x5 ((rd x116002 (wrap64 (x1 + 1))) != 2) x116000 x116001 x116002) else (none)) else (none)) else (spec_l4Near.j4 k x1 x5 false x116000 x116001 x116002))
def spec_l4Near.j4 : Nat → Int → List Int → Bool → Int → Int → List Int → Option (List Int)
  | 0, _, _, _, _, _, _ => none
  | k + 1, x1, x5, x64, x116000, x116001, x116002 => if x64 = true then (if x5.length < 17592186044416 then ((some (x5 ++ [wrap64 (x1 + 1)] : List Int)).bind fun y128 => (if (wrap64 (x1 + x116000)) < (x116002.length : Int) then (if 0 ≤ (wrap64 (x1 + x116000)) then (if (rd x116002 (wrap64 (x1 + x116000))) = 2 then (some y128) else (if y128.length < 17592186044416 then (some (y128 ++ [wrap64 (x1 + x116000)])) else (none))) else (none)) else (some y128))) else (none)) else (if (wrap64 (x1 + x116000)) < (x116002.length : Int) then (if 0 ≤ (wrap64 (x1 + x116000)) then (if (rd x116002 (wrap64 (x1 + x116000))) = 2 then (some x5) else (if x5.length < 17592186044416 then (some (x5 ++ [wrap64 (x1 + x116000)])) else (none))) else (none)) else (some x5))
end
def spec_l4Near.f (k : Nat) (a0_0 : Int) (a0_1 : Int) (l0_2 : List Int) (a1 : Int) : Option (List Int) := (some (([] : List Int) : List Int)).bind fun y116 => (if a1 ≥ a0_0 then (if 0 ≤ (wrap64 (a1 - a0_0)) then (if (wrap64 (a1 - a0_0)) < (l0_2.length : Int) then (spec_l4Near.j0 k a1 y116 ((rd l0_2 (wrap64 (a1 - a0_0))) != 2) a0_0 a0_1 l0_2) else (none)) else (none)) else (spec_l4Near.j0 k a1 y116 false a0_0 a0_1 l0_2))
theorem spec_l4Near.calls (k : Nat) (aD : Int) (aG : Int) (aN : Option Addr) (aK : Nat) (aC : List Int) (a1 : Int) (r : List Int) (w : World) (eJ : Kd.C (Kd.int .i64) w aN aC.length aC) (eK : aC.length ≤ aK) (h : spec_l4Near.f k aD aG aC a1 = some r) :
  Calls Try.prog 71 #[.agg #[.int .i64 aD, .int .i64 aG, .slice aN aC.length aK], .int .i64 a1] w fun e w' => ∃ v0_ : Value, e = .returned (v0_) ∧ Kd.R (Kd.int .i64) 3 w' w.heap.size (fun _ => True) v0_ r ∧ Below w.heap.size w w' := by
 have hu36 := Try.underlying36; have aU := zA eJ; have gR := zA eK; clear eJ eK; have HB := zA (Below.refl w.heap.size w); have H := h; clear h; unfold spec_l4Near.f at H; obtain ⟨aX, dR⟩ : ∃ y_ : List Int, y_ = (([] : List Int)) := ⟨_, rfl⟩
 replace H : (if a1 ≥ aD then (if 0 ≤ (wrap64 (a1 - aD)) then (if (wrap64 (a1 - aD)) < (aC.length : Int) then (spec_l4Near.j0 k a1 aX ((rd aC (wrap64 (a1 - aD))) != 2) aD aG aC) else (none)) else (none)) else (spec_l4Near.j0 k a1 aX false aD aG aC)) = some r := zY dR H
 have Ny116 := zA dR; clear dR; have fE := zA H; clear H; go_enter Try.func71, Try.ntmps71
 go_upto_region 2 with (first | ((with_reducible refine gate_dst (N := 2) rfl ?_); refine zbx 2 #[.int .i64 aD, .int .i64 aG, .slice aN aC.length aK] 36 ?_; intro aI hg w4 hbox hb; have aA := zA (hbox); have eP := zga (w := w) hg; replace HB := zbs hb; clear hb hbox hg) | ((with_reducible refine gate_dst (N := 6) rfl ?_); refine Kd.R_lit (Kd.int .i64) _ 3 ?hg (N := 6) ?hd (xs := ([] : List Int)) (inner := []) (ok := fun _ => True) (okp := fun _ => True) ?hr ?hp (fun _ hk => hk) trivial (Below.refl _ _) (Nat.le_refl _) (by simp) ?_; (case hd => rfl); (case hg => rfl); (case hr => first | (go_simp; done) | (go_simp; rfl)); (case hp => exact (Reps.none _ _)); intro v117 w5 ho6 hb hg_ hnew_; clear hg_ hnew_; (first | rw [← Ny116.out] at ho6 | (simp only [Int.reduceToNat] at ho6; rw [← Ny116.out] at ho6)); have cR := zA (Kd.R_lower ho6 (below_size zb)); replace aA := zkb aA hb; replace HB := zbs hb; clear hb ho6))
 repeat (go_quiet (first | ((with_reducible refine gate_dst (N := 2) rfl ?_); refine zbx 2 #[.int .i64 aD, .int .i64 aG, .slice aN aC.length aK] 36 ?_; intro aI hg w4 hbox hb; have aA := zA (hbox); have eP := zga (w := w) hg; replace HB := zbs hb; clear hb hbox hg) | ((with_reducible refine gate_dst (N := 6) rfl ?_); refine Kd.R_lit (Kd.int .i64) _ 3 ?hg (N := 6) ?hd (xs := ([] : List Int)) (inner := []) (ok := fun _ => True) (okp := fun _ => True) ?hr ?hp (fun _ hk => hk) trivial (Below.refl _ _) (Nat.le_refl _) (by simp) ?_; (case hd => rfl); (case hg => rfl); (case hr => first | (go_simp; done) | (go_simp; rfl)); (case hp => exact (Reps.none _ _)); intro v117 w5 ho6 hb hg_ hnew_; clear hg_ hnew_; (first | rw [← Ny116.out] at ho6 | (simp only [Int.reduceToNat] at ho6; rw [← Ny116.out] at ho6)); have cR := zA (Kd.R_lower ho6 (below_size zb)); replace aA := zkb aA hb; replace HB := zbs hb; clear hb ho6)); go_upto_region 2 with (first | ((with_reducible refine gate_dst (N := 2) rfl ?_); refine zbx 2 #[.int .i64 aD, .int .i64 aG, .slice aN aC.length aK] 36 ?_; intro aI hg w4 hbox hb; have aA := zA (hbox); have eP := zga (w := w) hg; replace HB := zbs hb; clear hb hbox hg) | ((with_reducible refine gate_dst (N := 6) rfl ?_); refine Kd.R_lit (Kd.int .i64) _ 3 ?hg (N := 6) ?hd (xs := ([] : List Int)) (inner := []) (ok := fun _ => True) (okp := fun _ => True) ?hr ?hp (fun _ hk => hk) trivial (Below.refl _ _) (Nat.le_refl _) (by simp) ?_; (case hd => rfl); (case hg => rfl); (case hr => first | (go_simp; done) | (go_simp; rfl)); (case hp => exact (Reps.none _ _)); intro v117 w5 ho6 hb hg_ hnew_; clear hg_ hnew_; (first | rw [← Ny116.out] at ho6 | (simp only [Int.reduceToNat] at ho6; rw [← Ny116.out] at ho6)); have cR := zA (Kd.R_lower ho6 (below_size zb)); replace aA := zkb aA hb; replace HB := zbs hb; clear hb ho6)))
 (try simp only [Act.put, List.setIfInBounds_toArray, List.set_cons_zero, List.set_cons_succ])
 go_cut [21] (fun v21 wc => ∃ (kq : Nat) (cN : Bool), v21 = .bool cN ∧ Aside0 (spec_l4Near.j0 kq a1 aX cN aD aG aC = some r) ∧ Aside0 (kq ≤ k) ∧ Aside0 (Kd.R (Kd.int .i64) 3 wc w.heap.size (fun _ => True) v117 aX) ∧ Aside0 (wc.heap[aI]? = some (.cells #[.int .i64 aD, .int .i64 aG, (.slice aN aC.length aK)] 36 (0, 0))) ∧ Aside0 (Below w.heap.size w wc))
 case first =>
  have H := fE.out; clear fE
  by_cases c7 : a1 ≥ aD
  ·rw [if_pos c7] at H; have aY : decide (aD ≤ a1) = true := decide_eq_true c7; clear c7; (first | rw [aY] | (simp only [i64_w, i32_w]; rw [aY]) | skip); obtain ⟨cL, dS⟩ : ∃ j_ : Int, (wrap64 (a1 - aD)) = j_ := ⟨_, rfl⟩
   replace H : (if 0 ≤ (cL) then (if (cL) < (aC.length : Int) then (spec_l4Near.j0 k a1 aX ((rd aC (cL)) != 2) aD aG aC) else (none)) else (none)) = some r := by first | (rw [dS] at H; exact H) | (simp only [dS] at H ⊢; exact H)
   have hji8w : (IntKind.i64.wrap (a1 - aD)) = cL := (i64_w _).trans dS; obtain ⟨cS, H⟩ := zifD H; obtain ⟨bY, H⟩ := zifD H; have H' := zA H; clear H; obtain ⟨bK, bJ, bI⟩ := zc3 aA; obtain ⟨bE, bD, bC⟩ := zf3 aA; have p119 : 0 ≤ ((cL) : Int) := zd; have q119 : (cL) < (aC.length : Int) := zd; obtain ⟨ad119, e119, hx119_0⟩ := Kd.at_int aU.out (cL) p119 q119; cases e119; replace hx119_0 := (HB.out.cell (World.block_lt_of_cell? w _ hx119_0)).trans hx119_0; replace p119 := eq_true p119; replace q119 := eq_true q119; go_wp2
   repeat (go_quiet (fail); try go_wp2)
   go_meet
   case rel => exact ⟨_, (((rd aC (cL)) != 2)), (by first | rfl | (simp; done) | (simp only [← dS] <;> (first | rfl | simp)) | (simp [*]; done)), H', ⟨by first | omega | exact Nat.le_refl _⟩, ⟨zR cR⟩, ⟨zk aA⟩, ⟨zb⟩⟩
  ·rw [if_neg c7] at H; have aY : decide (aD ≤ a1) = false := decide_eq_false c7; clear c7; (first | rw [aY] | (simp only [i64_w, i32_w]; rw [aY]) | skip); have H' := zA H; clear H; obtain ⟨bH, bG, bF⟩ := zc3 aA; obtain ⟨bB, bA, aZ⟩ := zf3 aA; go_wp2
   repeat (go_quiet (fail); try go_wp2)
   go_meet
   case rel => exact ⟨_, (false), zr, H', ⟨by first | omega | exact Nat.le_refl _⟩, ⟨zR cR⟩, ⟨zk aA⟩, ⟨zb⟩⟩
 case rest =>
  clear fE; (try clear c1); (try clear p1); (try clear q1); (try clear hx1); (try clear p2); (try clear p6); (try clear c7); (try clear aY); (try clear c9); (try clear cS); (try clear c10); (try clear bY); (try clear p11); (try clear q11); (try clear hx11); (try clear bK); (try clear bJ); (try clear bI); (try clear bH); (try clear bG); (try clear bF); (try clear bE); (try clear bD); (try clear bC); (try clear bB); (try clear bA); (try clear aZ); (try clear hx119_0); (try clear p119); (try clear q119); obtain ⟨kq, cN, rfl, HA, HJ2, aE, aA, HB⟩ := hcut; cases kq with
  | zero => exact absurd HA.out (by simp [spec_l4Near.j0])
  | succ kj2 =>
   have H := HA.out; clear HA; simp only [spec_l4Near.j0] at H; have eI := zA H; clear H
   go_upto_if 21 with (fail)
   repeat (go_quiet (fail); go_upto_if 21 with (fail))
   go_cut [5] (fun v5 wc => ∃ (kq : Nat) (aT : List Int), Aside0 (spec_l4Near.j1 kq a1 aT aD aG aC = some r) ∧ Aside0 (kq ≤ kj2) ∧ Aside0 (Kd.R (Kd.int .i64) 3 wc w.heap.size (fun _ => True) v5 aT) ∧ Aside0 (wc.heap[aI]? = some (.cells #[.int .i64 aD, .int .i64 aG, (.slice aN aC.length aK)] 36 (0, 0))) ∧ Aside0 (Below w.heap.size w wc))
   case first =>
    have H := eI.out; clear eI
    by_cases cM : cN = true
    ·subst cM; rw [if_pos rfl] at H; obtain ⟨eA, H⟩ := zifA H; obtain ⟨fD, dQ⟩ : ∃ y_ : List Int, y_ = (aX ++ [wrap64 (a1 - aD)]) := ⟨_, rfl⟩
     replace H : (spec_l4Near.j1 kj2 a1 fD aD aG aC) = some r := zY dQ H
     have Ny120 := zA dQ; clear dQ; have H' := zA H; clear H; obtain ⟨bU, bT, bS⟩ := zc3 aA; obtain ⟨bR, bQ, bP⟩ := zf3 aA
     go_wp2_with (first | ((with_reducible refine gate_builtin (b := .append) (xs := #[.tmp 22, .tmp 27]) rfl ?_); at_builtin; refine Kd.R_append (Kd.int .i64) (w0 := w) w.heap.size rfl (.tmp 22) (.tmp 27) 22 3 (.int .i64 0) 8 rfl Try.underlying22 info3 rfl (by decide) (by omega) v117 aX (wrap64 (a1 - aD)) [.int .i64 (wrap64 (a1 - aD))] (fun _ => True) (fun _ => False) rfl rfl ?aP (fun _ hk => hk.elim) ?aF ?aO ?aB ?aS ?aL ?_; (case aP => exact rfl); (case aB => exact zb); (case aF => exact (fun _ _ => trivial)); (case aO => exact (zR aE)); (case aS => exact (below_size zb)); (case aL => have := eA.out; omega); intro v121 fS ho hb hg hat; rw [← Ny120.out] at ho; replace aA := zA (blk_grown (g := aI) (o := .cells #[.int .i64 aD, .int .i64 aG, .slice aN aC.length aK] 36 (0, 0)) (zk aA) hg (Kd.R_ne aE.out aA.out (by decide))); replace HB := zA (hb); have eE := zA (ho); clear aE; clear ho hb hg hat))
     repeat (go_quiet (first | ((with_reducible refine gate_builtin (b := .append) (xs := #[.tmp 22, .tmp 27]) rfl ?_); at_builtin; refine Kd.R_append (Kd.int .i64) (w0 := w) w.heap.size rfl (.tmp 22) (.tmp 27) 22 3 (.int .i64 0) 8 rfl Try.underlying22 info3 rfl (by decide) (by omega) v117 aX (wrap64 (a1 - aD)) [.int .i64 (wrap64 (a1 - aD))] (fun _ => True) (fun _ => False) rfl rfl ?aP (fun _ hk => hk.elim) ?aF ?aO ?aB ?aS ?aL ?_; (case aP => exact rfl); (case aB => exact zb); (case aF => exact (fun _ _ => trivial)); (case aO => exact (zR aE)); (case aS => exact (below_size zb)); (case aL => have := eA.out; omega); intro v121 fS ho hb hg hat; rw [← Ny120.out] at ho; replace aA := zA (blk_grown (g := aI) (o := .cells #[.int .i64 aD, .int .i64 aG, .slice aN aC.length aK] 36 (0, 0)) (zk aA) hg (Kd.R_ne aE.out aA.out (by decide))); replace HB := zA (hb); have eE := zA (ho); clear aE; clear ho hb hg hat)); try go_wp2_with (first | ((with_reducible refine gate_builtin (b := .append) (xs := #[.tmp 22, .tmp 27]) rfl ?_); at_builtin; refine Kd.R_append (Kd.int .i64) (w0 := w) w.heap.size rfl (.tmp 22) (.tmp 27) 22 3 (.int .i64 0) 8 rfl Try.underlying22 info3 rfl (by decide) (by omega) v117 aX (wrap64 (a1 - aD)) [.int .i64 (wrap64 (a1 - aD))] (fun _ => True) (fun _ => False) rfl rfl ?aP (fun _ hk => hk.elim) ?aF ?aO ?aB ?aS ?aL ?_; (case aP => exact rfl); (case aB => exact zb); (case aF => exact (fun _ _ => trivial)); (case aO => exact (zR aE)); (case aS => exact (below_size zb)); (case aL => have := eA.out; omega); intro v121 fS ho hb hg hat; rw [← Ny120.out] at ho; replace aA := zA (blk_grown (g := aI) (o := .cells #[.int .i64 aD, .int .i64 aG, .slice aN aC.length aK] 36 (0, 0)) (zk aA) hg (Kd.R_ne aE.out aA.out (by decide))); replace HB := zA (hb); have eE := zA (ho); clear aE; clear ho hb hg hat)))
     go_meet
     case rel => exact ⟨_, (fD), H', ⟨by have := HJ2.out; first | omega | exact Nat.le_refl _⟩, ⟨zR eE⟩, ⟨zk aA⟩, ⟨zb⟩⟩
    ·replace cM := Bool.eq_false_iff.mpr cM; subst cM; rw [if_neg zNo] at H; have H' := zA H; clear H; go_wp2
     repeat (go_quiet (fail); try go_wp2)
     go_meet
     case rel => exact ⟨_, (aX), H', ⟨by have := HJ2.out; first | omega | exact Nat.le_refl _⟩, ⟨zR aE⟩, ⟨zk aA⟩, ⟨zb⟩⟩
   case rest =>
    clear eI; (try clear c1); (try clear p1); (try clear q1); (try clear hx1); (try clear p2); (try clear p6); (try clear c7); (try clear aY); (try clear c9); (try clear cS); (try clear c10); (try clear bY); (try clear p11); (try clear q11); (try clear hx11); (try clear cM); (try clear c15); (try clear bK); (try clear bJ); (try clear bI); (try clear bH); (try clear bG); (try clear bF); (try clear bU); (try clear bT); (try clear bS); (try clear bE); (try clear bD); (try clear bC); (try clear bB); (try clear bA); (try clear aZ); (try clear bR); (try clear bQ); (try clear bP); (try clear hx119_0); (try clear p1); (try clear p11); (try clear p119); (try clear p2); (try clear p6); (try clear q1); (try clear q11); (try clear q119); obtain ⟨kq, aT, HA, HJ12, aE, aA, HB⟩ := hcut; cases kq with
    | zero => exact absurd HA.out (by simp [spec_l4Near.j1])
    | succ kj12 =>
     have H := HA.out; clear HA; simp only [spec_l4Near.j1] at H; have eH := zA H; clear H
     go_upto_region 4 with (fail)
     repeat (go_quiet (fail); go_upto_region 4 with (fail))
     go_cut [42] (fun v42 wc => ∃ (kq : Nat) (bW : Bool), v42 = .bool bW ∧ Aside0 (spec_l4Near.j2 kq a1 aT bW aD aG aC = some r) ∧ Aside0 (kq ≤ kj12) ∧ Aside0 (Kd.R (Kd.int .i64) 3 wc w.heap.size (fun _ => True) u5 aT) ∧ Aside0 (wc.heap[aI]? = some (.cells #[.int .i64 aD, .int .i64 aG, (.slice aN aC.length aK)] 36 (0, 0))) ∧ Aside0 (Below w.heap.size w wc))
     case first =>
      have H := eH.out; clear eH
      by_cases c19 : aD = 0
      ·rw [if_pos c19] at H; exact absurd H (by simp)
      ·rw [if_neg c19] at H; have bX : (aD == 0) = false := beq_eq_false_iff_ne.mpr c19; have dW : (aD != 0) = true := bne_iff_ne.mpr c19; (first | rw [bX] | (simp only [i64_w, i32_w]; rw [bX]) | skip)
       by_cases c20 : (Int.tmod a1 aD) > 0
       ·rw [if_pos c20] at H; have cQ : decide (0 < (Int.tmod a1 aD)) = true := decide_eq_true c20; clear c20; obtain ⟨bM, cP⟩ : ∃ j_ : Int, (wrap64 (a1 - 1)) = j_ := ⟨_, rfl⟩
        replace H : (if 0 ≤ (bM) then (if (bM) < (aC.length : Int) then (spec_l4Near.j2 kj12 a1 aT ((rd aC (bM)) != 2) aD aG aC) else (none)) else (none)) = some r := by first | (rw [cP] at H; exact H) | (simp only [cP] at H ⊢; exact H)
        have hji21w : (IntKind.i64.wrap (a1 - 1)) = bM := (i64_w _).trans cP; obtain ⟨dV, H⟩ := zifD H; obtain ⟨dU, H⟩ := zifD H; have H' := zA H; clear H; obtain ⟨cK, cJ, cI⟩ := zc3 aA; obtain ⟨cE, cD, cC⟩ := zf3 aA; have p123 : 0 ≤ ((bM) : Int) := zd; have q123 : (bM) < (aC.length : Int) := zd; obtain ⟨ad123, e123, hx123_0⟩ := Kd.at_int aU.out (bM) p123 q123; cases e123; replace hx123_0 := (HB.out.cell (World.block_lt_of_cell? w _ hx123_0)).trans hx123_0; replace p123 := eq_true p123; replace q123 := eq_true q123; go_wp2
        repeat (go_quiet (fail); try go_wp2)
        go_meet
        case rel => exact ⟨_, (((rd aC (bM)) != 2)), (by first | rfl | (simp; done) | (simp only [← cP] <;> (first | rfl | simp)) | (simp [*]; done)), H', ⟨by have := HJ2.out; have := HJ12.out; first | omega | exact Nat.le_refl _⟩, ⟨zR aE⟩, ⟨zk aA⟩, ⟨zb⟩⟩
       ·rw [if_neg c20] at H; have cQ : decide (0 < (Int.tmod a1 aD)) = false := decide_eq_false c20; clear c20; have H' := zA H; clear H; obtain ⟨cH, cG, cF⟩ := zc3 aA; obtain ⟨cB, cA, bZ⟩ := zf3 aA; go_wp2
        repeat (go_quiet (fail); try go_wp2)
        go_meet
        case rel => exact ⟨_, (false), zr, H', ⟨by have := HJ2.out; have := HJ12.out; first | omega | exact Nat.le_refl _⟩, ⟨zR aE⟩, ⟨zk aA⟩, ⟨zb⟩⟩
     case rest =>
      clear eH; (try clear c1); (try clear p1); (try clear q1); (try clear hx1); (try clear c2); (try clear p2); (try clear p6); (try clear c7); (try clear aY); (try clear c9); (try clear cS); (try clear c10); (try clear bY); (try clear p11); (try clear q11); (try clear hx11); (try clear p12); (try clear q12); (try clear hx12); (try clear cM); (try clear c15); (try clear c19); (try clear bX); (try clear dW); (try clear c20); (try clear cQ); (try clear c22); (try clear dV); (try clear c23); (try clear dU); (try clear bK); (try clear bJ); (try clear bI); (try clear bH); (try clear bG); (try clear bF); (try clear bU); (try clear bT); (try clear bS); (try clear cK); (try clear cJ); (try clear cI); (try clear cH); (try clear cG); (try clear cF); (try clear bE); (try clear bD); (try clear bC); (try clear bB); (try clear bA); (try clear aZ); (try clear bR); (try clear bQ); (try clear bP); (try clear cE); (try clear cD); (try clear cC); (try clear cB); (try clear cA); (try clear bZ); (try clear hx119_0); (try clear hx123_0); (try clear p1); (try clear p11); (try clear p119); (try clear p123); (try clear p2); (try clear p6); (try clear q1); (try clear q11); (try clear q119); (try clear q123); obtain ⟨kq, bW, rfl, HA, HJ17, aE, aA, HB⟩ := hcut; cases kq with
      | zero => exact absurd HA.out (by simp [spec_l4Near.j2])
      | succ kj17 =>
       have H := HA.out; clear HA; simp only [spec_l4Near.j2] at H; have eG := zA H; clear H
       go_upto_if 42 with (fail)
       repeat (go_quiet (fail); go_upto_if 42 with (fail))
       go_cut [5] (fun v5 wc => ∃ (kq : Nat) (aM : List Int), Aside0 (spec_l4Near.j3 kq a1 aM aD aG aC = some r) ∧ Aside0 (kq ≤ kj17) ∧ Aside0 (Kd.R (Kd.int .i64) 3 wc w.heap.size (fun _ => True) v5 aM) ∧ Aside0 (wc.heap[aI]? = some (.cells #[.int .i64 aD, .int .i64 aG, (.slice aN aC.length aK)] 36 (0, 0))) ∧ Aside0 (Below w.heap.size w wc))
       case first =>
        have H := eG.out; clear eG
        by_cases dL : bW = true
        ·subst dL; rw [if_pos rfl] at H; obtain ⟨dZ, H⟩ := zifA H; obtain ⟨fC, dP⟩ : ∃ y_ : List Int, y_ = (aT ++ [wrap64 (a1 - 1)]) := ⟨_, rfl⟩
         replace H : (spec_l4Near.j3 kj17 a1 fC aD aG aC) = some r := zY dP H
         have Ny124 := zA dP; clear dP; have H' := zA H; clear H
         go_wp2_with (first | ((with_reducible refine gate_builtin (b := .append) (xs := #[.tmp 43, .tmp 46]) rfl ?_); at_builtin; refine Kd.R_append (Kd.int .i64) (w0 := w) w.heap.size rfl (.tmp 43) (.tmp 46) 22 3 (.int .i64 0) 8 rfl Try.underlying22 info3 rfl (by decide) (by omega) u5 aT (wrap64 (a1 - 1)) [.int .i64 (wrap64 (a1 - 1))] (fun _ => True) (fun _ => False) rfl rfl ?aP (fun _ hk => hk.elim) ?aF ?aO ?aB ?aS ?aL ?_; (case aP => exact rfl); (case aB => exact zb); (case aF => exact (fun _ _ => trivial)); (case aO => exact (zR aE)); (case aS => exact (below_size zb)); (case aL => have := dZ.out; omega); intro v125 fR ho hb hg hat; rw [← Ny124.out] at ho; replace aA := zA (blk_grown (g := aI) (o := .cells #[.int .i64 aD, .int .i64 aG, .slice aN aC.length aK] 36 (0, 0)) (zk aA) hg (Kd.R_ne aE.out aA.out (by decide))); replace HB := zA (hb); have eD := zA (ho); clear aE; clear ho hb hg hat))
         repeat (go_quiet (first | ((with_reducible refine gate_builtin (b := .append) (xs := #[.tmp 43, .tmp 46]) rfl ?_); at_builtin; refine Kd.R_append (Kd.int .i64) (w0 := w) w.heap.size rfl (.tmp 43) (.tmp 46) 22 3 (.int .i64 0) 8 rfl Try.underlying22 info3 rfl (by decide) (by omega) u5 aT (wrap64 (a1 - 1)) [.int .i64 (wrap64 (a1 - 1))] (fun _ => True) (fun _ => False) rfl rfl ?aP (fun _ hk => hk.elim) ?aF ?aO ?aB ?aS ?aL ?_; (case aP => exact rfl); (case aB => exact zb); (case aF => exact (fun _ _ => trivial)); (case aO => exact (zR aE)); (case aS => exact (below_size zb)); (case aL => have := dZ.out; omega); intro v125 fR ho hb hg hat; rw [← Ny124.out] at ho; replace aA := zA (blk_grown (g := aI) (o := .cells #[.int .i64 aD, .int .i64 aG, .slice aN aC.length aK] 36 (0, 0)) (zk aA) hg (Kd.R_ne aE.out aA.out (by decide))); replace HB := zA (hb); have eD := zA (ho); clear aE; clear ho hb hg hat)); try go_wp2_with (first | ((with_reducible refine gate_builtin (b := .append) (xs := #[.tmp 43, .tmp 46]) rfl ?_); at_builtin; refine Kd.R_append (Kd.int .i64) (w0 := w) w.heap.size rfl (.tmp 43) (.tmp 46) 22 3 (.int .i64 0) 8 rfl Try.underlying22 info3 rfl (by decide) (by omega) u5 aT (wrap64 (a1 - 1)) [.int .i64 (wrap64 (a1 - 1))] (fun _ => True) (fun _ => False) rfl rfl ?aP (fun _ hk => hk.elim) ?aF ?aO ?aB ?aS ?aL ?_; (case aP => exact rfl); (case aB => exact zb); (case aF => exact (fun _ _ => trivial)); (case aO => exact (zR aE)); (case aS => exact (below_size zb)); (case aL => have := dZ.out; omega); intro v125 fR ho hb hg hat; rw [← Ny124.out] at ho; replace aA := zA (blk_grown (g := aI) (o := .cells #[.int .i64 aD, .int .i64 aG, .slice aN aC.length aK] 36 (0, 0)) (zk aA) hg (Kd.R_ne aE.out aA.out (by decide))); replace HB := zA (hb); have eD := zA (ho); clear aE; clear ho hb hg hat)))
         go_meet
         case rel => exact ⟨_, (fC), H', ⟨by have := HJ2.out; have := HJ12.out; have := HJ17.out; first | omega | exact Nat.le_refl _⟩, ⟨zR eD⟩, ⟨zk aA⟩, ⟨zb⟩⟩
        ·replace dL := Bool.eq_false_iff.mpr dL; subst dL; rw [if_neg zNo] at H; have H' := zA H; clear H; go_wp2
         repeat (go_quiet (fail); try go_wp2)
         go_meet
         case rel => exact ⟨_, (aT), H', ⟨by have := HJ2.out; have := HJ12.out; have := HJ17.out; first | omega | exact Nat.le_refl _⟩, ⟨zR aE⟩, ⟨zk aA⟩, ⟨zb⟩⟩
       case rest =>
        clear eG; (try clear c1); (try clear p1); (try clear q1); (try clear hx1); (try clear c2); (try clear p2); (try clear p6); (try clear c7); (try clear aY); (try clear c9); (try clear cS); (try clear c10); (try clear bY); (try clear p11); (try clear q11); (try clear hx11); (try clear p12); (try clear q12); (try clear hx12); (try clear cM); (try clear c15); (try clear c19); (try clear bX); (try clear dW); (try clear c20); (try clear cQ); (try clear c22); (try clear dV); (try clear c23); (try clear dU); (try clear dL); (try clear c28); (try clear bK); (try clear bJ); (try clear bI); (try clear bH); (try clear bG); (try clear bF); (try clear bU); (try clear bT); (try clear bS); (try clear cK); (try clear cJ); (try clear cI); (try clear cH); (try clear cG); (try clear cF); (try clear bE); (try clear bD); (try clear bC); (try clear bB); (try clear bA); (try clear aZ); (try clear bR); (try clear bQ); (try clear bP); (try clear cE); (try clear cD); (try clear cC); (try clear cB); (try clear cA); (try clear bZ); (try clear hx119_0); (try clear hx123_0); (try clear p1); (try clear p11); (try clear p119); (try clear p12); (try clear p123); (try clear p2); (try clear p6); (try clear q1); (try clear q11); (try clear q119); (try clear q12); (try clear q123); obtain ⟨kq, aM, HA, HJ25, aE, aA, HB⟩ := hcut; cases kq with
        | zero => exact absurd HA.out (by simp [spec_l4Near.j3])
        | succ kj25 =>
         have H := HA.out; clear HA; simp only [spec_l4Near.j3] at H; have eF := zA H; clear H
         go_upto_region 6 with (fail)
         repeat (go_quiet (fail); go_upto_region 6 with (fail))
         go_cut [64] (fun v64 wc => ∃ (kq : Nat) (bV : Bool), v64 = .bool bV ∧ Aside0 (spec_l4Near.j4 kq a1 aM bV aD aG aC = some r) ∧ Aside0 (kq ≤ kj25) ∧ Aside0 (Kd.R (Kd.int .i64) 3 wc w.heap.size (fun _ => True) u5 aM) ∧ Aside0 (wc.heap[aI]? = some (.cells #[.int .i64 aD, .int .i64 aG, (.slice aN aC.length aK)] 36 (0, 0))) ∧ Aside0 (Below w.heap.size w wc))
         case first =>
          have H := eF.out; clear eF
          by_cases c31 : aD = 0
          ·rw [if_pos c31] at H; exact absurd H (by simp)
          ·rw [if_neg c31] at H; have dT : (aD == 0) = false := beq_eq_false_iff_ne.mpr c31; have fL : (aD != 0) = true := bne_iff_ne.mpr c31; (first | rw [dT] | (simp only [i64_w, i32_w]; rw [dT]) | skip)
           by_cases c32 : (Int.tmod a1 aD) < (wrap64 (aD - 1))
           ·rw [if_pos c32] at H; have eO := decide_eq_true c32; clear c32; obtain ⟨bL, cO⟩ : ∃ j_ : Int, (wrap64 (a1 + 1)) = j_ := ⟨_, rfl⟩
            replace H : (if 0 ≤ (bL) then (if (bL) < (aC.length : Int) then (spec_l4Near.j4 kj25 a1 aM ((rd aC (bL)) != 2) aD aG aC) else (none)) else (none)) = some r := by first | (rw [cO] at H; exact H) | (simp only [cO] at H ⊢; exact H)
            have hji33w : (IntKind.i64.wrap (a1 + 1)) = bL := (i64_w _).trans cO; obtain ⟨fK, H⟩ := zifD H; obtain ⟨fJ, H⟩ := zifD H; have H' := zA H; clear H; obtain ⟨fB, fA, eZ⟩ := zc3 aA; obtain ⟨eV, eU, eT⟩ := zf3 aA; have p127 : 0 ≤ ((bL) : Int) := zd; have q127 : (bL) < (aC.length : Int) := zd; obtain ⟨ad127, e127, hx127_0⟩ := Kd.at_int aU.out (bL) p127 q127; cases e127; replace hx127_0 := (HB.out.cell (World.block_lt_of_cell? w _ hx127_0)).trans hx127_0; replace p127 := eq_true p127; replace q127 := eq_true q127; go_wp2
            repeat (go_quiet (fail); try go_wp2)
            go_meet
            case rel => exact ⟨_, (((rd aC (bL)) != 2)), (by first | rfl | (simp; done) | (simp only [← cO] <;> (first | rfl | simp)) | (simp [*]; done)), H', ⟨by have := HJ2.out; have := HJ12.out; have := HJ17.out; have := HJ25.out; first | omega | exact Nat.le_refl _⟩, ⟨zR aE⟩, ⟨zk aA⟩, ⟨zb⟩⟩
           ·rw [if_neg c32] at H; have eO := decide_eq_false c32; clear c32; have H' := zA H; clear H; obtain ⟨eY, eX, eW⟩ := zc3 aA; obtain ⟨eS, eR, eQ⟩ := zf3 aA; go_wp2
            repeat (go_quiet (fail); try go_wp2)
            go_meet
            case rel => exact ⟨_, (false), zr, H', ⟨by have := HJ2.out; have := HJ12.out; have := HJ17.out; have := HJ25.out; first | omega | exact Nat.le_refl _⟩, ⟨zR aE⟩, ⟨zk aA⟩, ⟨zb⟩⟩
         case rest =>
          clear eF; (try clear c1); (try clear p1); (try clear q1); (try clear hx1); (try clear c2); (try clear p2); (try clear c3); (try clear p6); (try clear c7); (try clear aY); (try clear c9); (try clear cS); (try clear c10); (try clear bY); (try clear p11); (try clear q11); (try clear hx11); (try clear p12); (try clear q12); (try clear hx12); (try clear cM); (try clear c15); (try clear c19); (try clear bX); (try clear dW); (try clear c20); (try clear cQ); (try clear c22); (try clear dV); (try clear c23); (try clear dU); (try clear dL); (try clear c28); (try clear c31); (try clear dT); (try clear fL); (try clear c32); (try clear eO); (try clear c34); (try clear fK); (try clear c35); (try clear fJ); (try clear bK); (try clear bJ); (try clear bI); (try clear bH); (try clear bG); (try clear bF); (try clear bU); (try clear bT); (try clear bS); (try clear cK); (try clear cJ); (try clear cI); (try clear cH); (try clear cG); (try clear cF); (try clear fB); (try clear fA); (try clear eZ); (try clear eY); (try clear eX); (try clear eW); (try clear bE); (try clear bD); (try clear bC); (try clear bB); (try clear bA); (try clear aZ); (try clear bR); (try clear bQ); (try clear bP); (try clear cE); (try clear cD); (try clear cC); (try clear cB); (try clear cA); (try clear bZ); (try clear eV); (try clear eU); (try clear eT); (try clear eS); (try clear eR); (try clear eQ); (try clear hx119_0); (try clear hx123_0); (try clear hx127_0); (try clear p1); (try clear p11); (try clear p119); (try clear p12); (try clear p123); (try clear p127); (try clear p2); (try clear p6); (try clear q1); (try clear q11); (try clear q119); (try clear q12); (try clear q123); (try clear q127); obtain ⟨kq, bV, rfl, HA, HJ29, aE, aA, HB⟩ := hcut; cases kq with
          | zero => exact absurd HA.out (by simp [spec_l4Near.j4])
          | succ kj29 =>
           have H := HA.out; clear HA; simp only [spec_l4Near.j4] at H
           by_cases eN : bV = true
           ·subst eN; rw [if_pos rfl] at H; obtain ⟨aV, H⟩ := zifA H; obtain ⟨aW, dO⟩ : ∃ y_ : List Int, y_ = (aM ++ [wrap64 (a1 + 1)]) := ⟨_, rfl⟩
            replace H : (if (wrap64 (a1 + aD)) < (aC.length : Int) then (if 0 ≤ (wrap64 (a1 + aD)) then (if (rd aC (wrap64 (a1 + aD))) = 2 then (some aW) else (if aW.length < 17592186044416 then (some (aW ++ [wrap64 (a1 + aD)])) else (none))) else (none)) else (some aW)) = some r := zY dO H
            have Ny128 := zA dO; clear dO
            by_cases c40 : (wrap64 (a1 + aD)) < (aC.length : Int)
            ·rw [if_pos c40] at H; have eM := decide_eq_true c40; clear c40; obtain ⟨aJ, bO⟩ : ∃ j_ : Int, (wrap64 (a1 + aD)) = j_ := ⟨_, rfl⟩
             replace H : (if 0 ≤ (aJ) then (if (rd aC (aJ)) = 2 then (some aW) else (if aW.length < 17592186044416 then (some (aW ++ [aJ])) else (none))) else (none)) = some r := by first | (rw [bO] at H; exact H) | (simp only [bO] at H ⊢; exact H)
             (try rw [bO] at eM); have hji41w : (IntKind.i64.wrap (a1 + aD)) = aJ := (i64_w _).trans bO; obtain ⟨gQ, H⟩ := zifD H
             by_cases c43 : (rd aC (aJ)) = 2
             ·rw [if_pos c43] at H; have fI : ((rd aC (aJ)) == 2) = true := beq_iff_eq.mpr c43; have fH : ((rd aC (aJ)) != 2) = false := bne_eq_false_iff_eq.mpr c43; clear c43; obtain rfl := zI H
              go_wp2_with (first | ((with_reducible refine gate_builtin (b := .append) (xs := #[.tmp 65, .tmp 68]) rfl ?_); at_builtin; refine Kd.R_append (Kd.int .i64) (w0 := w) w.heap.size rfl (.tmp 65) (.tmp 68) 22 3 (.int .i64 0) 8 rfl Try.underlying22 info3 rfl (by decide) (by omega) u5 aM (wrap64 (a1 + 1)) [.int .i64 (wrap64 (a1 + 1))] (fun _ => True) (fun _ => False) rfl rfl ?aP (fun _ hk => hk.elim) ?aF ?aO ?aB ?aS ?aL ?_; (case aP => exact rfl); (case aB => exact zb); (case aF => exact (fun _ _ => trivial)); (case aO => exact (zR aE)); (case aS => exact (below_size zb)); (case aL => have := aV.out; omega); intro v129 fQ ho hb hg hat; rw [← Ny128.out] at ho; replace aA := zA (blk_grown (g := aI) (o := .cells #[.int .i64 aD, .int .i64 aG, .slice aN aC.length aK] 36 (0, 0)) (zk aA) hg (Kd.R_ne aE.out aA.out (by decide))); replace HB := zA (hb); have aQ := zA (ho); clear aE; clear ho hb hg hat; obtain ⟨dK, dJ, dI⟩ := zc3 aA; obtain ⟨dB, dA, cZ⟩ := zf3 aA; have p131 : 0 ≤ ((aJ) : Int) := zd; have q131 : (aJ) < (aC.length : Int) := zd; obtain ⟨ad131, e131, hx131_0⟩ := Kd.at_int aU.out (aJ) p131 q131; cases e131; replace hx131_0 := (HB.out.cell (World.block_lt_of_cell? w _ hx131_0)).trans hx131_0; replace p131 := eq_true p131; replace q131 := eq_true q131))
              repeat (go_quiet (first | ((with_reducible refine gate_builtin (b := .append) (xs := #[.tmp 65, .tmp 68]) rfl ?_); at_builtin; refine Kd.R_append (Kd.int .i64) (w0 := w) w.heap.size rfl (.tmp 65) (.tmp 68) 22 3 (.int .i64 0) 8 rfl Try.underlying22 info3 rfl (by decide) (by omega) u5 aM (wrap64 (a1 + 1)) [.int .i64 (wrap64 (a1 + 1))] (fun _ => True) (fun _ => False) rfl rfl ?aP (fun _ hk => hk.elim) ?aF ?aO ?aB ?aS ?aL ?_; (case aP => exact rfl); (case aB => exact zb); (case aF => exact (fun _ _ => trivial)); (case aO => exact (zR aE)); (case aS => exact (below_size zb)); (case aL => have := aV.out; omega); intro v129 fQ ho hb hg hat; rw [← Ny128.out] at ho; replace aA := zA (blk_grown (g := aI) (o := .cells #[.int .i64 aD, .int .i64 aG, .slice aN aC.length aK] 36 (0, 0)) (zk aA) hg (Kd.R_ne aE.out aA.out (by decide))); replace HB := zA (hb); have aQ := zA (ho); clear aE; clear ho hb hg hat; obtain ⟨dK, dJ, dI⟩ := zc3 aA; obtain ⟨dB, dA, cZ⟩ := zf3 aA; have p131 : 0 ≤ ((aJ) : Int) := zd; have q131 : (aJ) < (aC.length : Int) := zd; obtain ⟨ad131, e131, hx131_0⟩ := Kd.at_int aU.out (aJ) p131 q131; cases e131; replace hx131_0 := (HB.out.cell (World.block_lt_of_cell? w _ hx131_0)).trans hx131_0; replace p131 := eq_true p131; replace q131 := eq_true q131)); try go_wp2_with (first | ((with_reducible refine gate_builtin (b := .append) (xs := #[.tmp 65, .tmp 68]) rfl ?_); at_builtin; refine Kd.R_append (Kd.int .i64) (w0 := w) w.heap.size rfl (.tmp 65) (.tmp 68) 22 3 (.int .i64 0) 8 rfl Try.underlying22 info3 rfl (by decide) (by omega) u5 aM (wrap64 (a1 + 1)) [.int .i64 (wrap64 (a1 + 1))] (fun _ => True) (fun _ => False) rfl rfl ?aP (fun _ hk => hk.elim) ?aF ?aO ?aB ?aS ?aL ?_; (case aP => exact rfl); (case aB => exact zb); (case aF => exact (fun _ _ => trivial)); (case aO => exact (zR aE)); (case aS => exact (below_size zb)); (case aL => have := aV.out; omega); intro v129 fQ ho hb hg hat; rw [← Ny128.out] at ho; replace aA := zA (blk_grown (g := aI) (o := .cells #[.int .i64 aD, .int .i64 aG, .slice aN aC.length aK] 36 (0, 0)) (zk aA) hg (Kd.R_ne aE.out aA.out (by decide))); replace HB := zA (hb); have aQ := zA (ho); clear aE; clear ho hb hg hat; obtain ⟨dK, dJ, dI⟩ := zc3 aA; obtain ⟨dB, dA, cZ⟩ := zf3 aA; have p131 : 0 ≤ ((aJ) : Int) := zd; have q131 : (aJ) < (aC.length : Int) := zd; obtain ⟨ad131, e131, hx131_0⟩ := Kd.at_int aU.out (aJ) p131 q131; cases e131; replace hx131_0 := (HB.out.cell (World.block_lt_of_cell? w _ hx131_0)).trans hx131_0; replace p131 := eq_true p131; replace q131 := eq_true q131)))
              go_ret; exact ⟨_, by first | rfl | (simp [errW_none, errW_some] <;> rfl) | (simp only [← bO]; first | rfl | (simp [errW_none, errW_some] <;> rfl)) | (simp [*, errW_none, errW_some] <;> rfl), zR aQ, zb⟩
             ·rw [if_neg c43] at H; have fI : ((rd aC (aJ)) == 2) = false := beq_eq_false_iff_ne.mpr c43; have fH : ((rd aC (aJ)) != 2) = true := bne_iff_ne.mpr c43; obtain ⟨dY, H⟩ := zifA H; obtain ⟨fU, dN⟩ : ∃ y_ : List Int, y_ = (aW ++ [aJ]) := ⟨_, rfl⟩
              replace H : (some fU) = some r := zY dN H
              have Ny132 := zA dN; clear dN; obtain rfl := zI H
              go_wp2_with (first | ((with_reducible refine gate_builtin (b := .append) (xs := #[.tmp 65, .tmp 68]) rfl ?_); at_builtin; refine Kd.R_append (Kd.int .i64) (w0 := w) w.heap.size rfl (.tmp 65) (.tmp 68) 22 3 (.int .i64 0) 8 rfl Try.underlying22 info3 rfl (by decide) (by omega) u5 aM (wrap64 (a1 + 1)) [.int .i64 (wrap64 (a1 + 1))] (fun _ => True) (fun _ => False) rfl rfl ?aP (fun _ hk => hk.elim) ?aF ?aO ?aB ?aS ?aL ?_; (case aP => exact rfl); (case aB => exact zb); (case aF => exact (fun _ _ => trivial)); (case aO => exact (zR aE)); (case aS => exact (below_size zb)); (case aL => have := aV.out; omega); intro v129 fP ho hb hg hat; rw [← Ny128.out] at ho; replace aA := zA (blk_grown (g := aI) (o := .cells #[.int .i64 aD, .int .i64 aG, .slice aN aC.length aK] 36 (0, 0)) (zk aA) hg (Kd.R_ne aE.out aA.out (by decide))); replace HB := zA (hb); have aQ := zA (ho); clear aE; clear ho hb hg hat; obtain ⟨dH, dG, dF⟩ := zc3 aA; obtain ⟨cY, cX, cW⟩ := zf3 aA; have p131 : 0 ≤ ((aJ) : Int) := zd; have q131 : (aJ) < (aC.length : Int) := zd; obtain ⟨ad131, e131, hx131_0⟩ := Kd.at_int aU.out (aJ) p131 q131; cases e131; replace hx131_0 := (HB.out.cell (World.block_lt_of_cell? w _ hx131_0)).trans hx131_0; replace p131 := eq_true p131; replace q131 := eq_true q131) | ((with_reducible refine gate_builtin (b := .append) (xs := #[.tmp 89, .tmp 94]) rfl ?_); at_builtin; refine Kd.R_append (Kd.int .i64) (w0 := w) w.heap.size rfl (.tmp 89) (.tmp 94) 22 3 (.int .i64 0) 8 rfl Try.underlying22 info3 rfl (by decide) (by omega) v129 aW aJ [.int .i64 aJ] (fun _ => True) (fun _ => False) rfl rfl ?aP (fun _ hk => hk.elim) ?aF ?aO ?aB ?aS ?aL ?_; (case aP => exact rfl); (case aB => exact zb); (case aF => exact (fun _ _ => trivial)); (case aO => exact (zR aQ)); (case aS => exact (below_size zb)); (case aL => have := dY.out; omega); intro v133 fO ho hb hg hat; rw [← Ny132.out] at ho; replace aA := zA (blk_grown (g := aI) (o := .cells #[.int .i64 aD, .int .i64 aG, .slice (some ad131) aC.length aK] 36 (0, 0)) (zk aA) hg (Kd.R_ne aQ.out aA.out (by decide))); replace HB := zA (hb); have eC := zA (ho); clear aQ; clear ho hb hg hat))
              repeat (go_quiet (first | ((with_reducible refine gate_builtin (b := .append) (xs := #[.tmp 65, .tmp 68]) rfl ?_); at_builtin; refine Kd.R_append (Kd.int .i64) (w0 := w) w.heap.size rfl (.tmp 65) (.tmp 68) 22 3 (.int .i64 0) 8 rfl Try.underlying22 info3 rfl (by decide) (by omega) u5 aM (wrap64 (a1 + 1)) [.int .i64 (wrap64 (a1 + 1))] (fun _ => True) (fun _ => False) rfl rfl ?aP (fun _ hk => hk.elim) ?aF ?aO ?aB ?aS ?aL ?_; (case aP => exact rfl); (case aB => exact zb); (case aF => exact (fun _ _ => trivial)); (case aO => exact (zR aE)); (case aS => exact (below_size zb)); (case aL => have := aV.out; omega); intro v129 fP ho hb hg hat; rw [← Ny128.out] at ho; replace aA := zA (blk_grown (g := aI) (o := .cells #[.int .i64 aD, .int .i64 aG, .slice aN aC.length aK] 36 (0, 0)) (zk aA) hg (Kd.R_ne aE.out aA.out (by decide))); replace HB := zA (hb); have aQ := zA (ho); clear aE; clear ho hb hg hat; obtain ⟨dH, dG, dF⟩ := zc3 aA; obtain ⟨cY, cX, cW⟩ := zf3 aA; have p131 : 0 ≤ ((aJ) : Int) := zd; have q131 : (aJ) < (aC.length : Int) := zd; obtain ⟨ad131, e131, hx131_0⟩ := Kd.at_int aU.out (aJ) p131 q131; cases e131; replace hx131_0 := (HB.out.cell (World.block_lt_of_cell? w _ hx131_0)).trans hx131_0; replace p131 := eq_true p131; replace q131 := eq_true q131) | ((with_reducible refine gate_builtin (b := .append) (xs := #[.tmp 89, .tmp 94]) rfl ?_); at_builtin; refine Kd.R_append (Kd.int .i64) (w0 := w) w.heap.size rfl (.tmp 89) (.tmp 94) 22 3 (.int .i64 0) 8 rfl Try.underlying22 info3 rfl (by decide) (by omega) v129 aW aJ [.int .i64 aJ] (fun _ => True) (fun _ => False) rfl rfl ?aP (fun _ hk => hk.elim) ?aF ?aO ?aB ?aS ?aL ?_; (case aP => exact rfl); (case aB => exact zb); (case aF => exact (fun _ _ => trivial)); (case aO => exact (zR aQ)); (case aS => exact (below_size zb)); (case aL => have := dY.out; omega); intro v133 fO ho hb hg hat; rw [← Ny132.out] at ho; replace aA := zA (blk_grown (g := aI) (o := .cells #[.int .i64 aD, .int .i64 aG, .slice (some ad131) aC.length aK] 36 (0, 0)) (zk aA) hg (Kd.R_ne aQ.out aA.out (by decide))); replace HB := zA (hb); have eC := zA (ho); clear aQ; clear ho hb hg hat)); try go_wp2_with (first | ((with_reducible refine gate_builtin (b := .append) (xs := #[.tmp 65, .tmp 68]) rfl ?_); at_builtin; refine Kd.R_append (Kd.int .i64) (w0 := w) w.heap.size rfl (.tmp 65) (.tmp 68) 22 3 (.int .i64 0) 8 rfl Try.underlying22 info3 rfl (by decide) (by omega) u5 aM (wrap64 (a1 + 1)) [.int .i64 (wrap64 (a1 + 1))] (fun _ => True) (fun _ => False) rfl rfl ?aP (fun _ hk => hk.elim) ?aF ?aO ?aB ?aS ?aL ?_; (case aP => exact rfl); (case aB => exact zb); (case aF => exact (fun _ _ => trivial)); (case aO => exact (zR aE)); (case aS => exact (below_size zb)); (case aL => have := aV.out; omega); intro v129 fP ho hb hg hat; rw [← Ny128.out] at ho; replace aA := zA (blk_grown (g := aI) (o := .cells #[.int .i64 aD, .int .i64 aG, .slice aN aC.length aK] 36 (0, 0)) (zk aA) hg (Kd.R_ne aE.out aA.out (by decide))); replace HB := zA (hb); have aQ := zA (ho); clear aE; clear ho hb hg hat; obtain ⟨dH, dG, dF⟩ := zc3 aA; obtain ⟨cY, cX, cW⟩ := zf3 aA; have p131 : 0 ≤ ((aJ) : Int) := zd; have q131 : (aJ) < (aC.length : Int) := zd; obtain ⟨ad131, e131, hx131_0⟩ := Kd.at_int aU.out (aJ) p131 q131; cases e131; replace hx131_0 := (HB.out.cell (World.block_lt_of_cell? w _ hx131_0)).trans hx131_0; replace p131 := eq_true p131; replace q131 := eq_true q131) | ((with_reducible refine gate_builtin (b := .append) (xs := #[.tmp 89, .tmp 94]) rfl ?_); at_builtin; refine Kd.R_append (Kd.int .i64) (w0 := w) w.heap.size rfl (.tmp 89) (.tmp 94) 22 3 (.int .i64 0) 8 rfl Try.underlying22 info3 rfl (by decide) (by omega) v129 aW aJ [.int .i64 aJ] (fun _ => True) (fun _ => False) rfl rfl ?aP (fun _ hk => hk.elim) ?aF ?aO ?aB ?aS ?aL ?_; (case aP => exact rfl); (case aB => exact zb); (case aF => exact (fun _ _ => trivial)); (case aO => exact (zR aQ)); (case aS => exact (below_size zb)); (case aL => have := dY.out; omega); intro v133 fO ho hb hg hat; rw [← Ny132.out] at ho; replace aA := zA (blk_grown (g := aI) (o := .cells #[.int .i64 aD, .int .i64 aG, .slice (some ad131) aC.length aK] 36 (0, 0)) (zk aA) hg (Kd.R_ne aQ.out aA.out (by decide))); replace HB := zA (hb); have eC := zA (ho); clear aQ; clear ho hb hg hat)))
              go_ret; exact ⟨_, by first | rfl | (simp [errW_none, errW_some] <;> rfl) | (simp only [← bO]; first | rfl | (simp [errW_none, errW_some] <;> rfl)) | (simp [*, errW_none, errW_some] <;> rfl), zR eC, zb⟩
            ·rw [if_neg c40] at H; have eM := decide_eq_false c40; clear c40; obtain rfl := zI H
             go_wp2_with (first | ((with_reducible refine gate_builtin (b := .append) (xs := #[.tmp 65, .tmp 68]) rfl ?_); at_builtin; refine Kd.R_append (Kd.int .i64) (w0 := w) w.heap.size rfl (.tmp 65) (.tmp 68) 22 3 (.int .i64 0) 8 rfl Try.underlying22 info3 rfl (by decide) (by omega) u5 aM (wrap64 (a1 + 1)) [.int .i64 (wrap64 (a1 + 1))] (fun _ => True) (fun _ => False) rfl rfl ?aP (fun _ hk => hk.elim) ?aF ?aO ?aB ?aS ?aL ?_; (case aP => exact rfl); (case aB => exact zb); (case aF => exact (fun _ _ => trivial)); (case aO => exact (zR aE)); (case aS => exact (below_size zb)); (case aL => have := aV.out; omega); intro v129 fN ho hb hg hat; rw [← Ny128.out] at ho; replace aA := zA (blk_grown (g := aI) (o := .cells #[.int .i64 aD, .int .i64 aG, .slice aN aC.length aK] 36 (0, 0)) (zk aA) hg (Kd.R_ne aE.out aA.out (by decide))); replace HB := zA (hb); have aQ := zA (ho); clear aE; clear ho hb hg hat; obtain ⟨dE, dD, dC⟩ := zc3 aA; obtain ⟨cV, cU, cT⟩ := zf3 aA))
             repeat (go_quiet (first | ((with_reducible refine gate_builtin (b := .append) (xs := #[.tmp 65, .tmp 68]) rfl ?_); at_builtin; refine Kd.R_append (Kd.int .i64) (w0 := w) w.heap.size rfl (.tmp 65) (.tmp 68) 22 3 (.int .i64 0) 8 rfl Try.underlying22 info3 rfl (by decide) (by omega) u5 aM (wrap64 (a1 + 1)) [.int .i64 (wrap64 (a1 + 1))] (fun _ => True) (fun _ => False) rfl rfl ?aP (fun _ hk => hk.elim) ?aF ?aO ?aB ?aS ?aL ?_; (case aP => exact rfl); (case aB => exact zb); (case aF => exact (fun _ _ => trivial)); (case aO => exact (zR aE)); (case aS => exact (below_size zb)); (case aL => have := aV.out; omega); intro v129 fN ho hb hg hat; rw [← Ny128.out] at ho; replace aA := zA (blk_grown (g := aI) (o := .cells #[.int .i64 aD, .int .i64 aG, .slice aN aC.length aK] 36 (0, 0)) (zk aA) hg (Kd.R_ne aE.out aA.out (by decide))); replace HB := zA (hb); have aQ := zA (ho); clear aE; clear ho hb hg hat; obtain ⟨dE, dD, dC⟩ := zc3 aA; obtain ⟨cV, cU, cT⟩ := zf3 aA)); try go_wp2_with (first | ((with_reducible refine gate_builtin (b := .append) (xs := #[.tmp 65, .tmp 68]) rfl ?_); at_builtin; refine Kd.R_append (Kd.int .i64) (w0 := w) w.heap.size rfl (.tmp 65) (.tmp 68) 22 3 (.int .i64 0) 8 rfl Try.underlying22 info3 rfl (by decide) (by omega) u5 aM (wrap64 (a1 + 1)) [.int .i64 (wrap64 (a1 + 1))] (fun _ => True) (fun _ => False) rfl rfl ?aP (fun _ hk => hk.elim) ?aF ?aO ?aB ?aS ?aL ?_; (case aP => exact rfl); (case aB => exact zb); (case aF => exact (fun _ _ => trivial)); (case aO => exact (zR aE)); (case aS => exact (below_size zb)); (case aL => have := aV.out; omega); intro v129 fN ho hb hg hat; rw [← Ny128.out] at ho; replace aA := zA (blk_grown (g := aI) (o := .cells #[.int .i64 aD, .int .i64 aG, .slice aN aC.length aK] 36 (0, 0)) (zk aA) hg (Kd.R_ne aE.out aA.out (by decide))); replace HB := zA (hb); have aQ := zA (ho); clear aE; clear ho hb hg hat; obtain ⟨dE, dD, dC⟩ := zc3 aA; obtain ⟨cV, cU, cT⟩ := zf3 aA)))
             go_ret; exact ⟨_, zE, zR aQ, zb⟩
           ·replace eN := Bool.eq_false_iff.mpr eN; subst eN; rw [if_neg zNo] at H
            by_cases c52 : (wrap64 (a1 + aD)) < (aC.length : Int)
            ·rw [if_pos c52] at H; have eL := decide_eq_true c52; clear c52; obtain ⟨aR, bN⟩ : ∃ j_ : Int, (wrap64 (a1 + aD)) = j_ := ⟨_, rfl⟩
             replace H : (if 0 ≤ (aR) then (if (rd aC (aR)) = 2 then (some aM) else (if aM.length < 17592186044416 then (some (aM ++ [aR])) else (none))) else (none)) = some r := by first | (rw [bN] at H; exact H) | (simp only [bN] at H ⊢; exact H)
             (try rw [bN] at eL); have hji53w : (IntKind.i64.wrap (a1 + aD)) = aR := (i64_w _).trans bN; obtain ⟨gP, H⟩ := zifD H
             by_cases c55 : (rd aC (aR)) = 2
             ·rw [if_pos c55] at H; have fG : ((rd aC (aR)) == 2) = true := beq_iff_eq.mpr c55; have fF : ((rd aC (aR)) != 2) = false := bne_eq_false_iff_eq.mpr c55; clear c55; obtain rfl := zI H; obtain ⟨gM, gL, gK⟩ := zc3 aA; obtain ⟨gD, gC, gB⟩ := zf3 aA; have p135 : 0 ≤ ((aR) : Int) := zd; have q135 : (aR) < (aC.length : Int) := zd; obtain ⟨ad135, e135, hx135_0⟩ := Kd.at_int aU.out (aR) p135 q135; cases e135; replace hx135_0 := (HB.out.cell (World.block_lt_of_cell? w _ hx135_0)).trans hx135_0; replace p135 := eq_true p135; replace q135 := eq_true q135; go_wp2
              repeat (go_quiet (fail); try go_wp2)
              go_ret; exact ⟨_, by first | rfl | (simp [errW_none, errW_some] <;> rfl) | (simp only [← bN]; first | rfl | (simp [errW_none, errW_some] <;> rfl)) | (simp [*, errW_none, errW_some] <;> rfl), zR aE, zb⟩
             ·rw [if_neg c55] at H; have fG : ((rd aC (aR)) == 2) = false := beq_eq_false_iff_ne.mpr c55; have fF : ((rd aC (aR)) != 2) = true := bne_iff_ne.mpr c55; obtain ⟨dX, H⟩ := zifA H; obtain ⟨fT, dM⟩ : ∃ y_ : List Int, y_ = (aM ++ [aR]) := ⟨_, rfl⟩
              replace H : (some fT) = some r := zY dM H
              have Ny136 := zA dM; clear dM; obtain rfl := zI H; obtain ⟨gJ, gI, gH⟩ := zc3 aA; obtain ⟨gA, fZ, fY⟩ := zf3 aA; have p135 : 0 ≤ ((aR) : Int) := zd; have q135 : (aR) < (aC.length : Int) := zd; obtain ⟨ad135, e135, hx135_0⟩ := Kd.at_int aU.out (aR) p135 q135; cases e135; replace hx135_0 := (HB.out.cell (World.block_lt_of_cell? w _ hx135_0)).trans hx135_0; replace p135 := eq_true p135; replace q135 := eq_true q135
              go_wp2_with (first | ((with_reducible refine gate_builtin (b := .append) (xs := #[.tmp 89, .tmp 94]) rfl ?_); at_builtin; refine Kd.R_append (Kd.int .i64) (w0 := w) w.heap.size rfl (.tmp 89) (.tmp 94) 22 3 (.int .i64 0) 8 rfl Try.underlying22 info3 rfl (by decide) (by omega) u5 aM aR [.int .i64 aR] (fun _ => True) (fun _ => False) rfl rfl ?aP (fun _ hk => hk.elim) ?aF ?aO ?aB ?aS ?aL ?_; (case aP => exact rfl); (case aB => exact zb); (case aF => exact (fun _ _ => trivial)); (case aO => exact (zR aE)); (case aS => exact (below_size zb)); (case aL => have := dX.out; omega); intro v137 fM ho hb hg hat; rw [← Ny136.out] at ho; replace aA := zA (blk_grown (g := aI) (o := .cells #[.int .i64 aD, .int .i64 aG, .slice (some ad135) aC.length aK] 36 (0, 0)) (zk aA) hg (Kd.R_ne aE.out aA.out (by decide))); replace HB := zA (hb); have eB := zA (ho); clear aE; clear ho hb hg hat))
              repeat (go_quiet (first | ((with_reducible refine gate_builtin (b := .append) (xs := #[.tmp 89, .tmp 94]) rfl ?_); at_builtin; refine Kd.R_append (Kd.int .i64) (w0 := w) w.heap.size rfl (.tmp 89) (.tmp 94) 22 3 (.int .i64 0) 8 rfl Try.underlying22 info3 rfl (by decide) (by omega) u5 aM aR [.int .i64 aR] (fun _ => True) (fun _ => False) rfl rfl ?aP (fun _ hk => hk.elim) ?aF ?aO ?aB ?aS ?aL ?_; (case aP => exact rfl); (case aB => exact zb); (case aF => exact (fun _ _ => trivial)); (case aO => exact (zR aE)); (case aS => exact (below_size zb)); (case aL => have := dX.out; omega); intro v137 fM ho hb hg hat; rw [← Ny136.out] at ho; replace aA := zA (blk_grown (g := aI) (o := .cells #[.int .i64 aD, .int .i64 aG, .slice (some ad135) aC.length aK] 36 (0, 0)) (zk aA) hg (Kd.R_ne aE.out aA.out (by decide))); replace HB := zA (hb); have eB := zA (ho); clear aE; clear ho hb hg hat)); try go_wp2_with (first | ((with_reducible refine gate_builtin (b := .append) (xs := #[.tmp 89, .tmp 94]) rfl ?_); at_builtin; refine Kd.R_append (Kd.int .i64) (w0 := w) w.heap.size rfl (.tmp 89) (.tmp 94) 22 3 (.int .i64 0) 8 rfl Try.underlying22 info3 rfl (by decide) (by omega) u5 aM aR [.int .i64 aR] (fun _ => True) (fun _ => False) rfl rfl ?aP (fun _ hk => hk.elim) ?aF ?aO ?aB ?aS ?aL ?_; (case aP => exact rfl); (case aB => exact zb); (case aF => exact (fun _ _ => trivial)); (case aO => exact (zR aE)); (case aS => exact (below_size zb)); (case aL => have := dX.out; omega); intro v137 fM ho hb hg hat; rw [← Ny136.out] at ho; replace aA := zA (blk_grown (g := aI) (o := .cells #[.int .i64 aD, .int .i64 aG, .slice (some ad135) aC.length aK] 36 (0, 0)) (zk aA) hg (Kd.R_ne aE.out aA.out (by decide))); replace HB := zA (hb); have eB := zA (ho); clear aE; clear ho hb hg hat)))
              go_ret; exact ⟨_, by first | rfl | (simp [errW_none, errW_some] <;> rfl) | (simp only [← bN]; first | rfl | (simp [errW_none, errW_some] <;> rfl)) | (simp [*, errW_none, errW_some] <;> rfl), zR eB, zb⟩
            ·rw [if_neg c52] at H; have eL := decide_eq_false c52; clear c52; obtain rfl := zI H; obtain ⟨gG, gF, gE⟩ := zc3 aA; obtain ⟨fX, fW, fV⟩ := zf3 aA; go_wp2
             repeat (go_quiet (fail); try go_wp2)
             go_ret; exact ⟨_, zE, zR aE, zb⟩

mutual
def spec_l5From.l0 : Nat → Int → List Int → Int → Int → Int → List Int → Option (List Int)
  | 0, _, _, _, _, _, _ => none
  | k + 1, x1, x5, x6, x140000, x140001, x140002 => if x6 < (x140002.length : Int) then (if x5.length < 17592186044416 then (spec_l5From.l0 k x1 (x5 ++ [(-1)]) (wrap64 (x6 + 1)) x140000 x140001 x140002) else (none)) else (if 0 ≤ x1 then (if x1 < (x5.length : Int) then (spec_l5From.l1 k (x5.set (x1 : Int).toNat 0) (([x1] : List Int)) 0 x140000 x140001 x140002) else (none)) else (none))
def spec_l5From.l1 : Nat → List Int → List Int → Int → Int → Int → List Int → Option (List Int)
  | 0, _, _, _, _, _, _ => none
  | k + 1, x5, x7, x8, x140000, x140001, x140002 => if x8 < (x7.length : Int) then (if 0 ≤ x8 then ((spec_l4Near.f k x140000 x140001 x140002 (rd x7 x8)).bind fun t151 => (spec_l5From.l2 k x5 x7 x8 t151 0 x140000 x140001 x140002)) else (none)) else (some x5)
def spec_l5From.l2 : Nat → List Int → List Int → Int → List Int → Int → Int → Int → List Int → Option (List Int)
  | 0, _, _, _, _, _, _, _, _ => none
  | k + 1, x5, x7, x8, x9, x10, x140000, x140001, x140002 => if x10 < (x9.length : Int) then (if 0 ≤ x10 then (if 0 ≤ (rd x9 x10) then (if (rd x9 x10) < (x5.length : Int) then (if (rd x5 (rd x9 x10)) < 0 then (if 0 ≤ x8 then (if x8 < (x7.length : Int) then (if 0 ≤ (rd x7 x8) then (if (rd x7 x8) < (x5.length : Int) then (if x7.length < 17592186044416 then (spec_l5From.l2 k (x5.set ((rd x9 x10) : Int).toNat (wrap64 ((rd x5 (rd x7 x8)) + 1))) (x7 ++ [rd x9 x10]) x8 x9 (wrap64 (x10 + 1)) x140000 x140001 x140002) else (none)) else (none)) else (none)) else (none)) else (none)) else (spec_l5From.l2 k x5 x7 x8 x9 (wrap64 (x10 + 1)) x140000 x140001 x140002)) else (none)) else (none)) else (none)) else (spec_l5From.l1 k x5 x7 (wrap64 (x8 + 1)) x140000 x140001 x140002)
end
def spec_l5From.f (k : Nat) (a0_0 : Int) (a0_1 : Int) (l0_2 : List Int) (a1 : Int) : Option (List Int) := spec_l5From.l0 k a1 (([] : List Int)) 0 a0_0 a0_1 l0_2
def spec_l5From.T16 : Bool × List (List Nat × List Nat) := (true, [([], []), ([], []), ([], []), ([1, 2], [1, 2]), ([3], [3]), ([], []), ([], []), ([], []), ([6, 7], [6, 7]), ([8], [8]), ([5, 9], [5, 9]), ([10], [10]), ([11], [11]), ([0, 4, 0, 1, 2, 3, 4, 5, 6, 7, 8, 9, 10, 11, 12], [0, 4]), ([13, 12, 0, 1, 2, 3, 4, 5, 6, 7, 8, 9, 10, 11, 12], [12, 13])])
def spec_l5From.B16 : List Nat := [0, 0, 0, 6, 14, 0, 0, 0, 192, 448, 992, 2016, 4064, 8191, 16383]
theorem spec_l5From.tab16 : rtab .any (opsOf Try.f78 16) = spec_l5From.T16 := by kernel_rfl
theorem spec_l5From.bits16 : waitsOk spec_l5From.T16.2 spec_l5From.B16 = true := by kernel_rfl
theorem spec_l5From.calls (k : Nat) (aK : Int) (aJ : Int) (aY : Option Addr) (aX : Nat) (aH : List Int) (a1 : Int) (r : List Int) (w : World) (bJ : Kd.C (Kd.int .i64) w aY aH.length aH) (bK : aH.length ≤ aX) (h : spec_l5From.f k aK aJ aH a1 = some r) :
  Calls Try.prog 78 #[.agg #[.int .i64 aK, .int .i64 aJ, .slice aY aH.length aX], .int .i64 a1] w fun e w' => ∃ v0_ : Value, e = .returned (v0_) ∧ Kd.R (Kd.int .i64) 3 w' w.heap.size (fun _ => True) v0_ r ∧ Below w.heap.size w w' := by
 have hu36 := Try.underlying36
 have HR0_2 := zA bJ
 have HC0_2 := zA bK
 clear bJ bK
 have HB := zA (Below.refl w.heap.size w)
 have H : (spec_l5From.l0 k a1 (([] : List Int)) 0 aK aJ aH) = some r := h
 clear h
 obtain ⟨y140, hy140⟩ : ∃ y_ : List Int, y_ = (([] : List Int)) := ⟨_, rfl⟩
 replace H : (spec_l5From.l0 k a1 y140 0 aK aJ aH) = some r := zY hy140 H
 have Ny140 := zA hy140
 clear hy140
 have H' := zA H
 clear H
 go_enter Try.func78, Try.ntmps78
 go_wp2_with (first | ((with_reducible refine gate_dst (N := 2) rfl ?_); refine box_event ?hg (N := 2) ?hd (cs := #[.int .i64 aK, .int .i64 aJ, .slice aY aH.length aX]) (t := 36) ?hr ?_; (case hd => rfl); (case hg => rfl); (case hr => first | (go_simp; done) | (go_simp; rfl)); intro aQ hg w3 hbox hb; have aV := zA (below_step (by repeat (first | (with_reducible first | exact HB.out | apply below_alloc | apply pw_below_drewN | apply below_drew1) | exact HB.out)) hb); have aU := zA (hbox); have aT := zA ((by rw [hg]; exact (below_size (by repeat (first | (with_reducible first | exact HB.out | apply below_alloc | apply pw_below_drewN | apply below_drew1) | exact HB.out))) : w.heap.size ≤ aQ)); have bA := zA ((by rw [hg]; exact (below_size (by repeat (first | (with_reducible first | exact HB.out | apply below_alloc | apply pw_below_drewN | apply below_drew1) | exact HB.out))) : w.heap.size ≤ aQ)); clear HB; have HB := aV; have aA := aU; have bT := aT; have aR := bA; clear aV aU aT bA; clear hb hbox hg) | ((with_reducible refine gate_dst (N := 11) rfl ?_); refine Kd.R_lit (Kd.int .i64) _ 3 ?hg (N := 11) ?hd (xs := ([] : List Int)) (inner := []) (ok := fun _ => True) (okp := fun _ => True) ?hr ?hp (fun _ hk => hk) trivial (Below.refl _ _) (Nat.le_refl _) (by simp) ?_; (case hd => rfl); (case hg => rfl); (case hr => first | (go_simp; done) | (go_simp; rfl)); (case hp => exact (Reps.none _ _)); intro v141 w4 ho5 hb hg_ hnew_; clear hg_ hnew_; (first | rw [← Ny140.out] at ho5 | (simp only [Int.reduceToNat] at ho5; rw [← Ny140.out] at ho5)); have aV := zA (Kd.R_lower ho5 (below_size (by repeat (first | (with_reducible first | exact HB.out | apply below_alloc | apply pw_below_drewN | apply below_drew1 | refine below_set ?_ aR.out) | exact HB.out)))); have aU := zA (blk_below (g := aQ) (o := .cells #[.int .i64 aK, .int .i64 aJ, .slice aY aH.length aX] 36 (0, 0)) (by (with_reducible repeat (first | refine blk_drewN ?_ _ | refine blk_drew ?_ | refine blk_alloc ?_ _)); exact aA.out) hb); have aT := zA (below_step (by repeat (first | (with_reducible first | exact HB.out | apply below_alloc | apply pw_below_drewN | apply below_drew1 | refine below_set ?_ aR.out) | exact HB.out)) hb); clear aA; clear HB; have bS := aV; have aA := aU; have HB := aT; clear aV aU aT; clear hb ho5))
 go_loopg [5, 6] k (fun kq v5 v6 w' => ∃ (aZ : List Int) (bD : Int), v6 = .int .i64 bD ∧ Aside0 (spec_l5From.l0 kq a1 aZ bD aK aJ aH = some r) ∧ Aside0 (kq ≤ k) ∧ Aside0 (Kd.R (Kd.int .i64) 3 w' w.heap.size (fun _ => True) v5 aZ) ∧ Aside0 (w'.heap[aQ]? = some (.cells #[.int .i64 aK, .int .i64 aJ, (.slice aY aH.length aX)] 36 (0, 0))) ∧ Aside0 (Below w.heap.size w w'))
 case atStart => exact ⟨(y140), (0), (by first | rfl | (simp; done) | (simp [*]; done)), H', ⟨Nat.le_refl _⟩, ⟨by (with_reducible repeat (first | apply Kd.R_alloc | apply Kd.R_drewN | apply Kd.R_drew)); exact bS.out⟩, ⟨zkf aA⟩, ⟨by repeat (first | (with_reducible first | exact HB.out | apply below_alloc | apply pw_below_drewN | apply below_drew1 | refine below_set ?_ aR.out) | exact HB.out)⟩⟩
 case round =>
  clear H'
  try clear p2
  obtain ⟨aZ, bD, rfl, HA, HK1, aD, aA, HB⟩ := hrel
  cases gk with
  | zero => exact absurd HA.out (by simp [spec_l5From.l0])
  | succ k1 =>
   have H := HA.out
   clear HA
   simp only [spec_l5From.l0] at H
   by_cases c6 : bD < (aH.length : Int)
   ·rw [if_pos c6] at H
    have bI : decide (bD < (aH.length : Int)) = true := decide_eq_true c6
    clear c6
    by_cases c7 : aZ.length < 17592186044416
    ·rw [if_pos c7] at H
     have LMc7 := zA c7
     clear c7
     obtain ⟨y143, hy143⟩ : ∃ y_ : List Int, y_ = (aZ ++ [(-1)]) := ⟨_, rfl⟩
     replace H : (spec_l5From.l0 k1 a1 y143 (wrap64 (bD + 1)) aK aJ aH) = some r := zY hy143 H
     have Ny143 := zA hy143
     clear hy143
     have H' := zA H
     clear H
     have hcz8_0 : wr.cell? ⟨aQ, 0, none⟩ = some (.int .i64 aK) := (blk_cell aA.out 0).trans rfl
     have hcz8_1 : wr.cell? ⟨aQ, 1, none⟩ = some (.int .i64 aJ) := (blk_cell aA.out 1).trans rfl
     have hcz8_2 : wr.cell? ⟨aQ, 2, none⟩ = some (.slice aY aH.length aX) := (blk_cell aA.out 2).trans rfl
     have hfz8_0 := blk_frozen aA.out 0
     have hfz8_1 := blk_frozen aA.out 1
     have hfz8_2 := blk_frozen aA.out 2
     go_wp2_with (first | ((with_reducible refine gate_builtin (b := .append) (xs := #[.tmp 19, .tmp 20]) rfl ?_); at_builtin; refine Kd.R_append (Kd.int .i64) (w0 := w) w.heap.size rfl (.tmp 19) (.tmp 20) 22 3 (.int .i64 0) 8 rfl Try.underlying22 info3 rfl (by decide) (by omega) u5 aZ (-1) [.int .i64 (-1)] (fun _ => True) (fun _ => False) rfl rfl ?aP (fun _ hk => hk.elim) ?aF ?aO ?aB ?aS ?aL ?_; (case aP => exact rfl); (case aB => exact (by repeat (first | (with_reducible first | exact HB.out | apply below_alloc | apply pw_below_drewN | apply below_drew1 | refine below_set ?_ aR.out) | exact HB.out))); (case aF => exact (fun _ _ => trivial)); (case aO => exact (by (with_reducible repeat (first | apply Kd.R_alloc | apply Kd.R_drewN | apply Kd.R_drew)); exact aD.out)); (case aS => exact (below_size (by repeat (first | (with_reducible first | exact HB.out | apply below_alloc | apply pw_below_drewN | apply below_drew1 | refine below_set ?_ aR.out) | exact HB.out)))); (case aL => have := LMc7.out; omega); intro v144 w9 ho hb hg hat; rw [← Ny143.out] at ho; have aV := zA (blk_grown (g := aQ) (o := .cells #[.int .i64 aK, .int .i64 aJ, .slice aY aH.length aX] 36 (0, 0)) (by (with_reducible repeat (first | refine blk_drewN ?_ _ | refine blk_drew ?_ | refine blk_alloc ?_ _)); exact aA.out) hg (Kd.R_ne aD.out aA.out (by decide))); have aU := zA (hb); have aT := zA (ho); clear aA; clear HB; clear aD; have aA := aV; have HB := aU; have bR := aT; clear aV aU aT; clear ho hb hg hat))
     go_roundg k1
     case measure => have := HK1.out; omega
     case rel => exact ⟨(y143), (wrap64 (bD + 1)), (by first | rfl | (simp; done) | (simp [*]; done)), H', ⟨by have := HK1.out; omega⟩, ⟨by (with_reducible repeat (first | apply Kd.R_alloc | apply Kd.R_drewN | apply Kd.R_drew)); exact bR.out⟩, ⟨zkf aA⟩, ⟨by repeat (first | (with_reducible first | exact HB.out | apply below_alloc | apply pw_below_drewN | apply below_drew1 | refine below_set ?_ aR.out) | exact HB.out)⟩⟩
    ·rw [if_neg c7] at H
     exact absurd H (by simp)
   ·rw [if_neg c6] at H
    have bI : decide (bD < (aH.length : Int)) = false := decide_eq_false c6
    clear c6
    by_cases c10 : 0 ≤ a1
    ·rw [if_pos c10] at H
     have c10b0 : decide (0 ≤ a1) = true := decide_eq_true c10
     clear c10
     by_cases c11 : a1 < (aZ.length : Int)
     ·rw [if_pos c11] at H
      have c11b0 : decide (a1 < (aZ.length : Int)) = true := decide_eq_true c11
      clear c11
      obtain ⟨bH, hy146⟩ : ∃ y_ : List Int, y_ = (aZ.set (a1 : Int).toNat 0) := ⟨_, rfl⟩
      replace H : (spec_l5From.l1 k1 bH (([a1] : List Int)) 0 aK aJ aH) = some r := zY hy146 H
      have Ny146 := zA hy146
      clear hy146
      obtain ⟨y147, hy147⟩ : ∃ y_ : List Int, y_ = (([a1] : List Int)) := ⟨_, rfl⟩
      replace H : (spec_l5From.l1 k1 bH y147 0 aK aJ aH) = some r := zY hy147 H
      have Ny147 := zA hy147
      clear hy147
      have H' := zA H
      clear H
      have hcz13_0 : wr.cell? ⟨aQ, 0, none⟩ = some (.int .i64 aK) := (blk_cell aA.out 0).trans rfl
      have hcz13_1 : wr.cell? ⟨aQ, 1, none⟩ = some (.int .i64 aJ) := (blk_cell aA.out 1).trans rfl
      have hcz13_2 : wr.cell? ⟨aQ, 2, none⟩ = some (.slice aY aH.length aX) := (blk_cell aA.out 2).trans rfl
      have hfz13_0 := blk_frozen aA.out 0
      have hfz13_1 := blk_frozen aA.out 1
      have hfz13_2 := blk_frozen aA.out 2
      have p12 : 0 ≤ (a1 : Int) := of_decide_eq_true (by first | (with_reducible assumption) | assumption)
      have q12 : (a1 : Int) < ((aZ.length : Int) : Int) := of_decide_eq_true (by first | (with_reducible assumption) | assumption)
      obtain ⟨go12, bF, eo12, gb12, gl12, cl12, HG12⟩ := Kd.R_form aD.out (by omega)
      (first | cases eo12 | (injection eo12 with ea_ en_ ec_; (first | subst ea_ | (injection ea_ with ea_; subst ea_)); subst ec_; clear en_))
      have GB12 := zA gb12
      have GG12 := zA HG12
      clear gb12 gl12 HG12
      obtain ⟨hx12_0, hf12_0⟩ := Kd.R_celln 0 aD.out (a1 : Int) p12 q12
      replace p12 := eq_true p12
      replace q12 := eq_true q12
      have HP14 := Kd.R_putg aD.out (a1 : Int) 0
      go_wp2_with (first | ((with_reducible refine gate_store (t := 3) (p := 24) rfl ?_); refine store_event (t := 3) (p := 24) (v := ?vo_w15) (w1 := (wr.setCell ⟨go12, (a1 : Int).toNat, none⟩ (.int .i64 0))) ?hg ?ho ?hn ?hr ?_; (case ho => rfl); (case hg => rfl); (case hn => rfl); (case hr => first | (go_simp; done) | (go_simp; rfl)); intro bM hw; have hg : wr.grownBy bM (some go12) := (by rw [hw]; exact HP14.2); have hp_ : Kd.R (Kd.int .i64) 3 bM w.heap.size (fun _ => True) (.slice (some ⟨go12, 0, none⟩) aZ.length bF) bH := (by rw [hw, Ny146.out]; exact HP14.1); clear HP14; have aV := zA (hp_); have aU := zA (blk_grown (g := aQ) (o := .cells #[.int .i64 aK, .int .i64 aJ, .slice aY aH.length aX] 36 (0, 0)) (by (with_reducible repeat (first | refine blk_drewN ?_ _ | refine blk_drew ?_ | refine blk_alloc ?_ _)); exact aA.out) hg (Kd.R_ne aD.out aA.out (by decide))); have aT := zA ((by rw [hw]; exact below_set (HB.out) GB12.out : Below w.heap.size w bM)); clear aD; clear aA; clear HB; have aD := aV; have aA := aU; have HB := aT; clear aV aU aT; clear hg hw hp_) | ((with_reducible refine gate_dst (N := 26) rfl ?_); refine Kd.R_lit (Kd.int .i64) _ 3 ?hg (N := 26) ?hd (xs := ([a1] : List Int)) (inner := [.int .i64 a1]) (ok := fun _ => True) (okp := fun _ => True) ?hr ?hp (fun _ hk => hk) trivial (Below.refl _ _) (Nat.le_refl _) (by simp) ?_; (case hd => rfl); (case hg => rfl); (case hr => first | (go_simp; done) | (go_simp; rfl)); (case hp => exact (Reps.one (show Kd.M (Kd.int .i64) _ _ _ a1 [.int .i64 a1] from rfl) (Reps.none _ _))); intro v148 bY ho17 hb hg_ hnew_; clear hg_ hnew_; (first | rw [← Ny147.out] at ho17 | (simp only [Int.reduceToNat] at ho17; rw [← Ny147.out] at ho17)); have aV := zA (Kd.R_elder' (by (with_reducible repeat (first | apply Kd.R_alloc | apply Kd.R_drewN | apply Kd.R_drew)); exact aD.out) (Kd.R_base ho17) hb); have aU := zA (Kd.R_lower (Kd.R_new' ho17 (Kd.R_lt (by (with_reducible repeat (first | apply Kd.R_alloc | apply Kd.R_drewN | apply Kd.R_drew)); exact aD.out))) (below_size (by repeat (first | (with_reducible first | exact HB.out | apply below_alloc | apply pw_below_drewN | apply below_drew1 | refine below_set ?_ aR.out) | exact HB.out)))); have aT := zA (blk_below (g := aQ) (o := .cells #[.int .i64 aK, .int .i64 aJ, .slice aY aH.length aX] 36 (0, 0)) (by (with_reducible repeat (first | refine blk_drewN ?_ _ | refine blk_drew ?_ | refine blk_alloc ?_ _)); exact aA.out) hb); have bA := zA (below_step (by repeat (first | (with_reducible first | exact HB.out | apply below_alloc | apply pw_below_drewN | apply below_drew1 | refine below_set ?_ aR.out) | exact HB.out)) hb); clear aD; clear aA; clear HB; have aD := aV; have bQ := aU; have aA := aT; have HB := bA; clear aV aU aT bA; clear hb ho17))
      go_loopg [7, 8] k1 (fun kq v7 v8 w' => ∃ (bE : List Int) (bB : List Int) (aE : Int), v8 = .int .i64 aE ∧ Aside0 (spec_l5From.l1 kq bE bB aE aK aJ aH = some r) ∧ Aside0 (kq ≤ k1) ∧ Aside0 (Kd.R (Kd.int .i64) 3 w' w.heap.size (fun k_ => some k_ ≠ (v7 : Value).ownBlock) (.slice (some ⟨go12, 0, none⟩) aZ.length bF) bE) ∧ Aside0 (Kd.R (Kd.int .i64) 3 w' w.heap.size (fun k_ => some k_ ≠ ((.slice (some ⟨go12, 0, none⟩) aZ.length bF) : Value).ownBlock) v7 bB) ∧ Aside0 (w'.heap[aQ]? = some (.cells #[.int .i64 aK, .int .i64 aJ, (.slice aY aH.length aX)] 36 (0, 0))) ∧ Aside0 (Below w.heap.size w w'))
      case atStart => exact ⟨(bH), (y147), (0), (by first | rfl | (simp; done) | (simp [*]; done)), H', ⟨Nat.le_refl _⟩, ⟨by (with_reducible repeat (first | apply Kd.R_alloc | apply Kd.R_drewN | apply Kd.R_drew)); exact Kd.R_mono aD.out (fun _ hk => hk.2)⟩, ⟨by (with_reducible repeat (first | apply Kd.R_alloc | apply Kd.R_drewN | apply Kd.R_drew)); exact Kd.R_mono bQ.out (fun _ hk => hk.2)⟩, ⟨zkf aA⟩, ⟨by repeat (first | (with_reducible first | exact HB.out | apply below_alloc | apply pw_below_drewN | apply below_drew1 | refine below_set ?_ aR.out) | exact HB.out)⟩⟩
      case round =>
       clear H'
       try clear c1
       try clear p1
       try clear q1
       try clear hx1
       try clear p2
       try clear c6
       try clear bI
       try clear p6
       try clear c7
       try clear c10
       try clear c10b0
       try clear c11
       try clear c11b0
       try clear p12
       try clear q12
       try clear hx12
       try clear hf12
       try clear hcz13_0
       try clear hcz13_1
       try clear hcz13_2
       try clear hcz8_0
       try clear hcz8_1
       try clear hcz8_2
       try clear hfz13_0
       try clear hfz13_1
       try clear hfz13_2
       try clear hfz8_0
       try clear hfz8_1
       try clear hfz8_2
       try clear hx12_0
       try clear p12
       try clear p2
       try clear q12
       obtain ⟨bE, bB, aE, rfl, HA, HK2, aD, aN, aA, HB⟩ := hrel
       have hl5_2 := (Kd.R_reads' aD.out).1
       rw [hl5_2] at aD
       (try simp only [hl5_2])
       (try simp only [hl5_2] at aA)
       (try simp only [hl5_2] at aN)
       cases gk with
       | zero => exact absurd HA.out (by simp [spec_l5From.l1])
       | succ k2 =>
        have H := HA.out
        clear HA
        simp only [spec_l5From.l1] at H
        by_cases c18 : aE < (bB.length : Int)
        ·rw [if_pos c18] at H
         have bL : decide (aE < (bB.length : Int)) = true := decide_eq_true c18
         clear c18
         by_cases c19 : 0 ≤ aE
         ·rw [if_pos c19] at H
          have c19b0 : decide (0 ≤ aE) = true := decide_eq_true c19
          clear c19
          replace H := Option.bind_eq_some_iff.mp H
          obtain ⟨aG, A200, H⟩ := H
          replace H : (spec_l5From.l2 k2 bE bB aE aG 0 aK aJ aH) = some r := H
          have A20 := zA A200
          clear A200
          have H' := zA H
          clear H
          obtain ⟨Ao21, co21, eo21⟩ := Kd.R_slice aN.out
          subst eo21
          try go_wp2
          have aV := zA (Kd.R_drew aD.out)
          have aU := zA (Kd.R_drew aN.out)
          have aT := zA (blk_drew aA.out)
          have bA := zA (below_drew1 HB.out)
          clear aD
          clear aN
          clear aA
          clear HB
          have aD := aV
          have aN := aU
          have aA := aT
          have HB := bA
          clear aV aU aT bA
          have p150 : 0 ≤ (aE : Int) := of_decide_eq_true (by first | (with_reducible assumption) | assumption)
          have q150 : aE < (bB.length : Int) := of_decide_eq_true (by first | (with_reducible assumption) | assumption)
          obtain ⟨ad150, e150, hx150_0⟩ := Kd.at_int (Kd.R_reads' aN.out).2.2 aE p150 q150
          cases e150
          replace p150 := eq_true p150
          replace q150 := eq_true q150
          refine start_ (n := 7) (S := fun w' => w'.cell? ⟨aQ, 0, none⟩ = some (.int .i64 aK) ∧ w'.cell? ⟨aQ, 1, none⟩ = some (.int .i64 aJ) ∧ w'.cell? ⟨aQ, 2, none⟩ = some (.slice aY aH.length aX) ∧ w'.cell? (ad150.add (aE).toNat) = some (.int .i64 (rd bB aE))) (ds := []) #[false, false, false, false, false, false, false] (by kernel_rfl) rfl rfl ⟨(blk_cell aA.out 0).trans rfl, (blk_cell aA.out 1).trans rfl, (blk_cell aA.out 2).trans rfl, hx150_0⟩ (fun hHeld => ?_)
          generalize wr.drew = bX at aD aN aA HB hx150_0 hHeld ⊢
          refine pure_ (i := 1) (N := some 34) (v := ?_) (a' := ?_) #[false, true, false, false, false, false, false] rfl rfl (by kernel_rfl) (fun _ _ _ h => h) (Or.inl ⟨by rfl, ?_⟩) ?_ ?_
          rotate_left
          ·intro w'
           go_simp
           with_reducible rfl
          rotate_left
          ·simp only [Act.put, List.setIfInBounds_toArray, List.set_cons_zero, List.set_cons_succ, i64_w, i32_w]
           rfl
          refine pure_ (i := 2) (N := some 35) (v := ?_) (a' := ?_) #[false, true, true, false, false, false, false] rfl rfl (by kernel_rfl) (fun _ _ _ h => h) (Or.inl ⟨by rfl, ?_⟩) ?_ ?_
          rotate_left
          ·intro w'
           go_simp
           with_reducible rfl
          rotate_left
          ·simp only [Act.put, List.setIfInBounds_toArray, List.set_cons_zero, List.set_cons_succ, i64_w, i32_w]
           rfl
          refine pure_ (i := 3) (N := some 36) (v := ?_) (a' := ?_) #[false, true, true, true, false, false, false] rfl rfl (by kernel_rfl) (fun _ _ _ h => h) (Or.inl ⟨by rfl, ?_⟩) ?_ ?_
          rotate_left
          ·intro w'
           go_simp
           with_reducible rfl
          rotate_left
          ·simp only [Act.put, List.setIfInBounds_toArray, List.set_cons_zero, List.set_cons_succ, i64_w, i32_w]
           rfl
          refine take_ (i := 0) (N := some 33) (v := ?_) (a' := ?_) #[true, true, true, true, false, false, false] rfl rfl (by kernel_rfl) (fun _ _ _ h => h) (Or.inl ⟨by rfl, ?_⟩) hHeld ?_ ?_
          rotate_left
          ·rintro w' ⟨s0, s1, s2, s3⟩
           go_simp
           with_reducible rfl
          rotate_left
          ·simp only [Act.put, List.setIfInBounds_toArray, List.set_cons_zero, List.set_cons_succ, i64_w, i32_w]
           rfl
          refine take_ (i := 4) (N := some 37) (v := ?_) (a' := ?_) #[true, true, true, true, true, false, false] rfl rfl (by kernel_rfl) (fun _ _ _ h => h) (Or.inl ⟨by rfl, ?_⟩) hHeld ?_ ?_
          rotate_left
          ·rintro w' ⟨s0, s1, s2, s3⟩
           go_simp
           with_reducible rfl
          rotate_left
          ·simp only [Act.put, List.setIfInBounds_toArray, List.set_cons_zero, List.set_cons_succ, i64_w, i32_w]
           rfl
          refine one_ (i := 5) (N := some 38) #[true, true, true, true, true, true, false] rfl rfl (by kernel_rfl) (by decide) (fun K hK => ?_)
          refine goes_ Try.func71 (by kernel_rfl) rfl #[.agg #[.int .i64 aK, .int .i64 aJ, .slice aY aH.length aX], .int .i64 (rd bB aE)] (by rfl) rfl rfl (by (try simp only [List.map_toArray, List.map_cons, List.map_nil]); first | done | rfl | (simp only [List.length_drop, List.length_take]; rfl)) ?_
          with_reducible refine (spec_l4Near.calls k2 aK aJ _ _ aH (rd bB aE) aG _ ?side1 ?side2 A20.out).mono ?_
          (case side1 => repeat (first | exact (Kd.C_below HR0_2.out HB.out) | (with_reducible refine Kd.C_alloc ?_ _) | (with_reducible refine Kd.C_drewN ?_ _) | (with_reducible refine Kd.C_drew ?_)))
          (case side2 => exact HC0_2.out)
          rintro e bW ⟨v152, rfl, ho0, hb⟩
          have HS3_ := (hb.cell (World.block_lt_of_cell? _ _ (hHeld.2.2.2))).trans (hHeld.2.2.2)
          refine ⟨_, rfl, ?_⟩
          have aV := zA (Kd.R_elder' (by (with_reducible repeat (first | apply Kd.R_alloc | apply Kd.R_drewN | apply Kd.R_drew)); exact aD.out) (Kd.R_base ho0) hb)
          have aU := zA (Kd.R_elder' (by (with_reducible repeat (first | apply Kd.R_alloc | apply Kd.R_drewN | apply Kd.R_drew)); exact aN.out) (Kd.R_base ho0) hb)
          have aT := zA (Kd.R_lower (Kd.R_new' (Kd.R_new' ho0 (Kd.R_lt (by (with_reducible repeat (first | apply Kd.R_alloc | apply Kd.R_drewN | apply Kd.R_drew)); exact aD.out))) (Kd.R_lt (by (with_reducible repeat (first | apply Kd.R_alloc | apply Kd.R_drewN | apply Kd.R_drew)); exact aN.out))) (below_size (by repeat (first | (with_reducible first | exact HB.out | apply below_alloc | apply pw_below_drewN | apply below_drew1 | refine below_set ?_ aR.out) | exact HB.out))))
          have bA := zA (blk_below (g := aQ) (o := .cells #[.int .i64 aK, .int .i64 aJ, .slice aY aH.length aX] 36 (0, 0)) (by (with_reducible repeat (first | refine blk_drewN ?_ _ | refine blk_drew ?_ | refine blk_alloc ?_ _)); exact aA.out) hb)
          have bG := zA (below_step (by repeat (first | (with_reducible first | exact HB.out | apply below_alloc | apply pw_below_drewN | apply below_drew1 | refine below_set ?_ aR.out) | exact HB.out)) hb)
          clear aD
          clear aN
          clear aA
          clear HB
          have aD := aV
          have aN := aU
          have HO153 := aT
          have aA := bA
          have HB := bG
          clear aV aU aT bA bG
          (try clear hb)
          (try clear hb2)
          (try clear hk)
          (try clear hi)
          (try clear ho0)
          refine hK.out _ _ ⟨(blk_cell aA.out 0).trans rfl, (blk_cell aA.out 1).trans rfl, (blk_cell aA.out 2).trans rfl, HS3_⟩ (fun hHeld => ?_)
          clear hK K
          refine norm_ (a' := ?_) ?_ ?_
          rotate_left
          ·show Act.put _ (some 38) _ = _
           simp only [Act.put, List.setIfInBounds_toArray, List.set_cons_zero, List.set_cons_succ, i64_w, i32_w]
           rfl
          refine pure_ (i := 6) (N := some 9) (v := ?_) (a' := ?_) #[true, true, true, true, true, true, true] rfl rfl (by kernel_rfl) (fun _ _ _ h => h) (Or.inl ⟨by rfl, ?_⟩) ?_ ?_
          rotate_left
          ·intro w'
           go_simp
           with_reducible rfl
          rotate_left
          ·simp only [Act.put, List.setIfInBounds_toArray, List.set_cons_zero, List.set_cons_succ, i64_w, i32_w]
           rfl
          refine done_ (by kernel_rfl) ?_
          try go_wp2
          go_loopg [7, 10] k2 (fun kq v7 v10 w' => ∃ (aM : List Int) (aI : List Int) (aC : Int), v10 = .int .i64 aC ∧ Aside0 (spec_l5From.l2 kq aM aI aE aG aC aK aJ aH = some r) ∧ Aside0 (kq ≤ k2) ∧ Aside0 (Kd.R (Kd.int .i64) 3 w' w.heap.size (fun k_ => some k_ ≠ (v7 : Value).ownBlock ∧ some k_ ≠ (v152 : Value).ownBlock) (.slice (some ⟨go12, 0, none⟩) bE.length bF) aM) ∧ Aside0 (Kd.R (Kd.int .i64) 3 w' w.heap.size (fun k_ => some k_ ≠ ((.slice (some ⟨go12, 0, none⟩) bE.length bF) : Value).ownBlock ∧ some k_ ≠ (v152 : Value).ownBlock) v7 aI) ∧ Aside0 (Kd.R (Kd.int .i64) 3 w' w.heap.size (fun k_ => some k_ ≠ ((.slice (some ⟨go12, 0, none⟩) bE.length bF) : Value).ownBlock ∧ some k_ ≠ (v7 : Value).ownBlock) v152 aG) ∧ Aside0 (w'.heap[aQ]? = some (.cells #[.int .i64 aK, .int .i64 aJ, (.slice aY aH.length aX)] 36 (0, 0))) ∧ Aside0 (Below w.heap.size w w'))
          case atStart => exact ⟨(bE), (bB), (0), (by first | rfl | (simp; done) | (simp [*]; done)), H', ⟨Nat.le_refl _⟩, ⟨by (try simp only [hl5_2]); (with_reducible repeat (first | apply Kd.R_alloc | apply Kd.R_drewN | apply Kd.R_drew)); exact aD.out⟩, ⟨by (try simp only [hl5_2]); (with_reducible repeat (first | apply Kd.R_alloc | apply Kd.R_drewN | apply Kd.R_drew)); exact aN.out⟩, ⟨by (try simp only [hl5_2]); (with_reducible repeat (first | apply Kd.R_alloc | apply Kd.R_drewN | apply Kd.R_drew)); exact Kd.R_mono HO153.out (fun _ hk => ⟨hk.1.2, hk.2⟩)⟩, ⟨by (try simp only [hl5_2]); (with_reducible repeat (first | refine blk_drewN ?_ _ | refine blk_drew ?_ | refine blk_alloc ?_ _)); exact aA.out⟩, ⟨by repeat (first | (with_reducible first | exact HB.out | apply below_alloc | apply pw_below_drewN | apply below_drew1 | refine below_set ?_ aR.out) | exact HB.out)⟩⟩
          case round =>
           clear H'
           try clear c1
           try clear p1
           try clear q1
           try clear hx1
           try clear p2
           try clear c6
           try clear bI
           try clear p6
           try clear c7
           try clear c10
           try clear c10b0
           try clear c11
           try clear c11b0
           try clear p12
           try clear q12
           try clear hx12
           try clear hf12
           try clear p15
           try clear q15
           try clear hx15
           try clear c18
           try clear bL
           try clear c19
           try clear c19b0
           try clear hcz13_0
           try clear hcz13_1
           try clear hcz13_2
           try clear hcz8_0
           try clear hcz8_1
           try clear hcz8_2
           try clear hfz13_0
           try clear hfz13_1
           try clear hfz13_2
           try clear hfz8_0
           try clear hfz8_1
           try clear hfz8_2
           try clear hx12_0
           try clear hx150_0
           try clear p1
           try clear p12
           try clear p150
           try clear p2
           try clear p6
           try clear q1
           try clear q12
           try clear q150
           obtain ⟨aM, aI, aC, rfl, HA, HK3, aD, aN, aW, aA, HB⟩ := hrel
           have hl5_3 := (Kd.R_reads' aD.out).1
           rw [hl5_3] at aD
           (try simp only [hl5_3])
           (try simp only [hl5_3] at aA)
           (try simp only [hl5_3] at aN)
           (try simp only [hl5_3] at aW)
           cases gk with
           | zero => exact absurd HA.out (by simp [spec_l5From.l2])
           | succ k3 =>
            have H := HA.out
            clear HA
            simp only [spec_l5From.l2] at H
            by_cases c24 : aC < (aG.length : Int)
            ·rw [if_pos c24] at H
             have bO : decide (aC < (aG.length : Int)) = true := decide_eq_true c24
             clear c24
             by_cases c25 : 0 ≤ aC
             ·rw [if_pos c25] at H
              have c25b0 : decide (0 ≤ aC) = true := decide_eq_true c25
              clear c25
              by_cases c26 : 0 ≤ (rd aG aC)
              ·rw [if_pos c26] at H
               have c26b0 : decide (0 ≤ (rd aG aC)) = true := decide_eq_true c26
               clear c26
               by_cases c27 : (rd aG aC) < (aM.length : Int)
               ·rw [if_pos c27] at H
                have c27b0 : decide ((rd aG aC) < (aM.length : Int)) = true := decide_eq_true c27
                clear c27
                by_cases c28 : (rd aM (rd aG aC)) < 0
                ·rw [if_pos c28] at H
                 have bN : decide ((rd aM (rd aG aC)) < 0) = true := decide_eq_true c28
                 clear c28
                 by_cases c29 : 0 ≤ aE
                 ·rw [if_pos c29] at H
                  have c29b0 : decide (0 ≤ aE) = true := decide_eq_true c29
                  clear c29
                  by_cases c30 : aE < (aI.length : Int)
                  ·rw [if_pos c30] at H
                   have c30b0 : decide (aE < (aI.length : Int)) = true := decide_eq_true c30
                   clear c30
                   by_cases c31 : 0 ≤ (rd aI aE)
                   ·rw [if_pos c31] at H
                    have c31b0 : decide (0 ≤ (rd aI aE)) = true := decide_eq_true c31
                    clear c31
                    by_cases c32 : (rd aI aE) < (aM.length : Int)
                    ·rw [if_pos c32] at H
                     have c32b0 : decide ((rd aI aE) < (aM.length : Int)) = true := decide_eq_true c32
                     clear c32
                     obtain ⟨y159, hy159⟩ : ∃ y_ : List Int, y_ = (aM.set ((rd aG aC) : Int).toNat (wrap64 ((rd aM (rd aI aE)) + 1))) := ⟨_, rfl⟩
                     replace H : (if aI.length < 17592186044416 then (spec_l5From.l2 k3 y159 (aI ++ [rd aG aC]) aE aG (wrap64 (aC + 1)) aK aJ aH) else (none)) = some r := zY hy159 H
                     have Ny159 := zA hy159
                     clear hy159
                     by_cases c34 : aI.length < 17592186044416
                     ·rw [if_pos c34] at H
                      have LMc34 := zA c34
                      clear c34
                      obtain ⟨y160, hy160⟩ : ∃ y_ : List Int, y_ = (aI ++ [rd aG aC]) := ⟨_, rfl⟩
                      replace H : (spec_l5From.l2 k3 y159 y160 aE aG (wrap64 (aC + 1)) aK aJ aH) = some r := zY hy160 H
                      have Ny160 := zA hy160
                      clear hy160
                      have H' := zA H
                      clear H
                      obtain ⟨Ao35, co35, eo35⟩ := Kd.R_slice aW.out
                      subst eo35
                      have p154 : 0 ≤ (aC : Int) := of_decide_eq_true (by first | (with_reducible assumption) | assumption)
                      have q154 : aC < (aG.length : Int) := of_decide_eq_true (by first | (with_reducible assumption) | assumption)
                      obtain ⟨ad154, e154, hx154_0⟩ := Kd.at_int (Kd.R_reads' aW.out).2.2 aC p154 q154
                      cases e154
                      replace p154 := eq_true p154
                      replace q154 := eq_true q154
                      have p155 : 0 ≤ ((rd aG aC) : Int) := of_decide_eq_true (by first | (with_reducible assumption) | assumption)
                      have q155 : (rd aG aC) < (aM.length : Int) := of_decide_eq_true (by first | (with_reducible assumption) | assumption)
                      obtain ⟨ad155, e155, hx155_0⟩ := Kd.at_int (Kd.R_reads' aD.out).2.2 (rd aG aC) p155 q155
                      obtain rfl : (⟨go12, 0, none⟩ : Addr) = ad155 := (by injection e155)
                      (first | simp only [add_plain] at hx155_0 | simp only [add_at] at hx155_0 | simp only [Addr.add, Nat.zero_add] at hx155_0 | skip)
                      replace p155 := eq_true p155
                      replace q155 := eq_true q155
                      try go_wp2
                      have aV := zA (Kd.R_drew aD.out)
                      have aU := zA (Kd.R_drew aN.out)
                      have aT := zA (Kd.R_drew aW.out)
                      have bA := zA (blk_drew aA.out)
                      have bG := zA (below_drew1 HB.out)
                      clear aD
                      clear aN
                      clear aW
                      clear aA
                      clear HB
                      have aD := aV
                      have aN := aU
                      have aW := aT
                      have aA := bA
                      have HB := bG
                      clear aV aU aT bA bG
                      have p156 : 0 ≤ (aC : Int) := of_decide_eq_true (by first | (with_reducible assumption) | assumption)
                      have q156 : aC < (aG.length : Int) := of_decide_eq_true (by first | (with_reducible assumption) | assumption)
                      obtain ⟨ad156, e156, hx156_0⟩ := Kd.at_int (Kd.R_reads' aW.out).2.2 aC p156 q156
                      obtain rfl : ad154 = ad156 := (by injection e156)
                      replace p156 := eq_true p156
                      replace q156 := eq_true q156
                      obtain ⟨Ao37, co37, eo37⟩ := Kd.R_slice aN.out
                      (first | subst eo37 | (injection eo37 with f1_ f2_ f3_; have f4_ := f1_.symm; have f5_ := f3_.symm; clear f1_ f2_ f3_; subst f4_; subst f5_))
                      have p157 : 0 ≤ (aE : Int) := of_decide_eq_true (by first | (with_reducible assumption) | assumption)
                      have q157 : aE < (aI.length : Int) := of_decide_eq_true (by first | (with_reducible assumption) | assumption)
                      obtain ⟨ad157, e157, hx157_0⟩ := Kd.at_int (Kd.R_reads' aN.out).2.2 aE p157 q157
                      cases e157
                      replace p157 := eq_true p157
                      replace q157 := eq_true q157
                      have p158 : 0 ≤ ((rd aI aE) : Int) := of_decide_eq_true (by first | (with_reducible assumption) | assumption)
                      have q158 : (rd aI aE) < (aM.length : Int) := of_decide_eq_true (by first | (with_reducible assumption) | assumption)
                      obtain ⟨ad158, e158, hx158_0⟩ := Kd.at_int (Kd.R_reads' aD.out).2.2 (rd aI aE) p158 q158
                      obtain rfl : (⟨go12, 0, none⟩ : Addr) = ad158 := (by injection e158)
                      (first | simp only [add_plain] at hx158_0 | simp only [add_at] at hx158_0 | simp only [Addr.add, Nat.zero_add] at hx158_0 | skip)
                      replace p158 := eq_true p158
                      replace q158 := eq_true q158
                      have p33 : 0 ≤ ((rd aG aC) : Int) := of_decide_eq_true (by first | (with_reducible assumption) | assumption)
                      have q33 : ((rd aG aC) : Int) < ((aM.length : Int) : Int) := of_decide_eq_true (by first | (with_reducible assumption) | assumption)
                      obtain ⟨hx33_0, hf33_0⟩ := Kd.R_celln 0 aD.out ((rd aG aC) : Int) p33 q33
                      replace p33 := eq_true p33
                      replace q33 := eq_true q33
                      have HP38 := Kd.R_putn aD.out ((rd aG aC) : Int) (wrap64 ((rd aM (rd aI aE)) + 1))
                      rw [← Ny159.out] at HP38
                      have HQ38 := zA HP38
                      clear HP38
                      refine start_ (n := 15) (S := fun w' => w'.cell? (ad154.add (aC).toNat) = some (.int .i64 (rd aG aC)) ∧ w'.cell? (ad157.add (aE).toNat) = some (.int .i64 (rd aI aE)) ∧ w'.cell? ⟨go12, ((rd aI aE)).toNat, none⟩ = some (.int .i64 (rd aM (rd aI aE)))) (ds := [14]) #[false, false, false, false, false, false, false, false, false, false, false, false, false, false, false] (by kernel_rfl) rfl rfl ⟨hx156_0, hx157_0, hx158_0⟩ (fun hHeld => ?_); refine with_tabW spec_l5From.tab16 spec_l5From.bits16 (fun HT_ HW_ => ?_)
                      generalize wr.drew = bV at aD aN aW aA HB HQ38 hf33_0 hx156_0 hx157_0 hx158_0 hx33_0 hHeld ⊢
                      refine pure_ (i := 0) (N := some 53) (v := ?_) (a' := ?_) #[true, false, false, false, false, false, false, false, false, false, false, false, false, false, false] rfl rfl (any_of HT_.out (by kernel_rfl)) (fun _ _ _ h => h) (Or.inl ⟨by rfl, ?_⟩) ?_ ?_
                      rotate_left
                      ·intro w'
                       go_simp
                       with_reducible rfl
                      rotate_left
                      ·simp only [Act.put, List.setIfInBounds_toArray, List.set_cons_zero, List.set_cons_succ, i64_w, i32_w]
                       rfl
                      refine pure_ (i := 1) (N := some 54) (v := ?_) (a' := ?_) #[true, true, false, false, false, false, false, false, false, false, false, false, false, false, false] rfl rfl (any_of HT_.out (by kernel_rfl)) (fun _ _ _ h => h) (Or.inl ⟨by rfl, ?_⟩) ?_ ?_
                      rotate_left
                      ·intro w'
                       go_simp
                       with_reducible rfl
                      rotate_left
                      ·simp only [Act.put, List.setIfInBounds_toArray, List.set_cons_zero, List.set_cons_succ, i64_w, i32_w]
                       rfl
                      refine pure_ (i := 2) (N := some 55) (v := ?_) (a' := ?_) #[true, true, true, false, false, false, false, false, false, false, false, false, false, false, false] rfl rfl (any_of HT_.out (by kernel_rfl)) (fun _ _ _ h => h) (Or.inl ⟨by rfl, ?_⟩) ?_ ?_
                      rotate_left
                      ·intro w'
                       go_simp
                       with_reducible rfl
                      rotate_left
                      ·simp only [Act.put, List.setIfInBounds_toArray, List.set_cons_zero, List.set_cons_succ, i64_w, i32_w]
                       rfl
                      refine pure_ (i := 3) (N := some 56) (v := ?_) (a' := ?_) #[true, true, true, true, false, false, false, false, false, false, false, false, false, false, false] rfl rfl (any_of HT_.out (by kernel_rfl)) (fun _ _ _ h => h) (Or.inl ⟨by rfl, ?_⟩) ?_ ?_
                      rotate_left
                      ·intro w'
                       go_simp
                       with_reducible rfl
                      rotate_left
                      ·simp only [Act.put, List.setIfInBounds_toArray, List.set_cons_zero, List.set_cons_succ, i64_w, i32_w]
                       rfl
                      refine pure_ (i := 5) (N := some 58) (v := ?_) (a' := ?_) #[true, true, true, true, false, true, false, false, false, false, false, false, false, false, false] rfl rfl (any_of HT_.out (by kernel_rfl)) (fun _ _ _ h => h) (Or.inl ⟨by rfl, ?_⟩) ?_ ?_
                      rotate_left
                      ·intro w'
                       go_simp
                       with_reducible rfl
                      rotate_left
                      ·simp only [Act.put, List.setIfInBounds_toArray, List.set_cons_zero, List.set_cons_succ, i64_w, i32_w]
                       rfl
                      refine pure_ (i := 6) (N := some 59) (v := ?_) (a' := ?_) #[true, true, true, true, false, true, true, false, false, false, false, false, false, false, false] rfl rfl (any_of HT_.out (by kernel_rfl)) (fun _ _ _ h => h) (Or.inl ⟨by rfl, ?_⟩) ?_ ?_
                      rotate_left
                      ·intro w'
                       go_simp
                       with_reducible rfl
                      rotate_left
                      ·simp only [Act.put, List.setIfInBounds_toArray, List.set_cons_zero, List.set_cons_succ, i64_w, i32_w]
                       rfl
                      refine pure_ (i := 7) (N := some 60) (v := ?_) (a' := ?_) #[true, true, true, true, false, true, true, true, false, false, false, false, false, false, false] rfl rfl (any_of HT_.out (by kernel_rfl)) (fun _ _ _ h => h) (Or.inl ⟨by rfl, ?_⟩) ?_ ?_
                      rotate_left
                      ·intro w'
                       go_simp
                       with_reducible rfl
                      rotate_left
                      ·simp only [Act.put, List.setIfInBounds_toArray, List.set_cons_zero, List.set_cons_succ, i64_w, i32_w]
                       rfl
                      refine pure_ (i := 8) (N := some 61) (v := ?_) (a' := ?_) #[true, true, true, true, false, true, true, true, true, false, false, false, false, false, false] rfl rfl (any_of HT_.out (by kernel_rfl)) (fun _ _ _ h => h) (Or.inl ⟨by rfl, ?_⟩) ?_ ?_
                      rotate_left
                      ·intro w'
                       go_simp
                       with_reducible rfl
                      rotate_left
                      ·simp only [Act.put, List.setIfInBounds_toArray, List.set_cons_zero, List.set_cons_succ, i64_w, i32_w]
                       rfl
                      refine take_ (i := 4) (N := some 57) (v := ?_) (a' := ?_) #[true, true, true, true, true, true, true, true, true, false, false, false, false, false, false] rfl rfl (take_ofW HT_.out HW_.out (by kernel_rfl)) (fun _ _ _ h => h) (Or.inl ⟨by rfl, ?_⟩) hHeld ?_ ?_
                      rotate_left
                      ·rintro w' ⟨s0, s1, s2⟩
                       go_simp
                       with_reducible rfl
                      rotate_left
                      ·simp only [Act.put, List.setIfInBounds_toArray, List.set_cons_zero, List.set_cons_succ, i64_w, i32_w]
                       rfl
                      refine take_ (i := 9) (N := some 62) (v := ?_) (a' := ?_) #[true, true, true, true, true, true, true, true, true, true, false, false, false, false, false] rfl rfl (take_ofW HT_.out HW_.out (by kernel_rfl)) (fun _ _ _ h => h) (Or.inl ⟨by rfl, ?_⟩) hHeld ?_ ?_
                      rotate_left
                      ·rintro w' ⟨s0, s1, s2⟩
                       go_simp
                       with_reducible rfl
                      rotate_left
                      ·simp only [Act.put, List.setIfInBounds_toArray, List.set_cons_zero, List.set_cons_succ, i64_w, i32_w]
                       rfl
                      refine pure_ (i := 10) (N := some 63) (v := ?_) (a' := ?_) #[true, true, true, true, true, true, true, true, true, true, true, false, false, false, false] rfl rfl (any_of HT_.out (by kernel_rfl)) (fun _ _ _ h => h) (Or.inl ⟨by rfl, ?_⟩) ?_ ?_
                      rotate_left
                      ·intro w'
                       go_simp
                       with_reducible rfl
                      rotate_left
                      ·simp only [Act.put, List.setIfInBounds_toArray, List.set_cons_zero, List.set_cons_succ, i64_w, i32_w]
                       rfl
                      refine take_ (i := 11) (N := some 64) (v := ?_) (a' := ?_) #[true, true, true, true, true, true, true, true, true, true, true, true, false, false, false] rfl rfl (take_ofW HT_.out HW_.out (by kernel_rfl)) (fun _ _ _ h => h) (Or.inl ⟨by rfl, ?_⟩) hHeld ?_ ?_
                      rotate_left
                      ·rintro w' ⟨s0, s1, s2⟩
                       go_simp
                       with_reducible rfl
                      rotate_left
                      ·simp only [Act.put, List.setIfInBounds_toArray, List.set_cons_zero, List.set_cons_succ, i64_w, i32_w]
                       rfl
                      refine pure_ (i := 12) (N := some 65) (v := ?_) (a' := ?_) #[true, true, true, true, true, true, true, true, true, true, true, true, true, false, false] rfl rfl (any_of HT_.out (by kernel_rfl)) (fun _ _ _ h => h) (Or.inl ⟨by rfl, ?_⟩) ?_ ?_
                      rotate_left
                      ·intro w'
                       go_simp
                       with_reducible rfl
                      rotate_left
                      ·simp only [Act.put, List.setIfInBounds_toArray, List.set_cons_zero, List.set_cons_succ, i64_w, i32_w]
                       rfl
                      refine pure_ (i := 13) (N := some 66) (v := ?_) (a' := ?_) #[true, true, true, true, true, true, true, true, true, true, true, true, true, true, false] rfl rfl (any_of HT_.out (by kernel_rfl)) (fun _ _ _ h => h) (Or.inl ⟨by rfl, ?_⟩) ?_ ?_
                      rotate_left
                      ·intro w'
                       go_simp
                       with_reducible rfl
                      rotate_left
                      ·simp only [Act.put, List.setIfInBounds_toArray, List.set_cons_zero, List.set_cons_succ, i64_w, i32_w]
                       rfl
                      refine last_ (i := 14) (N := none) #[true, true, true, true, true, true, true, true, true, true, true, true, true, true, true] rfl rfl (one_of HT_.out (by kernel_rfl)) (by decide) (fun K hK => ?_)
                      refine skip_ (w1 := ?_) (by rfl) rfl ?_ ?_
                      rotate_left
                      ·go_simp
                       rfl
                      refine hK.out _ _ ?_
                      clear hK K
                      refine done_ (done_of HT_.out (by kernel_rfl)) ?_
                      obtain ⟨adN_, eN_, hxN_⟩ := Kd.at_int (Kd.R_reads' (Kd.R_mono (Kd.R_far (p := ⟨go12, ((rd aG aC) : Int).toNat, none⟩) (Kd.R_mono aW.out (fun k_ hk => (⟨hk, fun e_ => hk.1 (by rw [e_]; rfl)⟩ : _ ∧ k_ ≠ go12))) (fun _ hk => hk.2) (.int .i64 (wrap64 ((rd aM (rd aI aE)) + 1)))) (fun _ h_ => h_.1))).2.2 aC (of_decide_eq_true (by first | (with_reducible assumption) | assumption)) (of_decide_eq_true (by first | (with_reducible assumption) | assumption)); cases eN_
                      try go_wp2_with (first | ((with_reducible refine gate_builtin (b := .append) (xs := #[.tmp 67, .tmp 72]) rfl ?_); at_builtin; refine Kd.R_append (Kd.int .i64) (w0 := w) w.heap.size rfl (.tmp 67) (.tmp 72) 22 3 (.int .i64 0) 8 rfl Try.underlying22 info3 rfl (by decide) (by omega) (.slice (some ad157) aI.length co37) aI (rd aG aC) [.int .i64 (rd aG aC)] (fun k_ => some k_ ≠ (.slice (some ⟨go12, 0, none⟩) aM.length bF : Value).ownBlock ∧ some k_ ≠ (.slice (some ad154) aG.length co35 : Value).ownBlock) (fun _ => False) rfl (by first | (go_simp; done) | (go_simp; rfl)) ?aP (fun _ hk => hk.elim) ?aF ?aO ?aB ?aS ?aL ?_; (case aP => exact rfl); (case aB => exact (by repeat (first | (with_reducible first | exact HB.out | apply below_alloc | apply pw_below_drewN | apply below_drew1 | refine below_set ?_ GB12.out | refine below_set ?_ aR.out) | exact HB.out))); (case aF => exact (fun k_ hk => ⟨Kd.fresh' (Kd.R_lt (by (with_reducible repeat (first | apply Kd.R_alloc | apply Kd.R_drewN | apply Kd.R_drew)); exact HQ38.out)) k_ hk, Kd.fresh' (Kd.R_lt (by (with_reducible repeat (first | apply Kd.R_alloc | apply Kd.R_drewN | apply Kd.R_drew)); exact (Kd.R_mono (Kd.R_far (p := ⟨go12, ((rd aG aC) : Int).toNat, none⟩) (Kd.R_mono aW.out (fun k_ hk => (⟨hk, fun e_ => hk.1 (by rw [e_]; rfl)⟩ : _ ∧ k_ ≠ go12))) (fun _ hk => hk.2) (.int .i64 (wrap64 ((rd aM (rd aI aE)) + 1)))) (fun _ h_ => h_.1)))) k_ hk⟩)); (case aO => exact (by (with_reducible repeat (first | apply Kd.R_alloc | apply Kd.R_drewN | apply Kd.R_drew)); exact Kd.R_mono (Kd.R_far (p := ⟨go12, ((rd aG aC) : Int).toNat, none⟩) (Kd.R_mono aN.out (fun k_ hk => (⟨hk, fun e_ => hk.1 (by rw [e_]; rfl)⟩ : _ ∧ k_ ≠ go12))) (fun _ hk => hk.2) (.int .i64 (wrap64 ((rd aM (rd aI aE)) + 1)))) (fun _ hk => ⟨hk.1.1, hk.1.2⟩))); (case aS => exact (below_size (by repeat (first | (with_reducible first | exact HB.out | apply below_alloc | apply pw_below_drewN | apply below_drew1 | refine below_set ?_ GB12.out | refine below_set ?_ aR.out) | exact HB.out)))); (case aL => have := LMc34.out; omega); intro v161 bU ho hb hg hat; rw [← Ny160.out] at ho; have aV := zA (Kd.R_after (ok := (fun k_ => some k_ ≠ (.slice (some ad154) aG.length co35 : Value).ownBlock)) (by (with_reducible repeat (first | apply Kd.R_alloc | apply Kd.R_drewN | apply Kd.R_drew)); exact Kd.R_mono HQ38.out (fun _ hk => ⟨hk.2, hk.1⟩)) hg hat); have aU := zA (Kd.R_after (ok := (fun k_ => some k_ ≠ (.slice (some ⟨go12, 0, none⟩) aM.length bF : Value).ownBlock)) (by (with_reducible repeat (first | apply Kd.R_alloc | apply Kd.R_drewN | apply Kd.R_drew)); exact Kd.R_mono (Kd.R_far (p := ⟨go12, ((rd aG aC) : Int).toNat, none⟩) (Kd.R_mono aW.out (fun k_ hk => (⟨hk, fun e_ => hk.1 (by rw [e_]; rfl)⟩ : _ ∧ k_ ≠ go12))) (fun _ hk => hk.2) (.int .i64 (wrap64 ((rd aM (rd aI aE)) + 1)))) (fun _ hk => ⟨hk.1.1, hk.1.2⟩)) hg hat); have aT := zA (blk_grown (g := aQ) (o := .cells #[.int .i64 aK, .int .i64 aJ, .slice aY aH.length aX] 36 (0, 0)) (by (with_reducible repeat (first | refine blk_drewN ?_ _ | refine blk_drew ?_ | refine blk_alloc ?_ _)); refine blk_far ?_ (by have h_ := Kd.R_ne aD.out aA.out (by decide); intro e_; exact h_ (by rw [e_]; rfl)) _; (with_reducible repeat (first | refine blk_drewN ?_ _ | refine blk_drew ?_ | refine blk_alloc ?_ _)); exact aA.out) hg (Kd.R_ne aN.out aA.out (by decide))); have bA := zA (hb); have bG := zA (ho); clear aD; clear aW; clear aA; clear HB; clear aN; have aD := aV; have aW := aU; have aA := aT; have HB := bA; have bP := bG; clear aV aU aT bA bG; clear ho hb hg hat))
                      (try simp only [← hl5_3])
                      go_roundg k3
                      case measure => have := HK1.out; have := HK2.out; have := HK3.out; omega
                      case rel => exact ⟨(y159), (y160), (wrap64 (aC + 1)), (by first | rfl | (simp; done) | (simp [*]; done)), H', ⟨by have := HK1.out; have := HK2.out; have := HK3.out; omega⟩, ⟨by (try simp only [hl5_2]); (try simp only [hl5_3]); (with_reducible repeat (first | apply Kd.R_alloc | apply Kd.R_drewN | apply Kd.R_drew)); exact Kd.R_mono aD.out (fun _ hk => ⟨hk.2, hk.1⟩)⟩, ⟨by (try simp only [hl5_2]); (try simp only [hl5_3]); (with_reducible repeat (first | apply Kd.R_alloc | apply Kd.R_drewN | apply Kd.R_drew)); exact bP.out⟩, ⟨by (try simp only [hl5_2]); (try simp only [hl5_3]); (with_reducible repeat (first | apply Kd.R_alloc | apply Kd.R_drewN | apply Kd.R_drew)); exact aW.out⟩, ⟨by (try simp only [hl5_2]); (try simp only [hl5_3]); (with_reducible repeat (first | refine blk_drewN ?_ _ | refine blk_drew ?_ | refine blk_alloc ?_ _)); exact aA.out⟩, ⟨by repeat (first | (with_reducible first | exact HB.out | apply below_alloc | apply pw_below_drewN | apply below_drew1 | refine below_set ?_ aR.out) | exact HB.out)⟩⟩
                     ·rw [if_neg c34] at H
                      exact absurd H (by simp)
                    ·rw [if_neg c32] at H
                     exact absurd H (by simp)
                   ·rw [if_neg c31] at H
                    exact absurd H (by simp)
                  ·rw [if_neg c30] at H
                   exact absurd H (by simp)
                 ·rw [if_neg c29] at H
                  exact absurd H (by simp)
                ·rw [if_neg c28] at H
                 have bN : decide ((rd aM (rd aG aC)) < 0) = false := decide_eq_false c28
                 clear c28
                 have H' := zA H
                 clear H
                 obtain ⟨Ao40, co40, eo40⟩ := Kd.R_slice aW.out
                 subst eo40
                 have p154 : 0 ≤ (aC : Int) := of_decide_eq_true (by first | (with_reducible assumption) | assumption)
                 have q154 : aC < (aG.length : Int) := of_decide_eq_true (by first | (with_reducible assumption) | assumption)
                 obtain ⟨ad154, e154, hx154_0⟩ := Kd.at_int (Kd.R_reads' aW.out).2.2 aC p154 q154
                 cases e154
                 replace p154 := eq_true p154
                 replace q154 := eq_true q154
                 have p155 : 0 ≤ ((rd aG aC) : Int) := of_decide_eq_true (by first | (with_reducible assumption) | assumption)
                 have q155 : (rd aG aC) < (aM.length : Int) := of_decide_eq_true (by first | (with_reducible assumption) | assumption)
                 obtain ⟨ad155, e155, hx155_0⟩ := Kd.at_int (Kd.R_reads' aD.out).2.2 (rd aG aC) p155 q155
                 obtain rfl : (⟨go12, 0, none⟩ : Addr) = ad155 := (by injection e155)
                 (first | simp only [add_plain] at hx155_0 | simp only [add_at] at hx155_0 | simp only [Addr.add, Nat.zero_add] at hx155_0 | skip)
                 replace p155 := eq_true p155
                 replace q155 := eq_true q155
                 go_wp2
                 (try simp only [← hl5_3])
                 go_roundg k3
                 case measure => have := HK1.out; have := HK2.out; have := HK3.out; omega
                 case rel => exact ⟨(aM), (aI), (wrap64 (aC + 1)), (by first | rfl | (simp; done) | (simp [*]; done)), H', ⟨by have := HK1.out; have := HK2.out; have := HK3.out; omega⟩, ⟨by (try simp only [hl5_2]); (try simp only [hl5_3]); (with_reducible repeat (first | apply Kd.R_alloc | apply Kd.R_drewN | apply Kd.R_drew)); exact aD.out⟩, ⟨by (try simp only [hl5_2]); (try simp only [hl5_3]); (with_reducible repeat (first | apply Kd.R_alloc | apply Kd.R_drewN | apply Kd.R_drew)); exact aN.out⟩, ⟨by (try simp only [hl5_2]); (try simp only [hl5_3]); (with_reducible repeat (first | apply Kd.R_alloc | apply Kd.R_drewN | apply Kd.R_drew)); exact aW.out⟩, ⟨by (try simp only [hl5_2]); (try simp only [hl5_3]); (with_reducible repeat (first | refine blk_drewN ?_ _ | refine blk_drew ?_ | refine blk_alloc ?_ _)); exact aA.out⟩, ⟨by repeat (first | (with_reducible first | exact HB.out | apply below_alloc | apply pw_below_drewN | apply below_drew1 | refine below_set ?_ aR.out) | exact HB.out)⟩⟩
               ·rw [if_neg c27] at H
                exact absurd H (by simp)
              ·rw [if_neg c26] at H
               exact absurd H (by simp)
             ·rw [if_neg c25] at H
              exact absurd H (by simp)
            ·rw [if_neg c24] at H
             have bO : decide (aC < (aG.length : Int)) = false := decide_eq_false c24
             clear c24
             have H' := zA H
             clear H
             obtain ⟨Ao41, co41, eo41⟩ := Kd.R_slice aW.out
             subst eo41
             go_wp2
             (try simp only [← hl5_2, ← hl5_3])
             go_roundg k3
             case measure => have := HK1.out; have := HK2.out; have := HK3.out; omega
             case rel => exact ⟨(aM), (aI), (wrap64 (aE + 1)), (by first | rfl | (simp; done) | (simp [*]; done)), H', ⟨by have := HK1.out; have := HK2.out; have := HK3.out; omega⟩, ⟨by (try simp only [hl5_2]); (try simp only [hl5_3]); (with_reducible repeat (first | apply Kd.R_alloc | apply Kd.R_drewN | apply Kd.R_drew)); exact Kd.R_mono aD.out (fun _ hk => hk.1)⟩, ⟨by (try simp only [hl5_2]); (try simp only [hl5_3]); (with_reducible repeat (first | apply Kd.R_alloc | apply Kd.R_drewN | apply Kd.R_drew)); exact Kd.R_mono aN.out (fun _ hk => hk.1)⟩, ⟨by (try simp only [hl5_2]); (try simp only [hl5_3]); (with_reducible repeat (first | refine blk_drewN ?_ _ | refine blk_drew ?_ | refine blk_alloc ?_ _)); exact aA.out⟩, ⟨by repeat (first | (with_reducible first | exact HB.out | apply below_alloc | apply pw_below_drewN | apply below_drew1 | refine below_set ?_ aR.out) | exact HB.out)⟩⟩
         ·rw [if_neg c19] at H
          exact absurd H (by simp)
        ·rw [if_neg c18] at H
         have bL : decide (aE < (bB.length : Int)) = false := decide_eq_false c18
         clear c18
         obtain rfl := zI H
         obtain ⟨Ao42, co42, eo42⟩ := Kd.R_slice aN.out
         subst eo42
         go_wp2
         go_ret
         exact ⟨_, zE, by (with_reducible repeat (first | apply Kd.R_alloc | apply Kd.R_drewN | apply Kd.R_drew)); exact Kd.R_mono aD.out (fun _ hk => trivial), by repeat (first | (with_reducible first | exact HB.out | apply below_alloc | apply pw_below_drewN | apply below_drew1 | refine below_set ?_ aR.out) | exact HB.out)⟩
     ·rw [if_neg c11] at H
      exact absurd H (by simp)
    ·rw [if_neg c10] at H
     exact absurd H (by simp)

mutual
def spec_IsLand.j0 : Nat → Bool → Int → Int → List Int → Option (Bool)
  | 0, _, _, _, _ => none
  | k + 1, x24, x164000, x164001, x164002 => if x24 = true then (some false) else (spec_IsLand.l0 k 0 x164000 x164001 x164002)
def spec_IsLand.l0 : Nat → Int → Int → Int → List Int → Option (Bool)
  | 0, _, _, _, _ => none
  | k + 1, x3, x164000, x164001, x164002 => if x3 < (x164002.length : Int) then (if 0 ≤ x3 then ((spec_l1In.f (rd x164002 x3) 0 2).bind fun t167 => (if t167 = true then (spec_IsLand.l0 k (wrap64 (x3 + 1)) x164000 x164001 x164002) else (some false))) else (none)) else (some true)
end
def spec_IsLand.f (k : Nat) (a0_0 : Int) (a0_1 : Int) (l0_2 : List Int) : Option (Bool) := (spec_l1In.f a0_0 1 8).bind fun t164 => (if t164 = true then ((spec_l1In.f a0_1 1 8).bind fun t165 => (if t165 = true then (spec_IsLand.j0 k ((l0_2.length : Int) != (wrap64 (a0_0 * a0_1))) a0_0 a0_1 l0_2) else (spec_IsLand.j0 k true a0_0 a0_1 l0_2))) else (spec_IsLand.j0 k true a0_0 a0_1 l0_2))
theorem spec_IsLand.calls (k : Nat) (aE : Int) (aG : Int) (aJ : Option Addr) (aI : Nat) (aC : List Int) (r : Bool) (w : World) (bH : Kd.C (Kd.int .i64) w aJ aC.length aC) (bI : aC.length ≤ aI) (h : spec_IsLand.f k aE aG aC = some r) :
  Calls Try.prog 81 #[.agg #[.int .i64 aE, .int .i64 aG, .slice aJ aC.length aI]] w fun e w' => e = .returned (.bool r) ∧ Below w.heap.size w w' := by
 have hu36 := Try.underlying36; have bL := zA bH; have cP := zA bI; clear bH bI; have HB := zA (Below.refl w.heap.size w); have H := h; clear h; unfold spec_IsLand.f at H; have bO := zA H; clear H; go_enter Try.func81, Try.ntmps81
 go_upto_region 1 with (first | ((with_reducible refine gate_dst (N := 1) rfl ?_); (try (refine gate_guard (by rfl) ?_; dsimp only)); refine zbx 1 #[.int .i64 aE, .int .i64 aG, .slice aJ aC.length aI] 36 ?_; intro bJ hg w3 hbox hb; have aA := zA (hbox); have cQ := zga (w := w) hg; replace HB := zbs hb; clear hb hbox hg))
 (try simp only [Act.put, List.setIfInBounds_toArray, List.set_cons_zero, List.set_cons_succ])
 go_cut [24] (fun v24 wc => ∃ (kq : Nat) (aH : Bool), v24 = .bool aH ∧ Aside0 (spec_IsLand.j0 kq aH aE aG aC = some r) ∧ Aside0 (kq ≤ k) ∧ Aside0 (wc.heap[bJ]? = some (.cells #[.int .i64 aE, .int .i64 aG, (.slice aJ aC.length aI)] 36 (0, 0))) ∧ Aside0 (Below w.heap.size w wc))
 case first =>
  have H := bO.out; clear bO; obtain ⟨bT, A4, H⟩ := zB H
  by_cases c5 : bT = true
  ·subst c5; rw [if_pos rfl] at H; obtain ⟨bS, A6, H⟩ := zB H
   by_cases c7 : bS = true
   ·subst c7; rw [if_pos rfl] at H; have H' := zA H; clear H; obtain ⟨bF, bE, bD⟩ := zc3 aA; obtain ⟨aZ, aY, aX⟩ := zf3 aA
    go_wp2_with (first | ((with_reducible refine gate_callee (f := 79) rfl ?_); refine zgl 6 Try.func79 #[.int .i64 aE, .int .i64 1, .int .i64 8] ?_; (with_reducible refine (spec_l1In.calls aE 1 8 true _ A4.out).mono ?_); rintro e w' ⟨rfl, ⟨nd, rfl⟩⟩; refine ⟨_, rfl, ?_⟩) | (go_at_call 79; (with_reducible refine (spec_l1In.calls aG 1 8 true _ A6.out).mono ?_); rintro e w' ⟨rfl, ⟨nd, rfl⟩⟩))
    go_meet
    case rel => exact ⟨_, (((aC.length : Int) != (wrap64 (aE * aG)))), zr, H', ⟨by first | omega | exact Nat.le_refl _⟩, ⟨zk aA⟩, ⟨zb⟩⟩
   ·replace c7 := Bool.eq_false_iff.mpr c7; subst c7; rw [if_neg zNo] at H; have H' := zA H; clear H; obtain ⟨bC, bB, bA⟩ := zc3 aA; obtain ⟨aW, aV, aU⟩ := zf3 aA
    go_wp2_with (first | ((with_reducible refine gate_callee (f := 79) rfl ?_); refine zgl 6 Try.func79 #[.int .i64 aE, .int .i64 1, .int .i64 8] ?_; (with_reducible refine (spec_l1In.calls aE 1 8 true _ A4.out).mono ?_); rintro e w' ⟨rfl, ⟨nd, rfl⟩⟩; refine ⟨_, rfl, ?_⟩) | (go_at_call 79; (with_reducible refine (spec_l1In.calls aG 1 8 false _ A6.out).mono ?_); rintro e w' ⟨rfl, ⟨nd, rfl⟩⟩))
    go_meet
    case rel => exact ⟨_, (true), zr, H', ⟨by first | omega | exact Nat.le_refl _⟩, ⟨zk aA⟩, ⟨zb⟩⟩
  ·replace c5 := Bool.eq_false_iff.mpr c5; subst c5; rw [if_neg zNo] at H; have H' := zA H; clear H; obtain ⟨aT, aR, aQ⟩ := zc3 aA; obtain ⟨aN, aM, aK⟩ := zf3 aA
   go_wp2_with (first | ((with_reducible refine gate_callee (f := 79) rfl ?_); refine zgl 6 Try.func79 #[.int .i64 aE, .int .i64 1, .int .i64 8] ?_; (with_reducible refine (spec_l1In.calls aE 1 8 false _ A4.out).mono ?_); rintro e w' ⟨rfl, ⟨nd, rfl⟩⟩; refine ⟨_, rfl, ?_⟩))
   go_meet
   case rel => exact ⟨_, (true), zr, H', ⟨by first | omega | exact Nat.le_refl _⟩, ⟨zk aA⟩, ⟨zb⟩⟩
 case rest =>
  clear bO; (try clear p2); (try clear c5); (try clear p6); (try clear c7); (try clear c8); (try clear aT); (try clear aR); (try clear aQ); (try clear bF); (try clear bE); (try clear bD); (try clear bC); (try clear bB); (try clear bA); (try clear aN); (try clear aM); (try clear aK); (try clear aZ); (try clear aY); (try clear aX); (try clear aW); (try clear aV); (try clear aU); obtain ⟨kq, aH, rfl, HA, HJ1, aA, HB⟩ := hcut; cases kq with
  | zero => exact absurd HA.out (by simp [spec_IsLand.j0])
  | succ kj1 =>
   have H := HA.out; clear HA; simp only [spec_IsLand.j0] at H
   by_cases bG : aH = true
   ·subst bG; rw [if_pos rfl] at H; obtain rfl := zI H; go_wp2; go_ret; exact ⟨zE, zb⟩
   ·replace bG := Bool.eq_false_iff.mpr bG; subst bG; rw [if_neg zNo] at H; have H' := zA H; clear H; go_wp2
    go_loopg [3] kj1 (fun kq v3 w' => ∃ (aD : Int), v3 = .int .i64 aD ∧ Aside0 (spec_IsLand.l0 kq aD aE aG aC = some r) ∧ Aside0 (kq ≤ kj1) ∧ Aside0 (w'.heap[bJ]? = some (.cells #[.int .i64 aE, .int .i64 aG, (.slice aJ aC.length aI)] 36 (0, 0))) ∧ Aside0 (Below w.heap.size w w'))
    case atStart => exact ⟨(0), zr, H', ⟨Nat.le_refl _⟩, ⟨zk aA⟩, ⟨zb⟩⟩
    case round =>
     clear H'; (try clear c1); (try clear p2); (try clear c5); (try clear p6); (try clear c7); (try clear c8); (try clear bG); (try clear aT); (try clear aR); (try clear aQ); (try clear bF); (try clear bE); (try clear bD); (try clear bC); (try clear bB); (try clear bA); (try clear aN); (try clear aM); (try clear aK); (try clear aZ); (try clear aY); (try clear aX); (try clear aW); (try clear aV); (try clear aU); (try clear p2); (try clear p6); obtain ⟨aD, rfl, HA, HK2, aA, HB⟩ := hrel
     cases gk with
     | zero => exact absurd HA.out (by simp [spec_IsLand.l0])
     | succ k2 =>
      have H := HA.out; clear HA; simp only [spec_IsLand.l0] at H
      by_cases c12 : aD < (aC.length : Int)
      ·rw [if_pos c12] at H; have bP := decide_eq_true c12; clear c12; obtain ⟨cO, H⟩ := zifD H; obtain ⟨bR, bQ, H⟩ := zB H
       by_cases bK : bR = true
       ·subst bK; rw [if_pos rfl] at H; have H' := zA H; clear H; obtain ⟨cM, cL, cK⟩ := zc3 aA; obtain ⟨cD, cC, cB⟩ := zf3 aA; have p166 : 0 ≤ (aD : Int) := zd; have q166 : aD < (aC.length : Int) := zd; obtain ⟨ad166, e166, hx166_0⟩ := Kd.at_int bL.out aD p166 q166; cases e166; replace hx166_0 := (HB.out.cell (World.block_lt_of_cell? w _ hx166_0)).trans hx166_0; replace p166 := eq_true p166; replace q166 := eq_true q166
        go_wp2_with (first | ((with_reducible refine gate_callee (f := 79) rfl ?_); refine zgl 37 Try.func79 #[.int .i64 (rd aC aD), .int .i64 0, .int .i64 2] ?_; (with_reducible refine (spec_l1In.calls (rd aC aD) 0 2 true _ bQ.out).mono ?_); rintro e w' ⟨rfl, ⟨nd, rfl⟩⟩; refine ⟨_, rfl, ?_⟩))
        go_roundg k2
        case measure => have := HJ1.out; have := HK2.out; omega
        case rel => exact ⟨(wrap64 (aD + 1)), zr, H', ⟨by have := HJ1.out; have := HK2.out; omega⟩, ⟨zk aA⟩, ⟨zb⟩⟩
       ·replace bK := Bool.eq_false_iff.mpr bK; subst bK; rw [if_neg zNo] at H; obtain rfl := zI H; obtain ⟨cJ, cI, cH⟩ := zc3 aA; obtain ⟨cA, bZ, bY⟩ := zf3 aA; have p166 : 0 ≤ (aD : Int) := zd; have q166 : aD < (aC.length : Int) := zd; obtain ⟨ad166, e166, hx166_0⟩ := Kd.at_int bL.out aD p166 q166; cases e166; replace hx166_0 := (HB.out.cell (World.block_lt_of_cell? w _ hx166_0)).trans hx166_0; replace p166 := eq_true p166; replace q166 := eq_true q166
        go_wp2_with (first | ((with_reducible refine gate_callee (f := 79) rfl ?_); refine zgl 37 Try.func79 #[.int .i64 (rd aC aD), .int .i64 0, .int .i64 2] ?_; (with_reducible refine (spec_l1In.calls (rd aC aD) 0 2 false _ bQ.out).mono ?_); rintro e w' ⟨rfl, ⟨nd, rfl⟩⟩; refine ⟨_, rfl, ?_⟩))
        go_ret; exact ⟨zE, zb⟩
      ·rw [if_neg c12] at H; have bP := decide_eq_false c12; clear c12; obtain rfl := zI H; obtain ⟨cG, cF, cE⟩ := zc3 aA; obtain ⟨bX, bW, bV⟩ := zf3 aA; go_wp2; go_ret; exact ⟨zE, zb⟩

def spec_IsCell.f (k : Nat) (a0_0 : Int) (a0_1 : Int) (l0_2 : List Int) (a1 : Int) : Option (Bool) := (spec_IsLand.f k a0_0 a0_1 l0_2).bind fun t169 => (if t169 = true then ((spec_l1In.f a1 0 (wrap64 ((l0_2.length : Int) - 1))).bind fun t170 => (some t170)) else (some false))
theorem spec_IsCell.calls (k : Nat) (aE : Int) (aD : Int) (aH : Option Addr) (aG : Nat) (aC : List Int) (a1 : Int) (r : Bool) (w : World) (aI : Kd.C (Kd.int .i64) w aH aC.length aC) (aJ : aC.length ≤ aG) (h : spec_IsCell.f k aE aD aC a1 = some r) :
  Calls Try.prog 70 #[.agg #[.int .i64 aE, .int .i64 aD, .slice aH aC.length aG], .int .i64 a1] w fun e w' => e = .returned (.bool r) ∧ Below w.heap.size w w' := by
 have hu36 := Try.underlying36; have aK := zA aI; have aM := zA aJ; clear aI aJ; have HB := zA (Below.refl w.heap.size w); have H := h; clear h; unfold spec_IsCell.f at H; obtain ⟨aU, A3, H⟩ := zB H
 by_cases c4 : aU = true
 ·subst c4; rw [if_pos rfl] at H; obtain ⟨aT, A5, H⟩ := zB H; obtain rfl := zI H; go_enter Try.func70, Try.ntmps70
  go_wp2_with (first | ((with_reducible refine gate_dst (N := 2) rfl ?_); (try (refine gate_guard (by rfl) ?_; dsimp only)); refine zbx 2 #[.int .i64 aE, .int .i64 aD, .slice aH aC.length aG] 36 ?_; intro aN hg w6 hbox hb; have aA := zA (hbox); have aR := zga (w := w) hg; replace HB := zbs hb; clear hb hbox hg; obtain ⟨bN, bM, bL⟩ := zc3 aA; obtain ⟨bH, bG, bF⟩ := zf3 aA) | ((with_reducible refine gate_callee (f := 81) rfl ?_); refine zgl 6 Try.func81 #[.agg #[.int .i64 aE, .int .i64 aD, .slice aH aC.length aG]] ?_; (with_reducible refine (spec_IsLand.calls k aE aD _ _ aC true _ ?side1 ?side2 A3.out).mono ?_); (case side1 => exact zCb aK); (case side2 => exact aM.out); rintro e w8 ⟨rfl, hb⟩; refine ⟨_, rfl, ?_⟩; replace aA := zkb aA hb; replace HB := zbs hb; (try clear hb); obtain ⟨bK, bJ, bI⟩ := zc3 aA; obtain ⟨bE, bD, bC⟩ := zf3 aA) | (go_at_call 79; (with_reducible refine (spec_l1In.calls a1 0 (wrap64 ((aC.length : Int) - 1)) aT _ A5.out).mono ?_); rintro e w' ⟨rfl, ⟨nd, rfl⟩⟩))
  go_ret; exact ⟨zE, zb⟩
 ·replace c4 := Bool.eq_false_iff.mpr c4; subst c4; rw [if_neg zNo] at H; obtain rfl := zI H; go_enter Try.func70, Try.ntmps70
  go_wp2_with (first | ((with_reducible refine gate_dst (N := 2) rfl ?_); (try (refine gate_guard (by rfl) ?_; dsimp only)); refine zbx 2 #[.int .i64 aE, .int .i64 aD, .slice aH aC.length aG] 36 ?_; intro aN hg bR hbox hb; have aA := zA (hbox); have aR := zga (w := w) hg; replace HB := zbs hb; clear hb hbox hg; obtain ⟨bB, bA, aZ⟩ := zc3 aA; obtain ⟨aY, aX, aW⟩ := zf3 aA) | ((with_reducible refine gate_callee (f := 81) rfl ?_); refine zgl 6 Try.func81 #[.agg #[.int .i64 aE, .int .i64 aD, .slice aH aC.length aG]] ?_; (with_reducible refine (spec_IsLand.calls k aE aD _ _ aC false _ ?side1 ?side2 A3.out).mono ?_); (case side1 => exact zCb aK); (case side2 => exact aM.out); rintro e bQ ⟨rfl, hb⟩; refine ⟨_, rfl, ?_⟩; replace aA := zkb aA hb; replace HB := zbs hb; (try clear hb)))
  go_ret; exact ⟨zE, zb⟩

def spec_IsOpen.f (k : Nat) (a0_0 : Int) (a0_1 : Int) (l0_2 : List Int) (a1 : Int) : Option (Bool) := (spec_IsCell.f k a0_0 a0_1 l0_2 a1).bind fun t172 => (if t172 = true then (if 0 ≤ a1 then (if a1 < (l0_2.length : Int) then (some ((rd l0_2 a1) != 2)) else (none)) else (none)) else (some false))
theorem spec_IsOpen.calls (k : Nat) (aE : Int) (aD : Int) (aH : Option Addr) (aG : Nat) (aC : List Int) (a1 : Int) (r : Bool) (w : World) (aK : Kd.C (Kd.int .i64) w aH aC.length aC) (aM : aC.length ≤ aG) (h : spec_IsOpen.f k aE aD aC a1 = some r) :
  Calls Try.prog 80 #[.agg #[.int .i64 aE, .int .i64 aD, .slice aH aC.length aG], .int .i64 a1] w fun e w' => e = .returned (.bool r) ∧ Below w.heap.size w w' := by
 have hu36 := Try.underlying36; have aJ := zA aK; have aN := zA aM; clear aK aM; have HB := zA (Below.refl w.heap.size w); have H := h; clear h; unfold spec_IsOpen.f at H; obtain ⟨aU, A3, H⟩ := zB H
 by_cases c4 : aU = true
 ·subst c4; rw [if_pos rfl] at H; obtain ⟨bP, H⟩ := zifD H; obtain ⟨bO, H⟩ := zifD H; obtain rfl := zI H; go_enter Try.func80, Try.ntmps80
  go_wp2_with (first | ((with_reducible refine gate_dst (N := 2) rfl ?_); refine zbx 2 #[.int .i64 aE, .int .i64 aD, .slice aH aC.length aG] 36 ?_; intro aQ hg w7 hbox hb; have aA := zA (hbox); have aT := zga (w := w) hg; replace HB := zbs hb; clear hb hbox hg; obtain ⟨bM, bL, bK⟩ := zc3 aA; obtain ⟨bJ, bI, bH⟩ := zf3 aA) | ((with_reducible refine gate_callee (f := 70) rfl ?_); refine zgl 7 Try.func70 #[.agg #[.int .i64 aE, .int .i64 aD, .slice aH aC.length aG], .int .i64 a1] ?_; (with_reducible refine (spec_IsCell.calls k aE aD _ _ aC a1 true _ ?side1 ?side2 A3.out).mono ?_); (case side1 => exact zCb aJ); (case side2 => exact aN.out); rintro e w9 ⟨rfl, hb⟩; refine ⟨_, rfl, ?_⟩; replace aA := zkb aA hb; replace HB := zbs hb; (try clear hb); obtain ⟨bG, bF, bE⟩ := zc3 aA; obtain ⟨bA, aZ, aY⟩ := zf3 aA; have p173 : 0 ≤ (a1 : Int) := zd; have q173 : a1 < (aC.length : Int) := zd; obtain ⟨ad173, e173, hx173_0⟩ := Kd.at_int aJ.out a1 p173 q173; cases e173; replace hx173_0 := (HB.out.cell (World.block_lt_of_cell? w _ hx173_0)).trans hx173_0; replace p173 := eq_true p173; replace q173 := eq_true q173))
  go_ret; exact ⟨zE, zb⟩
 ·replace c4 := Bool.eq_false_iff.mpr c4; subst c4; rw [if_neg zNo] at H; obtain rfl := zI H; go_enter Try.func80, Try.ntmps80
  go_wp2_with (first | ((with_reducible refine gate_dst (N := 2) rfl ?_); refine zbx 2 #[.int .i64 aE, .int .i64 aD, .slice aH aC.length aG] 36 ?_; intro aQ hg bR hbox hb; have aA := zA (hbox); have aT := zga (w := w) hg; replace HB := zbs hb; clear hb hbox hg; obtain ⟨bD, bC, bB⟩ := zc3 aA; obtain ⟨aX, aW, aV⟩ := zf3 aA) | ((with_reducible refine gate_callee (f := 70) rfl ?_); refine zgl 7 Try.func70 #[.agg #[.int .i64 aE, .int .i64 aD, .slice aH aC.length aG], .int .i64 a1] ?_; (with_reducible refine (spec_IsCell.calls k aE aD _ _ aC a1 false _ ?side1 ?side2 A3.out).mono ?_); (case side1 => exact zCb aJ); (case side2 => exact aN.out); rintro e bQ ⟨rfl, hb⟩; refine ⟨_, rfl, ?_⟩; replace aA := zkb aA hb; replace HB := zbs hb; (try clear hb)))
  go_ret; exact ⟨zE, zb⟩

def spec_Days.f (k : Nat) (a0_0 : Int) (a0_1 : Int) (l0_2 : List Int) (a1 : Int) (a2 : Int) : Option (Int) := (spec_IsOpen.f k a0_0 a0_1 l0_2 a1).bind fun t175 => (if t175 = true then ((spec_IsOpen.f k a0_0 a0_1 l0_2 a2).bind fun t176 => (if t176 = true then ((spec_l5From.f k a0_0 a0_1 l0_2 a1).bind fun t177 => (if 0 ≤ a2 then (if a2 < (t177.length : Int) then (some (rd t177 a2)) else (none)) else (none))) else (some (-1)))) else (some (-1)))
theorem spec_Days.calls (k : Nat) (aE : Int) (aD : Int) (aH : Option Addr) (aG : Nat) (aC : List Int) (a1 : Int) (a2 : Int) (r : Int) (w : World) (aN : Kd.C (Kd.int .i64) w aH aC.length aC) (aQ : aC.length ≤ aG) (h : spec_Days.f k aE aD aC a1 a2 = some r) :
  Calls Try.prog 77 #[.agg #[.int .i64 aE, .int .i64 aD, .slice aH aC.length aG], .int .i64 a1, .int .i64 a2] w fun e w' => e = .returned (.int .i64 r) ∧ Below w.heap.size w w' := by
 have hu36 := Try.underlying36; have aI := zA aN; have aJ := zA aQ; clear aN aQ; have HB := zA (Below.refl w.heap.size w); have H := h; clear h; unfold spec_Days.f at H; obtain ⟨aZ, A4, H⟩ := zB H
 by_cases c5 : aZ = true
 ·subst c5; rw [if_pos rfl] at H; obtain ⟨aY, A6, H⟩ := zB H
  by_cases c7 : aY = true
  ·subst c7; rw [if_pos rfl] at H; obtain ⟨aV, A8, H⟩ := zB H; obtain ⟨cP, H⟩ := zifD H; obtain ⟨cN, H⟩ := zifD H; obtain rfl := zI H; go_enter Try.func77, Try.ntmps77
   go_wp2_with (first | ((with_reducible refine gate_dst (N := 3) rfl ?_); refine zbx 3 #[.int .i64 aE, .int .i64 aD, .slice aH aC.length aG] 36 ?_; intro aR hg dA hbox hb; have aA := zA (hbox); have aU := zga (w := w) hg; replace HB := zbs hb; clear hb hbox hg; obtain ⟨cL, cK, cJ⟩ := zc3 aA; obtain ⟨bT, bS, bR⟩ := zf3 aA) | ((with_reducible refine gate_callee (f := 80) rfl ?_); refine zgl 9 Try.func80 #[.agg #[.int .i64 aE, .int .i64 aD, .slice aH aC.length aG], .int .i64 a1] ?_; (with_reducible refine (spec_IsOpen.calls k aE aD _ _ aC a1 true _ ?side1 ?side2 A4.out).mono ?_); (case side1 => exact zCb aI); (case side2 => exact aJ.out); rintro e cZ ⟨rfl, hb⟩; refine ⟨_, rfl, ?_⟩; replace aA := zkb aA hb; replace HB := zbs hb; (try clear hb); obtain ⟨cI, cH, cG⟩ := zc3 aA; obtain ⟨bQ, bP, bO⟩ := zf3 aA) | (go_at_call 80; (with_reducible refine (spec_IsOpen.calls k aE aD _ _ aC a2 true _ ?side1 ?side2 A6.out).mono ?_); (case side1 => exact zCb aI); (case side2 => exact aJ.out); rintro e cY ⟨rfl, hb⟩; replace aA := zkb aA hb; replace HB := zbs hb; (try clear hb); obtain ⟨cF, cE, cD⟩ := zc3 aA; obtain ⟨bN, bM, bL⟩ := zf3 aA) | ((with_reducible refine gate_callee (f := 78) rfl ?_); refine zgl 19 Try.func78 #[.agg #[.int .i64 aE, .int .i64 aD, .slice aH aC.length aG], .int .i64 a1] ?_; (with_reducible refine (spec_l5From.calls k aE aD _ _ aC a1 aV _ ?side1 ?side2 A8.out).mono ?_); (case side1 => exact zCb aI); (case side2 => exact aJ.out); rintro e cX ⟨v178, rfl, ho0, hb⟩; refine ⟨_, rfl, ?_⟩; have aT := zA (Kd.R_lower ho0 (below_size zb)); replace aA := zkb aA hb; replace HB := zbs hb; (try clear hb); (try clear ho0); obtain ⟨cQ, cO, bA⟩ := Kd.R_slice aT.out; subst bA; have p180 : 0 ≤ (a2 : Int) := zd; have q180 : a2 < (aV.length : Int) := zd; obtain ⟨ad180, e180, hx180_0⟩ := Kd.at_int (Kd.R_reads' aT.out).2.2 a2 p180 q180; cases e180; replace p180 := eq_true p180; replace q180 := eq_true q180))
   go_ret; exact ⟨zE, zb⟩
  ·replace c7 := Bool.eq_false_iff.mpr c7; subst c7; rw [if_neg zNo] at H; obtain rfl := zI H; go_enter Try.func77, Try.ntmps77
   go_wp2_with (first | ((with_reducible refine gate_dst (N := 3) rfl ?_); refine zbx 3 #[.int .i64 aE, .int .i64 aD, .slice aH aC.length aG] 36 ?_; intro aR hg cW hbox hb; have aA := zA (hbox); have aU := zga (w := w) hg; replace HB := zbs hb; clear hb hbox hg; obtain ⟨cC, cB, cA⟩ := zc3 aA; obtain ⟨bK, bJ, bI⟩ := zf3 aA) | ((with_reducible refine gate_callee (f := 80) rfl ?_); refine zgl 9 Try.func80 #[.agg #[.int .i64 aE, .int .i64 aD, .slice aH aC.length aG], .int .i64 a1] ?_; (with_reducible refine (spec_IsOpen.calls k aE aD _ _ aC a1 true _ ?side1 ?side2 A4.out).mono ?_); (case side1 => exact zCb aI); (case side2 => exact aJ.out); rintro e cV ⟨rfl, hb⟩; refine ⟨_, rfl, ?_⟩; replace aA := zkb aA hb; replace HB := zbs hb; (try clear hb); obtain ⟨bZ, bY, bX⟩ := zc3 aA; obtain ⟨bH, bG, bF⟩ := zf3 aA) | (go_at_call 80; (with_reducible refine (spec_IsOpen.calls k aE aD _ _ aC a2 false _ ?side1 ?side2 A6.out).mono ?_); (case side1 => exact zCb aI); (case side2 => exact aJ.out); rintro e cU ⟨rfl, hb⟩; replace aA := zkb aA hb; replace HB := zbs hb; (try clear hb)))
   go_ret; exact ⟨zE, zb⟩
 ·replace c5 := Bool.eq_false_iff.mpr c5; subst c5; rw [if_neg zNo] at H; obtain rfl := zI H; go_enter Try.func77, Try.ntmps77
  go_wp2_with (first | ((with_reducible refine gate_dst (N := 3) rfl ?_); refine zbx 3 #[.int .i64 aE, .int .i64 aD, .slice aH aC.length aG] 36 ?_; intro aR hg cT hbox hb; have aA := zA (hbox); have aU := zga (w := w) hg; replace HB := zbs hb; clear hb hbox hg; obtain ⟨bW, bV, bU⟩ := zc3 aA; obtain ⟨bE, bD, bC⟩ := zf3 aA) | ((with_reducible refine gate_callee (f := 80) rfl ?_); refine zgl 9 Try.func80 #[.agg #[.int .i64 aE, .int .i64 aD, .slice aH aC.length aG], .int .i64 a1] ?_; (with_reducible refine (spec_IsOpen.calls k aE aD _ _ aC a1 false _ ?side1 ?side2 A4.out).mono ?_); (case side1 => exact zCb aI); (case side2 => exact aJ.out); rintro e cS ⟨rfl, hb⟩; refine ⟨_, rfl, ?_⟩; replace aA := zkb aA hb; replace HB := zbs hb; (try clear hb)))
  go_ret; exact ⟨zE, zb⟩

mutual
def spec_WayTo.l0 : Nat → Int → Int → List Int → List Int → Int → Int → List Int → Option (List Int)
  | 0, _, _, _, _, _, _, _ => none
  | k + 1, x1, x2, x7, x8, x182000, x182001, x182002 => if x1 = x2 then (some x7) else ((spec_l4Near.f k x182000 x182001 x182002 x1).bind fun t192 => (spec_WayTo.l1 k x1 x2 x7 x8 t192 (wrap64 ((t192.length : Int) - 1)) x182000 x182001 x182002))
def spec_WayTo.l1 : Nat → Int → Int → List Int → List Int → List Int → Int → Int → Int → List Int → Option (List Int)
  | 0, _, _, _, _, _, _, _, _, _ => none
  | k + 1, x1, x2, x7, x8, x9, x10, x182000, x182001, x182002 => if x10 ≥ 0 then (if 0 ≤ x10 then (if x10 < (x9.length : Int) then (if 0 ≤ (rd x9 x10) then (if (rd x9 x10) < (x8.length : Int) then (if 0 ≤ (wrap64 ((x7.length : Int) - 1)) then (if (wrap64 ((x7.length : Int) - 1)) < (x7.length : Int) then (if 0 ≤ (rd x7 (wrap64 ((x7.length : Int) - 1))) then (if (rd x7 (wrap64 ((x7.length : Int) - 1))) < (x8.length : Int) then (if (rd x8 (rd x9 x10)) = (wrap64 ((rd x8 (rd x7 (wrap64 ((x7.length : Int) - 1)))) - 1)) then (spec_WayTo.l1 k (rd x9 x10) x2 x7 x8 x9 (wrap64 (x10 - 1)) x182000 x182001 x182002) else (spec_WayTo.l1 k x1 x2 x7 x8 x9 (wrap64 (x10 - 1)) x182000 x182001 x182002)) else (none)) else (none)) else (none)) else (none)) else (none)) else (none)) else (none)) else (none)) else (if x7.length < 17592186044416 then (spec_WayTo.l0 k x1 x2 (x7 ++ [x1]) x8 x182000 x182001 x182002) else (none))
end
def spec_WayTo.f (k : Nat) (a0_0 : Int) (a0_1 : Int) (l0_2 : List Int) (a1 : Int) (a2 : Int) : Option (List Int) := (some (([] : List Int) : List Int)).bind fun y182 => ((spec_Days.f k a0_0 a0_1 l0_2 a1 a2).bind fun t185 => (if t185 < 0 then (some y182) else ((spec_l5From.f k a0_0 a0_1 l0_2 a2).bind fun t186 => (if y182.length < 17592186044416 then (spec_WayTo.l0 k a1 a2 (y182 ++ [a1]) t186 a0_0 a0_1 l0_2) else (none)))))
theorem spec_WayTo.calls (k : Nat) (aH : Int) (aG : Int) (aU : Option Addr) (aT : Nat) (aE : List Int) (a1 : Int) (a2 : Int) (r : List Int) (w : World) (cL : Kd.C (Kd.int .i64) w aU aE.length aE) (cM : aE.length ≤ aT) (h : spec_WayTo.f k aH aG aE a1 a2 = some r) :
  Calls Try.prog 46 #[.agg #[.int .i64 aH, .int .i64 aG, .slice aU aE.length aT], .int .i64 a1, .int .i64 a2] w fun e w' => ∃ v0_ : Value, e = .returned (v0_) ∧ Kd.R (Kd.int .i64) 3 w' w.heap.size (fun _ => True) v0_ r ∧ Below w.heap.size w w' := by
 have hu36 := Try.underlying36; have aV := zA cL; have aX := zA cM; clear cL cM; have HB := zA (Below.refl w.heap.size w); have H := h; clear h; unfold spec_WayTo.f at H; obtain ⟨bT, cE⟩ : ∃ y_ : List Int, y_ = (([] : List Int)) := ⟨_, rfl⟩
 replace H : ((spec_Days.f k aH aG aE a1 a2).bind fun bF => (if bF < 0 then (some bT) else ((spec_l5From.f k aH aG aE a2).bind fun aK => (if bT.length < 17592186044416 then (spec_WayTo.l0 k a1 a2 (bT ++ [a1]) aK aH aG aE) else (none))))) = some r := zY cE H
 have Ny182 := zA cE; clear cE; obtain ⟨bF, A4, H⟩ := zB H
 by_cases c5 : bF < 0
 ·rw [if_pos c5] at H; have cK := decide_eq_true c5; clear c5; obtain rfl := zI H; go_enter Try.func46, Try.ntmps46
  go_wp2_with (first | ((with_reducible refine gate_dst (N := 3) rfl ?_); refine zbx 3 #[.int .i64 aH, .int .i64 aG, .slice aU aE.length aT] 36 ?_; intro aR hg w6 hbox hb; have aA := zA (hbox); have cA := zga (w := w) hg; replace HB := zbs hb; clear hb hbox hg) | ((with_reducible refine gate_dst (N := 11) rfl ?_); refine Kd.R_lit (Kd.int .i64) _ 3 ?hg (N := 11) ?hd (xs := ([] : List Int)) (inner := []) (ok := fun _ => True) (okp := fun _ => True) ?hr ?hp (fun _ hk => hk) trivial (Below.refl _ _) (Nat.le_refl _) (by simp) ?_; (case hd => rfl); (case hg => rfl); (case hr => first | (go_simp; done) | (go_simp; rfl)); (case hp => exact (Reps.none _ _)); intro v183 w7 ho8 hb hg_ hnew_; clear hg_ hnew_; (first | rw [← Ny182.out] at ho8 | (simp only [Int.reduceToNat] at ho8; rw [← Ny182.out] at ho8)); have aC := zA (Kd.R_lower ho8 (below_size zb)); replace aA := zkb aA hb; replace HB := zbs hb; clear hb ho8; obtain ⟨bZ, bY, bX⟩ := zc3 aA; obtain ⟨bW, bV, bU⟩ := zf3 aA) | (go_at_call 77; (with_reducible refine (spec_Days.calls k aH aG _ _ aE a1 a2 bF _ ?side1 ?side2 A4.out).mono ?_); (case side1 => exact zCb aV); (case side2 => exact aX.out); rintro e dK ⟨rfl, hb⟩; replace aC := zRb aC hb; replace aA := zkb aA hb; replace HB := zbs hb; (try clear hb)))
  repeat (go_quiet (first | ((with_reducible refine gate_dst (N := 3) rfl ?_); refine zbx 3 #[.int .i64 aH, .int .i64 aG, .slice aU aE.length aT] 36 ?_; intro aR hg w6 hbox hb; have aA := zA (hbox); have cA := zga (w := w) hg; replace HB := zbs hb; clear hb hbox hg) | ((with_reducible refine gate_dst (N := 11) rfl ?_); refine Kd.R_lit (Kd.int .i64) _ 3 ?hg (N := 11) ?hd (xs := ([] : List Int)) (inner := []) (ok := fun _ => True) (okp := fun _ => True) ?hr ?hp (fun _ hk => hk) trivial (Below.refl _ _) (Nat.le_refl _) (by simp) ?_; (case hd => rfl); (case hg => rfl); (case hr => first | (go_simp; done) | (go_simp; rfl)); (case hp => exact (Reps.none _ _)); intro v183 w7 ho8 hb hg_ hnew_; clear hg_ hnew_; (first | rw [← Ny182.out] at ho8 | (simp only [Int.reduceToNat] at ho8; rw [← Ny182.out] at ho8)); have aC := zA (Kd.R_lower ho8 (below_size zb)); replace aA := zkb aA hb; replace HB := zbs hb; clear hb ho8; obtain ⟨bZ, bY, bX⟩ := zc3 aA; obtain ⟨bW, bV, bU⟩ := zf3 aA) | (go_at_call 77; (with_reducible refine (spec_Days.calls k aH aG _ _ aE a1 a2 bF _ ?side1 ?side2 A4.out).mono ?_); (case side1 => exact zCb aV); (case side2 => exact aX.out); rintro e dK ⟨rfl, hb⟩; replace aC := zRb aC hb; replace aA := zkb aA hb; replace HB := zbs hb; (try clear hb))); try go_wp2_with (first | ((with_reducible refine gate_dst (N := 3) rfl ?_); refine zbx 3 #[.int .i64 aH, .int .i64 aG, .slice aU aE.length aT] 36 ?_; intro aR hg w6 hbox hb; have aA := zA (hbox); have cA := zga (w := w) hg; replace HB := zbs hb; clear hb hbox hg) | ((with_reducible refine gate_dst (N := 11) rfl ?_); refine Kd.R_lit (Kd.int .i64) _ 3 ?hg (N := 11) ?hd (xs := ([] : List Int)) (inner := []) (ok := fun _ => True) (okp := fun _ => True) ?hr ?hp (fun _ hk => hk) trivial (Below.refl _ _) (Nat.le_refl _) (by simp) ?_; (case hd => rfl); (case hg => rfl); (case hr => first | (go_simp; done) | (go_simp; rfl)); (case hp => exact (Reps.none _ _)); intro v183 w7 ho8 hb hg_ hnew_; clear hg_ hnew_; (first | rw [← Ny182.out] at ho8 | (simp only [Int.reduceToNat] at ho8; rw [← Ny182.out] at ho8)); have aC := zA (Kd.R_lower ho8 (below_size zb)); replace aA := zkb aA hb; replace HB := zbs hb; clear hb ho8; obtain ⟨bZ, bY, bX⟩ := zc3 aA; obtain ⟨bW, bV, bU⟩ := zf3 aA) | (go_at_call 77; (with_reducible refine (spec_Days.calls k aH aG _ _ aE a1 a2 bF _ ?side1 ?side2 A4.out).mono ?_); (case side1 => exact zCb aV); (case side2 => exact aX.out); rintro e dK ⟨rfl, hb⟩; replace aC := zRb aC hb; replace aA := zkb aA hb; replace HB := zbs hb; (try clear hb))))
  go_ret; exact ⟨_, zE, zR aC, zb⟩
 ·rw [if_neg c5] at H; have cK := decide_eq_false c5; clear c5; obtain ⟨aK, cZ, H⟩ := zB H; obtain ⟨cH, H⟩ := zifA H; obtain ⟨cX, cD⟩ : ∃ y_ : List Int, y_ = (bT ++ [a1]) := ⟨_, rfl⟩
  replace H : (spec_WayTo.l0 k a1 a2 cX aK aH aG aE) = some r := zY cD H
  have Ny189 := zA cD; clear cD; have H' := zA H; clear H; go_enter Try.func46, Try.ntmps46
  go_wp2_with (first | ((with_reducible refine gate_dst (N := 3) rfl ?_); refine zbx 3 #[.int .i64 aH, .int .i64 aG, .slice aU aE.length aT] 36 ?_; intro aR hg dJ hbox hb; have aA := zA (hbox); have cA := zga (w := w) hg; replace HB := zbs hb; clear hb hbox hg) | ((with_reducible refine gate_dst (N := 11) rfl ?_); refine Kd.R_lit (Kd.int .i64) _ 3 ?hg (N := 11) ?hd (xs := ([] : List Int)) (inner := []) (ok := fun _ => True) (okp := fun _ => True) ?hr ?hp (fun _ hk => hk) trivial (Below.refl _ _) (Nat.le_refl _) (by simp) ?_; (case hd => rfl); (case hg => rfl); (case hr => first | (go_simp; done) | (go_simp; rfl)); (case hp => exact (Reps.none _ _)); intro v183 dI ho15 hb hg_ hnew_; clear hg_ hnew_; (first | rw [← Ny182.out] at ho15 | (simp only [Int.reduceToNat] at ho15; rw [← Ny182.out] at ho15)); have aC := zA (Kd.R_lower ho15 (below_size zb)); replace aA := zkb aA hb; replace HB := zbs hb; clear hb ho15; obtain ⟨bR, bQ, bP⟩ := zc3 aA; obtain ⟨bL, bK, bJ⟩ := zf3 aA) | (go_at_call 77; (with_reducible refine (spec_Days.calls k aH aG _ _ aE a1 a2 bF _ ?side1 ?side2 A4.out).mono ?_); (case side1 => exact zCb aV); (case side2 => exact aX.out); rintro e dH ⟨rfl, hb⟩; replace aC := zRb aC hb; replace aA := zkb aA hb; replace HB := zbs hb; (try clear hb); obtain ⟨bO, bN, bM⟩ := zc3 aA; obtain ⟨bI, bH, bG⟩ := zf3 aA) | (go_at_call 78; (with_reducible refine (spec_l5From.calls k aH aG _ _ aE a2 aK _ ?side1 ?side2 cZ.out).mono ?_); (case side1 => exact zCb aV); (case side2 => exact aX.out); rintro e dG ⟨v187, rfl, ho0, hb⟩; have aW := zA (Kd.R_lower (Kd.R_new' ho0 (Kd.R_lt (zR aC))) (below_size zb)); replace aC := zA (Kd.R_elder' (zR aC) (Kd.R_base ho0) hb); replace aA := zkb aA hb; replace HB := zbs hb; (try clear hb); (try clear ho0)) | ((with_reducible refine gate_builtin (b := .append) (xs := #[.tmp 21, .tmp 23]) rfl ?_); at_builtin; refine Kd.R_append (Kd.int .i64) (w0 := w) w.heap.size rfl (.tmp 21) (.tmp 23) 22 3 (.int .i64 0) 8 rfl Try.underlying22 info3 rfl (by decide) (by omega) v183 bT a1 [.int .i64 a1] (fun k_ => some k_ ≠ (v187 : Value).ownBlock) (fun _ => False) rfl rfl ?aP (fun _ hk => hk.elim) ?aF ?aO ?aB ?aS ?aL ?_; (case aP => exact rfl); (case aB => exact zb); (case aF => exact (fun k_ hk => Kd.fresh' (Kd.R_lt (zR aW)) k_ hk)); (case aO => exact (by (with_reducible repeat (first | apply Kd.R_alloc | apply Kd.R_drewN | apply Kd.R_drew)); exact Kd.R_mono aC.out (fun _ hk => hk.2))); (case aS => exact (below_size zb)); (case aL => have := cH.out; omega); intro v190 dF ho hb hg hat; rw [← Ny189.out] at ho; replace aA := zA (blk_grown (g := aR) (o := .cells #[.int .i64 aH, .int .i64 aG, .slice aU aE.length aT] 36 (0, 0)) (zk aA) hg (Kd.R_ne aC.out aA.out (by decide))); replace aW := zA (Kd.R_after (ok := (fun _ => True)) (zR aW) hg hat); replace HB := zA (hb); have cJ := zA (ho); clear aC; clear ho hb hg hat))
  repeat (go_quiet (first | ((with_reducible refine gate_dst (N := 3) rfl ?_); refine zbx 3 #[.int .i64 aH, .int .i64 aG, .slice aU aE.length aT] 36 ?_; intro aR hg dJ hbox hb; have aA := zA (hbox); have cA := zga (w := w) hg; replace HB := zbs hb; clear hb hbox hg) | ((with_reducible refine gate_dst (N := 11) rfl ?_); refine Kd.R_lit (Kd.int .i64) _ 3 ?hg (N := 11) ?hd (xs := ([] : List Int)) (inner := []) (ok := fun _ => True) (okp := fun _ => True) ?hr ?hp (fun _ hk => hk) trivial (Below.refl _ _) (Nat.le_refl _) (by simp) ?_; (case hd => rfl); (case hg => rfl); (case hr => first | (go_simp; done) | (go_simp; rfl)); (case hp => exact (Reps.none _ _)); intro v183 dI ho15 hb hg_ hnew_; clear hg_ hnew_; (first | rw [← Ny182.out] at ho15 | (simp only [Int.reduceToNat] at ho15; rw [← Ny182.out] at ho15)); have aC := zA (Kd.R_lower ho15 (below_size zb)); replace aA := zkb aA hb; replace HB := zbs hb; clear hb ho15; obtain ⟨bR, bQ, bP⟩ := zc3 aA; obtain ⟨bL, bK, bJ⟩ := zf3 aA) | (go_at_call 77; (with_reducible refine (spec_Days.calls k aH aG _ _ aE a1 a2 bF _ ?side1 ?side2 A4.out).mono ?_); (case side1 => exact zCb aV); (case side2 => exact aX.out); rintro e dH ⟨rfl, hb⟩; replace aC := zRb aC hb; replace aA := zkb aA hb; replace HB := zbs hb; (try clear hb); obtain ⟨bO, bN, bM⟩ := zc3 aA; obtain ⟨bI, bH, bG⟩ := zf3 aA) | (go_at_call 78; (with_reducible refine (spec_l5From.calls k aH aG _ _ aE a2 aK _ ?side1 ?side2 cZ.out).mono ?_); (case side1 => exact zCb aV); (case side2 => exact aX.out); rintro e dG ⟨v187, rfl, ho0, hb⟩; have aW := zA (Kd.R_lower (Kd.R_new' ho0 (Kd.R_lt (zR aC))) (below_size zb)); replace aC := zA (Kd.R_elder' (zR aC) (Kd.R_base ho0) hb); replace aA := zkb aA hb; replace HB := zbs hb; (try clear hb); (try clear ho0)) | ((with_reducible refine gate_builtin (b := .append) (xs := #[.tmp 21, .tmp 23]) rfl ?_); at_builtin; refine Kd.R_append (Kd.int .i64) (w0 := w) w.heap.size rfl (.tmp 21) (.tmp 23) 22 3 (.int .i64 0) 8 rfl Try.underlying22 info3 rfl (by decide) (by omega) v183 bT a1 [.int .i64 a1] (fun k_ => some k_ ≠ (v187 : Value).ownBlock) (fun _ => False) rfl rfl ?aP (fun _ hk => hk.elim) ?aF ?aO ?aB ?aS ?aL ?_; (case aP => exact rfl); (case aB => exact zb); (case aF => exact (fun k_ hk => Kd.fresh' (Kd.R_lt (zR aW)) k_ hk)); (case aO => exact (by (with_reducible repeat (first | apply Kd.R_alloc | apply Kd.R_drewN | apply Kd.R_drew)); exact Kd.R_mono aC.out (fun _ hk => hk.2))); (case aS => exact (below_size zb)); (case aL => have := cH.out; omega); intro v190 dF ho hb hg hat; rw [← Ny189.out] at ho; replace aA := zA (blk_grown (g := aR) (o := .cells #[.int .i64 aH, .int .i64 aG, .slice aU aE.length aT] 36 (0, 0)) (zk aA) hg (Kd.R_ne aC.out aA.out (by decide))); replace aW := zA (Kd.R_after (ok := (fun _ => True)) (zR aW) hg hat); replace HB := zA (hb); have cJ := zA (ho); clear aC; clear ho hb hg hat)); try go_wp2_with (first | ((with_reducible refine gate_dst (N := 3) rfl ?_); refine zbx 3 #[.int .i64 aH, .int .i64 aG, .slice aU aE.length aT] 36 ?_; intro aR hg dJ hbox hb; have aA := zA (hbox); have cA := zga (w := w) hg; replace HB := zbs hb; clear hb hbox hg) | ((with_reducible refine gate_dst (N := 11) rfl ?_); refine Kd.R_lit (Kd.int .i64) _ 3 ?hg (N := 11) ?hd (xs := ([] : List Int)) (inner := []) (ok := fun _ => True) (okp := fun _ => True) ?hr ?hp (fun _ hk => hk) trivial (Below.refl _ _) (Nat.le_refl _) (by simp) ?_; (case hd => rfl); (case hg => rfl); (case hr => first | (go_simp; done) | (go_simp; rfl)); (case hp => exact (Reps.none _ _)); intro v183 dI ho15 hb hg_ hnew_; clear hg_ hnew_; (first | rw [← Ny182.out] at ho15 | (simp only [Int.reduceToNat] at ho15; rw [← Ny182.out] at ho15)); have aC := zA (Kd.R_lower ho15 (below_size zb)); replace aA := zkb aA hb; replace HB := zbs hb; clear hb ho15; obtain ⟨bR, bQ, bP⟩ := zc3 aA; obtain ⟨bL, bK, bJ⟩ := zf3 aA) | (go_at_call 77; (with_reducible refine (spec_Days.calls k aH aG _ _ aE a1 a2 bF _ ?side1 ?side2 A4.out).mono ?_); (case side1 => exact zCb aV); (case side2 => exact aX.out); rintro e dH ⟨rfl, hb⟩; replace aC := zRb aC hb; replace aA := zkb aA hb; replace HB := zbs hb; (try clear hb); obtain ⟨bO, bN, bM⟩ := zc3 aA; obtain ⟨bI, bH, bG⟩ := zf3 aA) | (go_at_call 78; (with_reducible refine (spec_l5From.calls k aH aG _ _ aE a2 aK _ ?side1 ?side2 cZ.out).mono ?_); (case side1 => exact zCb aV); (case side2 => exact aX.out); rintro e dG ⟨v187, rfl, ho0, hb⟩; have aW := zA (Kd.R_lower (Kd.R_new' ho0 (Kd.R_lt (zR aC))) (below_size zb)); replace aC := zA (Kd.R_elder' (zR aC) (Kd.R_base ho0) hb); replace aA := zkb aA hb; replace HB := zbs hb; (try clear hb); (try clear ho0)) | ((with_reducible refine gate_builtin (b := .append) (xs := #[.tmp 21, .tmp 23]) rfl ?_); at_builtin; refine Kd.R_append (Kd.int .i64) (w0 := w) w.heap.size rfl (.tmp 21) (.tmp 23) 22 3 (.int .i64 0) 8 rfl Try.underlying22 info3 rfl (by decide) (by omega) v183 bT a1 [.int .i64 a1] (fun k_ => some k_ ≠ (v187 : Value).ownBlock) (fun _ => False) rfl rfl ?aP (fun _ hk => hk.elim) ?aF ?aO ?aB ?aS ?aL ?_; (case aP => exact rfl); (case aB => exact zb); (case aF => exact (fun k_ hk => Kd.fresh' (Kd.R_lt (zR aW)) k_ hk)); (case aO => exact (by (with_reducible repeat (first | apply Kd.R_alloc | apply Kd.R_drewN | apply Kd.R_drew)); exact Kd.R_mono aC.out (fun _ hk => hk.2))); (case aS => exact (below_size zb)); (case aL => have := cH.out; omega); intro v190 dF ho hb hg hat; rw [← Ny189.out] at ho; replace aA := zA (blk_grown (g := aR) (o := .cells #[.int .i64 aH, .int .i64 aG, .slice aU aE.length aT] 36 (0, 0)) (zk aA) hg (Kd.R_ne aC.out aA.out (by decide))); replace aW := zA (Kd.R_after (ok := (fun _ => True)) (zR aW) hg hat); replace HB := zA (hb); have cJ := zA (ho); clear aC; clear ho hb hg hat)))
  go_loopg [1, 7] k (fun kq v1 v7 w' => ∃ (bA : Int) (aJ : List Int), v1 = .int .i64 bA ∧ Aside0 (spec_WayTo.l0 kq bA a2 aJ aK aH aG aE = some r) ∧ Aside0 (kq ≤ k) ∧ Aside0 (Kd.R (Kd.int .i64) 3 w' w.heap.size (fun k_ => some k_ ≠ (v187 : Value).ownBlock) v7 aJ) ∧ Aside0 (Kd.R (Kd.int .i64) 3 w' w.heap.size (fun k_ => some k_ ≠ (v7 : Value).ownBlock) v187 aK) ∧ Aside0 (w'.heap[aR]? = some (.cells #[.int .i64 aH, .int .i64 aG, (.slice aU aE.length aT)] 36 (0, 0))) ∧ Aside0 (Below w.heap.size w w'))
  case atStart => exact ⟨(a1), (cX), zr, H', ⟨Nat.le_refl _⟩, ⟨zR cJ⟩, ⟨by (with_reducible repeat (first | apply Kd.R_alloc | apply Kd.R_drewN | apply Kd.R_drew)); exact Kd.R_mono aW.out (fun _ hk => hk.2)⟩, ⟨zk aA⟩, ⟨zb⟩⟩
  case round =>
   clear H'; (try clear c1); (try clear p2); (try clear c4); (try clear c5); (try clear cK); (try clear c12); (try clear bR); (try clear bQ); (try clear bP); (try clear bO); (try clear bN); (try clear bM); (try clear bZ); (try clear bY); (try clear bX); (try clear bL); (try clear bK); (try clear bJ); (try clear bI); (try clear bH); (try clear bG); (try clear bW); (try clear bV); (try clear bU); obtain ⟨bA, aJ, rfl, HA, HK1, aN, aM, aA, HB⟩ := hrel
   cases gk with
   | zero => exact absurd HA.out (by simp [spec_WayTo.l0])
   | succ k1 =>
    have H := HA.out; clear HA; simp only [spec_WayTo.l0] at H
    by_cases c21 : bA = a2
    ·rw [if_pos c21] at H; have cO : (bA == a2) = true := beq_iff_eq.mpr c21; have cN : (bA != a2) = false := bne_eq_false_iff_eq.mpr c21; clear c21; obtain rfl := zI H; go_wp2
     repeat (go_quiet (fail); try go_wp2)
     go_ret; exact ⟨_, zE, by (with_reducible repeat (first | apply Kd.R_alloc | apply Kd.R_drewN | apply Kd.R_drew)); exact Kd.R_mono aN.out (fun _ hk => trivial), zb⟩
    ·rw [if_neg c21] at H; have cO : (bA == a2) = false := beq_eq_false_iff_ne.mpr c21; have cN : (bA != a2) = true := bne_iff_ne.mpr c21; obtain ⟨aI, cY, H⟩ := zB H; have H' := zA H; clear H; obtain ⟨cU, cT, cS⟩ := zc3 aA; obtain ⟨cR, cQ, cP⟩ := zf3 aA
     go_wp2_with (first | (go_at_call 71; (with_reducible refine (spec_l4Near.calls k1 aH aG _ _ aE bA aI _ ?side1 ?side2 cY.out).mono ?_); (case side1 => exact zCb aV); (case side2 => exact aX.out); rintro e dE ⟨v193, rfl, ho0, hb⟩; have bS := zA (Kd.R_lower (Kd.R_new' (Kd.R_new' ho0 (Kd.R_lt (zR aN))) (Kd.R_lt (zR aM))) (below_size zb)); replace aN := zA (Kd.R_elder' (zR aN) (Kd.R_base ho0) hb); replace aM := zA (Kd.R_elder' (zR aM) (Kd.R_base ho0) hb); replace aA := zkb aA hb; replace HB := zbs hb; (try clear hb); (try clear ho0); obtain ⟨bD, bC, cB⟩ := Kd.R_slice bS.out; subst cB))
     repeat (go_quiet (first | (go_at_call 71; (with_reducible refine (spec_l4Near.calls k1 aH aG _ _ aE bA aI _ ?side1 ?side2 cY.out).mono ?_); (case side1 => exact zCb aV); (case side2 => exact aX.out); rintro e dE ⟨v193, rfl, ho0, hb⟩; have bS := zA (Kd.R_lower (Kd.R_new' (Kd.R_new' ho0 (Kd.R_lt (zR aN))) (Kd.R_lt (zR aM))) (below_size zb)); replace aN := zA (Kd.R_elder' (zR aN) (Kd.R_base ho0) hb); replace aM := zA (Kd.R_elder' (zR aM) (Kd.R_base ho0) hb); replace aA := zkb aA hb; replace HB := zbs hb; (try clear hb); (try clear ho0); obtain ⟨bD, bC, cB⟩ := Kd.R_slice bS.out; subst cB)); try go_wp2_with (first | (go_at_call 71; (with_reducible refine (spec_l4Near.calls k1 aH aG _ _ aE bA aI _ ?side1 ?side2 cY.out).mono ?_); (case side1 => exact zCb aV); (case side2 => exact aX.out); rintro e dE ⟨v193, rfl, ho0, hb⟩; have bS := zA (Kd.R_lower (Kd.R_new' (Kd.R_new' ho0 (Kd.R_lt (zR aN))) (Kd.R_lt (zR aM))) (below_size zb)); replace aN := zA (Kd.R_elder' (zR aN) (Kd.R_base ho0) hb); replace aM := zA (Kd.R_elder' (zR aM) (Kd.R_base ho0) hb); replace aA := zkb aA hb; replace HB := zbs hb; (try clear hb); (try clear ho0); obtain ⟨bD, bC, cB⟩ := Kd.R_slice bS.out; subst cB)))
     go_loopg [1, 10] k1 (fun kq v1 v10 w' => ∃ (aY : Int) (aD : Int), v1 = .int .i64 aY ∧ v10 = .int .i64 aD ∧ Aside0 (spec_WayTo.l1 kq aY a2 aJ aK aI aD aH aG aE = some r) ∧ Aside0 (kq ≤ k1) ∧ Aside0 (Kd.R (Kd.int .i64) 3 w' w.heap.size (fun k_ => some k_ ≠ (v187 : Value).ownBlock ∧ some k_ ≠ ((.slice bD aI.length bC) : Value).ownBlock) u7 aJ) ∧ Aside0 (Kd.R (Kd.int .i64) 3 w' w.heap.size (fun k_ => some k_ ≠ (u7 : Value).ownBlock ∧ some k_ ≠ ((.slice bD aI.length bC) : Value).ownBlock) v187 aK) ∧ Aside0 (Kd.R (Kd.int .i64) 3 w' w.heap.size (fun k_ => some k_ ≠ (u7 : Value).ownBlock ∧ some k_ ≠ (v187 : Value).ownBlock) (.slice bD aI.length bC) aI) ∧ Aside0 (w'.heap[aR]? = some (.cells #[.int .i64 aH, .int .i64 aG, (.slice aU aE.length aT)] 36 (0, 0))) ∧ Aside0 (Below w.heap.size w w'))
     case atStart => exact ⟨(bA), (wrap64 ((aI.length : Int) - 1)), zr, zr, H', ⟨Nat.le_refl _⟩, ⟨zR aN⟩, ⟨zR aM⟩, ⟨by (with_reducible repeat (first | apply Kd.R_alloc | apply Kd.R_drewN | apply Kd.R_drew)); exact Kd.R_mono bS.out (fun _ hk => ⟨hk.1.2, hk.2⟩)⟩, ⟨zk aA⟩, ⟨zb⟩⟩
     case round =>
      clear H'; (try clear c1); (try clear c2); (try clear p2); (try clear c4); (try clear c5); (try clear cK); (try clear p6); (try clear c12); (try clear c21); (try clear cO); (try clear cN); (try clear bR); (try clear bQ); (try clear bP); (try clear bO); (try clear bN); (try clear bM); (try clear cU); (try clear cT); (try clear cS); (try clear bZ); (try clear bY); (try clear bX); (try clear bL); (try clear bK); (try clear bJ); (try clear bI); (try clear bH); (try clear bG); (try clear cR); (try clear cQ); (try clear cP); (try clear bW); (try clear bV); (try clear bU); (try clear p2); obtain ⟨aY, aD, rfl, rfl, HA, HK2, aN, aM, aZ, aA, HB⟩ := hrel
      cases gk with
      | zero => exact absurd HA.out (by simp [spec_WayTo.l1])
      | succ k2 =>
       have H := HA.out; clear HA; simp only [spec_WayTo.l1] at H
       by_cases c26 : aD ≥ 0
       ·rw [if_pos c26] at H; have dC : decide (0 ≤ aD) = true := decide_eq_true c26; clear c26; obtain ⟨dY, H⟩ := zifD H; obtain ⟨dX, H⟩ := zifD H; obtain ⟨dW, H⟩ := zifD H; obtain ⟨dV, H⟩ := zifD H; obtain ⟨aQ, cF⟩ : ∃ j_ : Int, (wrap64 ((aJ.length : Int) - 1)) = j_ := ⟨_, rfl⟩
        replace H : (if 0 ≤ (aQ) then (if (aQ) < (aJ.length : Int) then (if 0 ≤ (rd aJ (aQ)) then (if (rd aJ (aQ)) < (aK.length : Int) then (if (rd aK (rd aI aD)) = (wrap64 ((rd aK (rd aJ (aQ))) - 1)) then (spec_WayTo.l1 k2 (rd aI aD) a2 aJ aK aI (wrap64 (aD - 1)) aH aG aE) else (spec_WayTo.l1 k2 aY a2 aJ aK aI (wrap64 (aD - 1)) aH aG aE)) else (none)) else (none)) else (none)) else (none)) = some r := by first | (rw [cF] at H; exact H) | (simp only [cF] at H ⊢; exact H)
        have hji31w : (IntKind.i64.wrap ((aJ.length : Int) - 1)) = aQ := (i64_w _).trans cF; obtain ⟨dU, H⟩ := zifD H; obtain ⟨dT, H⟩ := zifD H; obtain ⟨dS, H⟩ := zifD H; obtain ⟨dR, H⟩ := zifD H
        by_cases c36 : (rd aK (rd aI aD)) = (wrap64 ((rd aK (rd aJ (aQ))) - 1))
        ·rw [if_pos c36] at H; have dB : ((rd aK (rd aI aD)) == (wrap64 ((rd aK (rd aJ (aQ))) - 1))) = true := beq_iff_eq.mpr c36; have dA : ((rd aK (rd aI aD)) != (wrap64 ((rd aK (rd aJ (aQ))) - 1))) = false := bne_eq_false_iff_eq.mpr c36; clear c36; have H' := zA H; clear H; have p195 : 0 ≤ (aD : Int) := zd; have q195 : aD < (aI.length : Int) := zd; obtain ⟨ad195, e195, hx195_0⟩ := Kd.at_int (Kd.R_reads' aZ.out).2.2 aD p195 q195; cases e195; replace p195 := eq_true p195; replace q195 := eq_true q195; obtain ⟨eG, eC, dO⟩ := Kd.R_slice aM.out; subst dO; have p196 : 0 ≤ ((rd aI aD) : Int) := zd; have q196 : (rd aI aD) < (aK.length : Int) := zd; obtain ⟨ad196, e196, hx196_0⟩ := Kd.at_int (Kd.R_reads' aM.out).2.2 (rd aI aD) p196 q196; cases e196; replace p196 := eq_true p196; replace q196 := eq_true q196; obtain ⟨eF, eB, dN⟩ := Kd.R_slice aN.out; subst dN; have p197 : 0 ≤ ((aQ) : Int) := zd; have q197 : (aQ) < (aJ.length : Int) := zd; obtain ⟨ad197, e197, hx197_0⟩ := Kd.at_int (Kd.R_reads' aN.out).2.2 (aQ) p197 q197; cases e197; replace p197 := eq_true p197; replace q197 := eq_true q197; have p198 : 0 ≤ ((rd aJ (aQ)) : Int) := zd; have q198 : (rd aJ (aQ)) < (aK.length : Int) := zd; obtain ⟨ad198, e198, hx198_0⟩ := Kd.at_int (Kd.R_reads' aM.out).2.2 (rd aJ (aQ)) p198 q198; obtain rfl : ad196 = ad198 := (by injection e198); replace p198 := eq_true p198; replace q198 := eq_true q198; have p199 : 0 ≤ (aD : Int) := zd; have q199 : aD < (aI.length : Int) := zd; obtain ⟨ad199, e199, hx199_0⟩ := Kd.at_int (Kd.R_reads' aZ.out).2.2 aD p199 q199; obtain rfl : ad195 = ad199 := (by injection e199); replace p199 := eq_true p199; replace q199 := eq_true q199; go_wp2
         repeat (go_quiet (fail); try go_wp2)
         go_roundg k2
         case measure => have := HK1.out; have := HK2.out; omega
         case rel => exact ⟨(rd aI aD), (wrap64 (aD - 1)), zr, zr, H', ⟨by have := HK1.out; have := HK2.out; omega⟩, ⟨zR aN⟩, ⟨zR aM⟩, ⟨zR aZ⟩, ⟨zk aA⟩, ⟨zb⟩⟩
        ·rw [if_neg c36] at H; have dB : ((rd aK (rd aI aD)) == (wrap64 ((rd aK (rd aJ (aQ))) - 1))) = false := beq_eq_false_iff_ne.mpr c36; have dA : ((rd aK (rd aI aD)) != (wrap64 ((rd aK (rd aJ (aQ))) - 1))) = true := bne_iff_ne.mpr c36; have H' := zA H; clear H; have p195 : 0 ≤ (aD : Int) := zd; have q195 : aD < (aI.length : Int) := zd; obtain ⟨ad195, e195, hx195_0⟩ := Kd.at_int (Kd.R_reads' aZ.out).2.2 aD p195 q195; cases e195; replace p195 := eq_true p195; replace q195 := eq_true q195; obtain ⟨eE, eA, dM⟩ := Kd.R_slice aM.out; subst dM; have p196 : 0 ≤ ((rd aI aD) : Int) := zd; have q196 : (rd aI aD) < (aK.length : Int) := zd; obtain ⟨ad196, e196, hx196_0⟩ := Kd.at_int (Kd.R_reads' aM.out).2.2 (rd aI aD) p196 q196; cases e196; replace p196 := eq_true p196; replace q196 := eq_true q196; obtain ⟨eD, dZ, dL⟩ := Kd.R_slice aN.out; subst dL; have p197 : 0 ≤ ((aQ) : Int) := zd; have q197 : (aQ) < (aJ.length : Int) := zd; obtain ⟨ad197, e197, hx197_0⟩ := Kd.at_int (Kd.R_reads' aN.out).2.2 (aQ) p197 q197; cases e197; replace p197 := eq_true p197; replace q197 := eq_true q197; have p198 : 0 ≤ ((rd aJ (aQ)) : Int) := zd; have q198 : (rd aJ (aQ)) < (aK.length : Int) := zd; obtain ⟨ad198, e198, hx198_0⟩ := Kd.at_int (Kd.R_reads' aM.out).2.2 (rd aJ (aQ)) p198 q198; obtain rfl : ad196 = ad198 := (by injection e198); replace p198 := eq_true p198; replace q198 := eq_true q198; go_wp2
         repeat (go_quiet (fail); try go_wp2)
         go_roundg k2
         case measure => have := HK1.out; have := HK2.out; omega
         case rel => exact ⟨(aY), (wrap64 (aD - 1)), zr, zr, H', ⟨by have := HK1.out; have := HK2.out; omega⟩, ⟨zR aN⟩, ⟨zR aM⟩, ⟨zR aZ⟩, ⟨zk aA⟩, ⟨zb⟩⟩
       ·rw [if_neg c26] at H; have dC : decide (0 ≤ aD) = false := decide_eq_false c26; clear c26; obtain ⟨cG, H⟩ := zifA H; obtain ⟨cW, cC⟩ : ∃ y_ : List Int, y_ = (aJ ++ [aY]) := ⟨_, rfl⟩
        replace H : (spec_WayTo.l0 k2 aY a2 cW aK aH aG aE) = some r := zY cC H
        have Ny200 := zA cC; clear cC; have H' := zA H; clear H
        go_wp2_with (first | ((with_reducible refine gate_builtin (b := .append) (xs := #[.tmp 60, .tmp 62]) rfl ?_); at_builtin; refine Kd.R_append (Kd.int .i64) (w0 := w) w.heap.size rfl (.tmp 60) (.tmp 62) 22 3 (.int .i64 0) 8 rfl Try.underlying22 info3 rfl (by decide) (by omega) u7 aJ aY [.int .i64 aY] (fun k_ => some k_ ≠ (v187 : Value).ownBlock ∧ some k_ ≠ (.slice bD aI.length bC : Value).ownBlock) (fun _ => False) rfl rfl ?aP (fun _ hk => hk.elim) ?aF ?aO ?aB ?aS ?aL ?_; (case aP => exact rfl); (case aB => exact zb); (case aF => exact (fun k_ hk => ⟨Kd.fresh' (Kd.R_lt (zR aM)) k_ hk, Kd.fresh' (Kd.R_lt (zR aZ)) k_ hk⟩)); (case aO => exact (zR aN)); (case aS => exact (below_size zb)); (case aL => have := cG.out; omega); intro v201 dD ho hb hg hat; rw [← Ny200.out] at ho; replace aM := zA (Kd.R_after (ok := (fun k_ => some k_ ≠ (.slice bD aI.length bC : Value).ownBlock)) (by (with_reducible repeat (first | apply Kd.R_alloc | apply Kd.R_drewN | apply Kd.R_drew)); exact Kd.R_mono aM.out (fun _ hk => ⟨hk.2, hk.1⟩)) hg hat); replace aZ := zA (Kd.R_after (ok := (fun k_ => some k_ ≠ (v187 : Value).ownBlock)) (by (with_reducible repeat (first | apply Kd.R_alloc | apply Kd.R_drewN | apply Kd.R_drew)); exact Kd.R_mono aZ.out (fun _ hk => ⟨hk.2, hk.1⟩)) hg hat); replace aA := zA (blk_grown (g := aR) (o := .cells #[.int .i64 aH, .int .i64 aG, .slice aU aE.length aT] 36 (0, 0)) (zk aA) hg (Kd.R_ne aN.out aA.out (by decide))); replace HB := zA (hb); have cI := zA (ho); clear aN; clear ho hb hg hat))
        repeat (go_quiet (first | ((with_reducible refine gate_builtin (b := .append) (xs := #[.tmp 60, .tmp 62]) rfl ?_); at_builtin; refine Kd.R_append (Kd.int .i64) (w0 := w) w.heap.size rfl (.tmp 60) (.tmp 62) 22 3 (.int .i64 0) 8 rfl Try.underlying22 info3 rfl (by decide) (by omega) u7 aJ aY [.int .i64 aY] (fun k_ => some k_ ≠ (v187 : Value).ownBlock ∧ some k_ ≠ (.slice bD aI.length bC : Value).ownBlock) (fun _ => False) rfl rfl ?aP (fun _ hk => hk.elim) ?aF ?aO ?aB ?aS ?aL ?_; (case aP => exact rfl); (case aB => exact zb); (case aF => exact (fun k_ hk => ⟨Kd.fresh' (Kd.R_lt (zR aM)) k_ hk, Kd.fresh' (Kd.R_lt (zR aZ)) k_ hk⟩)); (case aO => exact (zR aN)); (case aS => exact (below_size zb)); (case aL => have := cG.out; omega); intro v201 dD ho hb hg hat; rw [← Ny200.out] at ho; replace aM := zA (Kd.R_after (ok := (fun k_ => some k_ ≠ (.slice bD aI.length bC : Value).ownBlock)) (by (with_reducible repeat (first | apply Kd.R_alloc | apply Kd.R_drewN | apply Kd.R_drew)); exact Kd.R_mono aM.out (fun _ hk => ⟨hk.2, hk.1⟩)) hg hat); replace aZ := zA (Kd.R_after (ok := (fun k_ => some k_ ≠ (v187 : Value).ownBlock)) (by (with_reducible repeat (first | apply Kd.R_alloc | apply Kd.R_drewN | apply Kd.R_drew)); exact Kd.R_mono aZ.out (fun _ hk => ⟨hk.2, hk.1⟩)) hg hat); replace aA := zA (blk_grown (g := aR) (o := .cells #[.int .i64 aH, .int .i64 aG, .slice aU aE.length aT] 36 (0, 0)) (zk aA) hg (Kd.R_ne aN.out aA.out (by decide))); replace HB := zA (hb); have cI := zA (ho); clear aN; clear ho hb hg hat)); try go_wp2_with (first | ((with_reducible refine gate_builtin (b := .append) (xs := #[.tmp 60, .tmp 62]) rfl ?_); at_builtin; refine Kd.R_append (Kd.int .i64) (w0 := w) w.heap.size rfl (.tmp 60) (.tmp 62) 22 3 (.int .i64 0) 8 rfl Try.underlying22 info3 rfl (by decide) (by omega) u7 aJ aY [.int .i64 aY] (fun k_ => some k_ ≠ (v187 : Value).ownBlock ∧ some k_ ≠ (.slice bD aI.length bC : Value).ownBlock) (fun _ => False) rfl rfl ?aP (fun _ hk => hk.elim) ?aF ?aO ?aB ?aS ?aL ?_; (case aP => exact rfl); (case aB => exact zb); (case aF => exact (fun k_ hk => ⟨Kd.fresh' (Kd.R_lt (zR aM)) k_ hk, Kd.fresh' (Kd.R_lt (zR aZ)) k_ hk⟩)); (case aO => exact (zR aN)); (case aS => exact (below_size zb)); (case aL => have := cG.out; omega); intro v201 dD ho hb hg hat; rw [← Ny200.out] at ho; replace aM := zA (Kd.R_after (ok := (fun k_ => some k_ ≠ (.slice bD aI.length bC : Value).ownBlock)) (by (with_reducible repeat (first | apply Kd.R_alloc | apply Kd.R_drewN | apply Kd.R_drew)); exact Kd.R_mono aM.out (fun _ hk => ⟨hk.2, hk.1⟩)) hg hat); replace aZ := zA (Kd.R_after (ok := (fun k_ => some k_ ≠ (v187 : Value).ownBlock)) (by (with_reducible repeat (first | apply Kd.R_alloc | apply Kd.R_drewN | apply Kd.R_drew)); exact Kd.R_mono aZ.out (fun _ hk => ⟨hk.2, hk.1⟩)) hg hat); replace aA := zA (blk_grown (g := aR) (o := .cells #[.int .i64 aH, .int .i64 aG, .slice aU aE.length aT] 36 (0, 0)) (zk aA) hg (Kd.R_ne aN.out aA.out (by decide))); replace HB := zA (hb); have cI := zA (ho); clear aN; clear ho hb hg hat)))
        go_roundg k2
        case measure => have := HK1.out; have := HK2.out; omega
        case rel => exact ⟨(aY), (cW), zr, H', ⟨by have := HK1.out; have := HK2.out; omega⟩, ⟨by (with_reducible repeat (first | apply Kd.R_alloc | apply Kd.R_drewN | apply Kd.R_drew)); exact Kd.R_mono cI.out (fun _ hk => hk.1)⟩, ⟨by (with_reducible repeat (first | apply Kd.R_alloc | apply Kd.R_drewN | apply Kd.R_drew)); exact Kd.R_mono aM.out (fun _ hk => hk.2)⟩, ⟨zk aA⟩, ⟨zb⟩⟩

def spec_AreDepots.l0 : Nat → List (S58) → Int → Int → Int → List Int → Option (Bool)
  | 0, _, _, _, _, _ => none
  | k + 1, x1, x5, x204000, x204001, x204002 => if x5 < (x1.length : Int) then (if 0 ≤ x5 then ((spec_IsOpen.f k x204000 x204001 x204002 ((rd_T58 x1 x5).f0)).bind fun t206 => (if t206 = true then ((spec_l1In.f ((rd_T58 x1 x5).f1) 1 10000).bind fun t208 => (if t208 = true then (if x5 > 0 then (if 0 ≤ (wrap64 (x5 - 1)) then (if (wrap64 (x5 - 1)) < (x1.length : Int) then (if ((rd_T58 x1 (wrap64 (x5 - 1))).f0) ≥ ((rd_T58 x1 x5).f0) then (some false) else (spec_AreDepots.l0 k x1 (wrap64 (x5 + 1)) x204000 x204001 x204002)) else (none)) else (none)) else (spec_AreDepots.l0 k x1 (wrap64 (x5 + 1)) x204000 x204001 x204002)) else (some false))) else (some false))) else (none)) else ((spec_IsLand.f k x204000 x204001 x204002).bind fun t204 => (if t204 = true then (some (decide ((x1.length : Int) ≤ 20))) else (some false)))
def spec_AreDepots.f (k : Nat) (a0_0 : Int) (a0_1 : Int) (l0_2 : List Int) (l1 : List (S58)) : Option (Bool) := spec_AreDepots.l0 k l1 0 a0_0 a0_1 l0_2
def spec_AreDepots.T4 : Bool × List (List Nat × List Nat) := (true, [([], []), ([], []), ([], []), ([1, 2], [1, 2]), ([3], [3]), ([4], [4]), ([0, 5], [0, 5]), ([6], [6]), ([7, 6], [7]), ([8], [8]), ([8], [8]), ([9, 10, 8], [8, 9, 10]), ([11, 8], [8, 11]), ([12, 8], [8, 12]), ([13, 8, 8], [8, 13]), ([14, 8], [8, 14]), ([8, 15], [8, 15]), ([16, 14], [16]), ([17], [17]), ([18, 17], [17, 18]), ([19, 17, 17], [17, 19]), ([20], [20]), ([20], [20]), ([22, 20], [20, 22]), ([21, 23, 20], [20, 21, 23]), ([24, 20], [20, 24]), ([25, 20], [20, 25]), ([20], [20]), ([20], [20]), ([27, 28, 20], [20, 27, 28]), ([29, 20], [20, 29]), ([30, 20], [20, 30]), ([26, 31, 20], [20, 26, 31]), ([20, 32, 17], [17, 20, 32]), ([17, 33], [17, 33])])
def spec_AreDepots.B4 : List Nat := [0, 0, 0, 6, 14, 30, 63, 127, 255, 511, 511, 2047, 4095, 8191, 16383, 32767, 65535, 131071, 262143, 524287, 1048575, 2097151, 2097151, 6291455, 16777215, 33554431, 67108863, 2097151, 2097151, 404750335, 941621247, 2015363071, 4294967295, 8589934591, 17179869183]
theorem spec_AreDepots.tab4 : rtab .any (opsOf Try.f48 4) = spec_AreDepots.T4 := by kernel_rfl
theorem spec_AreDepots.bits4 : waitsOk spec_AreDepots.T4.2 spec_AreDepots.B4 = true := by kernel_rfl
theorem spec_AreDepots.calls (k : Nat) (aH : Int) (aG : Int) (aM : Option Addr) (aK : Nat) (aE : List Int) (A1 : Option Addr) (c1 : Nat) (l1 : List (S58)) (r : Bool) (w : World) (aU : Kd.C (Kd.int .i64) w aM aE.length aE) (aV : aE.length ≤ aK) (bD : Kd.C k58 w A1 l1.length l1) (bE : l1.length ≤ c1) (h : spec_AreDepots.f k aH aG aE l1 = some r) :
  Calls Try.prog 48 #[.agg #[.int .i64 aH, .int .i64 aG, .slice aM aE.length aK], .slice A1 l1.length c1] w fun e w' => e = .returned (.bool r) ∧ Below w.heap.size w w' := by
 have hu36 := Try.underlying36; have aQ := zA aU; have aR := zA aV; clear aU aV; have aN := zA bD; have cO := zA bE; clear bD bE; have HB := zA (Below.refl w.heap.size w); have H := h; clear h; unfold spec_AreDepots.f at H; have H' := zA H; clear H; go_enter Try.func48, Try.ntmps48
 go_wp2_with (first | ((with_reducible refine gate_dst (N := 2) rfl ?_); (try (refine gate_guard (by rfl) ?_; dsimp only)); refine zbx 2 #[.int .i64 aH, .int .i64 aG, .slice aM aE.length aK] 36 ?_; intro aJ hg w3 hbox hb; have aC := zA (hbox); have cA := zga (w := w) hg; replace HB := zbs hb; clear hb hbox hg))
 go_loopg [5] k (fun kq v5 w' => ∃ (aA : Int), v5 = .int .i64 aA ∧ Aside0 (spec_AreDepots.l0 kq l1 aA aH aG aE = some r) ∧ Aside0 (kq ≤ k) ∧ Aside0 (w'.heap[aJ]? = some (.cells #[.int .i64 aH, .int .i64 aG, (.slice aM aE.length aK)] 36 (0, 0))) ∧ Aside0 (Below w.heap.size w w'))
 case atStart => exact ⟨(0), zr, H', ⟨Nat.le_refl _⟩, ⟨zk aC⟩, ⟨zb⟩⟩
 case round =>
  clear H'; (try clear c1); (try clear p2); obtain ⟨aA, rfl, HA, HK1, aC, HB⟩ := hrel
  cases gk with
  | zero => exact absurd HA.out (by simp [spec_AreDepots.l0])
  | succ k1 =>
   have H := HA.out; clear HA; simp only [spec_AreDepots.l0] at H
   by_cases c4 : aA < (l1.length : Int)
   ·rw [if_pos c4] at H; have bJ := decide_eq_true c4; clear c4; obtain ⟨cB, H⟩ := zifD H; obtain ⟨bH, A6, H⟩ := zB H
    by_cases c7 : bH = true
    ·subst c7; rw [if_pos rfl] at H; obtain ⟨bG, A8, H⟩ := zB H
     by_cases c9 : bG = true
     ·subst c9; rw [if_pos rfl] at H
      by_cases c10 : aA > 0
      ·rw [if_pos c10] at H; have bC : decide (0 < aA) = true := decide_eq_true c10; clear c10; obtain ⟨aI, aT⟩ : ∃ j_ : Int, (wrap64 (aA - 1)) = j_ := ⟨_, rfl⟩
       replace H : (if 0 ≤ (aI) then (if (aI) < (l1.length : Int) then (if ((rd_T58 l1 (aI)).f0) ≥ ((rd_T58 l1 aA).f0) then (some false) else (spec_AreDepots.l0 k1 l1 (wrap64 (aA + 1)) aH aG aE)) else (none)) else (none)) = some r := by first | (rw [aT] at H; exact H) | (simp only [aT] at H ⊢; exact H)
       (try rw [aT] at A6); (try rw [aT] at A8); have hji11w : (IntKind.i64.wrap (aA - 1)) = aI := (i64_w _).trans aT; obtain ⟨bZ, H⟩ := zifD H; obtain ⟨bY, H⟩ := zifD H
       by_cases c14 : ((rd_T58 l1 (aI)).f0) ≥ ((rd_T58 l1 aA).f0)
       ·rw [if_pos c14] at H; have bB : decide (((rd_T58 l1 aA).f0) ≤ ((rd_T58 l1 (aI)).f0)) = true := decide_eq_true c14; clear c14; obtain rfl := zI H
        try go_wp2
        replace aC := zA (blk_drew aC.out); replace HB := zA (below_drew1 HB.out); have p205 : 0 ≤ (aA : Int) := zd; have q205 : aA < (l1.length : Int) := zd; obtain ⟨ad205, e205, hx205_0, hx205_1⟩ := at_T58 aN.out aA p205 q205; have hw205_1 := hx205_1; have hw205_0 := hx205_0; cases e205; replace hx205_0 := (HB.out.cell (World.block_lt_of_cell? w _ hx205_0)).trans hx205_0; replace hx205_1 := (HB.out.cell (World.block_lt_of_cell? w _ hx205_1)).trans hx205_1; replace p205 := eq_true p205; replace q205 := eq_true q205; have p207 : 0 ≤ (aA : Int) := zd; have q207 : aA < (l1.length : Int) := zd; obtain ⟨ad207, e207, hx207_0, hx207_1⟩ := at_T58 aN.out aA p207 q207; have hw207_1 := hx207_1; have hw207_0 := hx207_0; obtain rfl : ad205 = ad207 := (by injection e207); replace hx207_0 := (HB.out.cell (World.block_lt_of_cell? w _ hx207_0)).trans hx207_0; replace hx207_1 := (HB.out.cell (World.block_lt_of_cell? w _ hx207_1)).trans hx207_1; replace p207 := eq_true p207; replace q207 := eq_true q207; have p209 : 0 ≤ ((aI) : Int) := zd; have q209 : (aI) < (l1.length : Int) := zd; obtain ⟨ad209, e209, hx209_0, hx209_1⟩ := at_T58 aN.out (aI) p209 q209; have hw209_1 := hx209_1; have hw209_0 := hx209_0; obtain rfl : ad205 = ad209 := (by injection e209); replace hx209_0 := (HB.out.cell (World.block_lt_of_cell? w _ hx209_0)).trans hx209_0; replace hx209_1 := (HB.out.cell (World.block_lt_of_cell? w _ hx209_1)).trans hx209_1; replace p209 := eq_true p209; replace q209 := eq_true q209; have p210 : 0 ≤ (aA : Int) := zd; have q210 : aA < (l1.length : Int) := zd; obtain ⟨ad210, e210, hx210_0, hx210_1⟩ := at_T58 aN.out aA p210 q210; have hw210_1 := hx210_1; have hw210_0 := hx210_0; obtain rfl : ad205 = ad210 := (by injection e210); replace hx210_0 := (HB.out.cell (World.block_lt_of_cell? w _ hx210_0)).trans hx210_0; replace hx210_1 := (HB.out.cell (World.block_lt_of_cell? w _ hx210_1)).trans hx210_1; replace p210 := eq_true p210; replace q210 := eq_true q210; refine start_ (n := 35) (S := fun w' => w'.cell? ⟨aJ, 0, none⟩ = some (.int .i64 aH) ∧ w'.cell? ⟨aJ, 1, none⟩ = some (.int .i64 aG) ∧ w'.cell? ⟨aJ, 2, none⟩ = some (.slice aM aE.length aK) ∧ w'.cell? (ad205.add ((aA).toNat * 2)) = some (.int .i64 ((rd_T58 l1 aA).f0)) ∧ w'.cell? ⟨(ad205.add ((aA).toNat * 2)).block, (ad205.add ((aA).toNat * 2)).off + 1, none⟩ = some (.int .i64 ((rd_T58 l1 aA).f1)) ∧ w'.cell? (ad205.add ((aA).toNat * 2)) = some (.int .i64 ((rd_T58 l1 aA).f0)) ∧ w'.cell? ⟨(ad205.add ((aA).toNat * 2)).block, (ad205.add ((aA).toNat * 2)).off + 1, none⟩ = some (.int .i64 ((rd_T58 l1 aA).f1)) ∧ w'.cell? (ad205.add (((aI)).toNat * 2)) = some (.int .i64 ((rd_T58 l1 (aI)).f0)) ∧ w'.cell? ⟨(ad205.add (((aI)).toNat * 2)).block, (ad205.add (((aI)).toNat * 2)).off + 1, none⟩ = some (.int .i64 ((rd_T58 l1 (aI)).f1)) ∧ w'.cell? (ad205.add ((aA).toNat * 2)) = some (.int .i64 ((rd_T58 l1 aA).f0)) ∧ w'.cell? ⟨(ad205.add ((aA).toNat * 2)).block, (ad205.add ((aA).toNat * 2)).off + 1, none⟩ = some (.int .i64 ((rd_T58 l1 aA).f1))) (ds := []) _ (by kernel_rfl) rfl rfl ⟨zq aC 0, zq aC 1, zq aC 2, (zC HB hw205_0), (zC HB hw205_1), (zC HB hw207_0), (zC HB hw207_1), (zC HB hw209_0), (zC HB hw209_1), (zC HB hw210_0), (zC HB hw210_1)⟩ (fun hHeld => ?_); refine with_tabW spec_AreDepots.tab4 spec_AreDepots.bits4 (fun HT_ HW_ => ?_); generalize wr.drew = cN at aC HB hx205_0 hx205_1 hx207_0 hx207_1 hx209_0 hx209_1 hx210_0 hx210_1 hHeld ⊢; refine zp 1 13 HT_ ?_; refine zp 2 14 HT_ ?_; refine zp 3 15 HT_ ?_
        refine zp 4 16 HT_ ?_; refine zt 0 12 HT_ HW_ hHeld ?_; refine zt 5 17 HT_ HW_ hHeld ?_; refine zo 6 18 HT_ (fun K hK => ?_); refine zgo Try.func80 #[.agg #[.int .i64 aH, .int .i64 aG, .slice aM aE.length aK], .int .i64 ((rd_T58 l1 aA).f0)] ?_
        with_reducible refine (spec_IsOpen.calls k1 aH aG _ _ aE ((rd_T58 l1 aA).f0) true _ ?side1 ?side2 A6.out).mono ?_
        (case side1 => exact zCb aQ); (case side2 => exact aR.out); rintro e cM ⟨rfl, hb⟩; refine ⟨_, rfl, ?_⟩; replace aC := zkb aC hb; replace HB := zbs hb; (try clear hb); refine hK.out _ _ ⟨zq aC 0, zq aC 1, zq aC 2, (zC HB hw205_0), (zC HB hw205_1), (zC HB hw207_0), (zC HB hw207_1), (zC HB hw209_0), (zC HB hw209_1), (zC HB hw210_0), (zC HB hw210_1)⟩ (fun hHeld => ?_); clear hK K; refine norm_ zV ?_; refine zp 7 19 HT_ ?_; refine zp 8 20 HT_ ?_; refine zp 9 21 HT_ ?_; refine zp 10 22 HT_ ?_; refine zp 11 23 HT_ ?_; refine zp 12 24 HT_ ?_; refine zt 13 25 HT_ HW_ hHeld ?_; refine zo 14 26 HT_ (fun K hK => ?_); refine zgo Try.func79 #[.int .i64 ((rd_T58 l1 aA).f1), .int .i64 1, .int .i64 10000] ?_
        with_reducible refine (spec_l1In.calls ((rd_T58 l1 aA).f1) 1 10000 true _ A8.out).mono ?_
        rintro e w' ⟨rfl, ⟨nd, rfl⟩⟩; refine ⟨_, rfl, ?_⟩; refine hK.out _ _ ⟨zq aC 0, zq aC 1, zq aC 2, (zC HB hw205_0 :), (zC HB hw205_1 :), (zC HB hw207_0 :), (zC HB hw207_1 :), (zC HB hw209_0 :), (zC HB hw209_1 :), (zC HB hw210_0 :), (zC HB hw210_1 :)⟩ (fun hHeld => ?_); clear hK K; refine norm_ zV ?_; refine zp 15 27 HT_ ?_; refine zp 16 28 HT_ ?_; refine zp 17 29 HT_ ?_; refine zp 18 30 HT_ ?_; refine zp 19 31 HT_ ?_; refine zp 20 32 HT_ ?_; refine zp 21 33 HT_ ?_; refine zp 22 34 HT_ ?_; refine zp 23 35 HT_ ?_; refine zp 24 36 HT_ ?_; refine zp 25 37 HT_ ?_; refine zp 27 39 HT_ ?_; refine zp 28 40 HT_ ?_; refine zp 29 41 HT_ ?_; refine zp 30 42 HT_ ?_; refine zt 26 38 HT_ HW_ hHeld ?_; refine zt 31 43 HT_ HW_ hHeld ?_; refine zp 32 44 HT_ ?_; refine zp 33 45 HT_ ?_; refine zp 34 46 HT_ ?_; refine done_ (done_of HT_.out (by kernel_rfl)) ?_
        try go_wp2
        go_ret; exact ⟨by first | rfl | (simp [errW_none, errW_some] <;> rfl) | (simp only [← aT]; first | rfl | (simp [errW_none, errW_some] <;> rfl)) | (simp [*, errW_none, errW_some] <;> rfl), zb⟩
       ·rw [if_neg c14] at H; have bB : decide (((rd_T58 l1 aA).f0) ≤ ((rd_T58 l1 (aI)).f0)) = false := decide_eq_false c14; clear c14; have H' := zA H; clear H
        try go_wp2
        replace aC := zA (blk_drew aC.out); replace HB := zA (below_drew1 HB.out); have p205 : 0 ≤ (aA : Int) := zd; have q205 : aA < (l1.length : Int) := zd; obtain ⟨ad205, e205, hx205_0, hx205_1⟩ := at_T58 aN.out aA p205 q205; have hw205_1 := hx205_1; have hw205_0 := hx205_0; cases e205; replace hx205_0 := (HB.out.cell (World.block_lt_of_cell? w _ hx205_0)).trans hx205_0; replace hx205_1 := (HB.out.cell (World.block_lt_of_cell? w _ hx205_1)).trans hx205_1; replace p205 := eq_true p205; replace q205 := eq_true q205; have p207 : 0 ≤ (aA : Int) := zd; have q207 : aA < (l1.length : Int) := zd; obtain ⟨ad207, e207, hx207_0, hx207_1⟩ := at_T58 aN.out aA p207 q207; have hw207_1 := hx207_1; have hw207_0 := hx207_0; obtain rfl : ad205 = ad207 := (by injection e207); replace hx207_0 := (HB.out.cell (World.block_lt_of_cell? w _ hx207_0)).trans hx207_0; replace hx207_1 := (HB.out.cell (World.block_lt_of_cell? w _ hx207_1)).trans hx207_1; replace p207 := eq_true p207; replace q207 := eq_true q207; have p209 : 0 ≤ ((aI) : Int) := zd; have q209 : (aI) < (l1.length : Int) := zd; obtain ⟨ad209, e209, hx209_0, hx209_1⟩ := at_T58 aN.out (aI) p209 q209; have hw209_1 := hx209_1; have hw209_0 := hx209_0; obtain rfl : ad205 = ad209 := (by injection e209); replace hx209_0 := (HB.out.cell (World.block_lt_of_cell? w _ hx209_0)).trans hx209_0; replace hx209_1 := (HB.out.cell (World.block_lt_of_cell? w _ hx209_1)).trans hx209_1; replace p209 := eq_true p209; replace q209 := eq_true q209; have p210 : 0 ≤ (aA : Int) := zd; have q210 : aA < (l1.length : Int) := zd; obtain ⟨ad210, e210, hx210_0, hx210_1⟩ := at_T58 aN.out aA p210 q210; have hw210_1 := hx210_1; have hw210_0 := hx210_0; obtain rfl : ad205 = ad210 := (by injection e210); replace hx210_0 := (HB.out.cell (World.block_lt_of_cell? w _ hx210_0)).trans hx210_0; replace hx210_1 := (HB.out.cell (World.block_lt_of_cell? w _ hx210_1)).trans hx210_1; replace p210 := eq_true p210; replace q210 := eq_true q210; refine start_ (n := 35) (S := fun w' => w'.cell? ⟨aJ, 0, none⟩ = some (.int .i64 aH) ∧ w'.cell? ⟨aJ, 1, none⟩ = some (.int .i64 aG) ∧ w'.cell? ⟨aJ, 2, none⟩ = some (.slice aM aE.length aK) ∧ w'.cell? (ad205.add ((aA).toNat * 2)) = some (.int .i64 ((rd_T58 l1 aA).f0)) ∧ w'.cell? ⟨(ad205.add ((aA).toNat * 2)).block, (ad205.add ((aA).toNat * 2)).off + 1, none⟩ = some (.int .i64 ((rd_T58 l1 aA).f1)) ∧ w'.cell? (ad205.add ((aA).toNat * 2)) = some (.int .i64 ((rd_T58 l1 aA).f0)) ∧ w'.cell? ⟨(ad205.add ((aA).toNat * 2)).block, (ad205.add ((aA).toNat * 2)).off + 1, none⟩ = some (.int .i64 ((rd_T58 l1 aA).f1)) ∧ w'.cell? (ad205.add (((aI)).toNat * 2)) = some (.int .i64 ((rd_T58 l1 (aI)).f0)) ∧ w'.cell? ⟨(ad205.add (((aI)).toNat * 2)).block, (ad205.add (((aI)).toNat * 2)).off + 1, none⟩ = some (.int .i64 ((rd_T58 l1 (aI)).f1)) ∧ w'.cell? (ad205.add ((aA).toNat * 2)) = some (.int .i64 ((rd_T58 l1 aA).f0)) ∧ w'.cell? ⟨(ad205.add ((aA).toNat * 2)).block, (ad205.add ((aA).toNat * 2)).off + 1, none⟩ = some (.int .i64 ((rd_T58 l1 aA).f1))) (ds := []) _ (by kernel_rfl) rfl rfl ⟨zq aC 0, zq aC 1, zq aC 2, (zC HB hw205_0), (zC HB hw205_1), (zC HB hw207_0), (zC HB hw207_1), (zC HB hw209_0), (zC HB hw209_1), (zC HB hw210_0), (zC HB hw210_1)⟩ (fun hHeld => ?_); refine with_tabW spec_AreDepots.tab4 spec_AreDepots.bits4 (fun HT_ HW_ => ?_); generalize wr.drew = cL at aC HB hx205_0 hx205_1 hx207_0 hx207_1 hx209_0 hx209_1 hx210_0 hx210_1 hHeld ⊢; refine zp 1 13 HT_ ?_; refine zp 2 14 HT_ ?_; refine zp 3 15 HT_ ?_
        refine zp 4 16 HT_ ?_; refine zt 0 12 HT_ HW_ hHeld ?_; refine zt 5 17 HT_ HW_ hHeld ?_; refine zo 6 18 HT_ (fun K hK => ?_); refine zgo Try.func80 #[.agg #[.int .i64 aH, .int .i64 aG, .slice aM aE.length aK], .int .i64 ((rd_T58 l1 aA).f0)] ?_
        with_reducible refine (spec_IsOpen.calls k1 aH aG _ _ aE ((rd_T58 l1 aA).f0) true _ ?side1 ?side2 A6.out).mono ?_
        (case side1 => exact zCb aQ); (case side2 => exact aR.out); rintro e cK ⟨rfl, hb⟩; refine ⟨_, rfl, ?_⟩; replace aC := zkb aC hb; replace HB := zbs hb; (try clear hb); refine hK.out _ _ ⟨zq aC 0, zq aC 1, zq aC 2, (zC HB hw205_0), (zC HB hw205_1), (zC HB hw207_0), (zC HB hw207_1), (zC HB hw209_0), (zC HB hw209_1), (zC HB hw210_0), (zC HB hw210_1)⟩ (fun hHeld => ?_); clear hK K; refine norm_ zV ?_; refine zp 7 19 HT_ ?_; refine zp 8 20 HT_ ?_; refine zp 9 21 HT_ ?_; refine zp 10 22 HT_ ?_; refine zp 11 23 HT_ ?_; refine zp 12 24 HT_ ?_; refine zt 13 25 HT_ HW_ hHeld ?_; refine zo 14 26 HT_ (fun K hK => ?_); refine zgo Try.func79 #[.int .i64 ((rd_T58 l1 aA).f1), .int .i64 1, .int .i64 10000] ?_
        with_reducible refine (spec_l1In.calls ((rd_T58 l1 aA).f1) 1 10000 true _ A8.out).mono ?_
        rintro e w' ⟨rfl, ⟨nd, rfl⟩⟩; refine ⟨_, rfl, ?_⟩; refine hK.out _ _ ⟨zq aC 0, zq aC 1, zq aC 2, (zC HB hw205_0 :), (zC HB hw205_1 :), (zC HB hw207_0 :), (zC HB hw207_1 :), (zC HB hw209_0 :), (zC HB hw209_1 :), (zC HB hw210_0 :), (zC HB hw210_1 :)⟩ (fun hHeld => ?_); clear hK K; refine norm_ zV ?_; refine zp 15 27 HT_ ?_; refine zp 16 28 HT_ ?_; refine zp 17 29 HT_ ?_; refine zp 18 30 HT_ ?_; refine zp 19 31 HT_ ?_; refine zp 20 32 HT_ ?_; refine zp 21 33 HT_ ?_; refine zp 22 34 HT_ ?_; refine zp 23 35 HT_ ?_; refine zp 24 36 HT_ ?_; refine zp 25 37 HT_ ?_; refine zp 27 39 HT_ ?_; refine zp 28 40 HT_ ?_; refine zp 29 41 HT_ ?_; refine zp 30 42 HT_ ?_; refine zt 26 38 HT_ HW_ hHeld ?_; refine zt 31 43 HT_ HW_ hHeld ?_; refine zp 32 44 HT_ ?_; refine zp 33 45 HT_ ?_; refine zp 34 46 HT_ ?_; refine done_ (done_of HT_.out (by kernel_rfl)) ?_
        try go_wp2
        go_roundg k1
        case measure => have := HK1.out; omega
        case rel => exact ⟨(wrap64 (aA + 1)), zr, H', ⟨by have := HK1.out; omega⟩, ⟨zk aC⟩, ⟨zb⟩⟩
      ·rw [if_neg c10] at H; have bC : decide (0 < aA) = false := decide_eq_false c10; clear c10; have H' := zA H; clear H
       try go_wp2
       replace aC := zA (blk_drew aC.out); replace HB := zA (below_drew1 HB.out); have p205 : 0 ≤ (aA : Int) := zd; have q205 : aA < (l1.length : Int) := zd; obtain ⟨ad205, e205, hx205_0, hx205_1⟩ := at_T58 aN.out aA p205 q205; have hw205_1 := hx205_1; have hw205_0 := hx205_0; cases e205; replace hx205_0 := (HB.out.cell (World.block_lt_of_cell? w _ hx205_0)).trans hx205_0; replace hx205_1 := (HB.out.cell (World.block_lt_of_cell? w _ hx205_1)).trans hx205_1; replace p205 := eq_true p205; replace q205 := eq_true q205; have p207 : 0 ≤ (aA : Int) := zd; have q207 : aA < (l1.length : Int) := zd; obtain ⟨ad207, e207, hx207_0, hx207_1⟩ := at_T58 aN.out aA p207 q207; have hw207_1 := hx207_1; have hw207_0 := hx207_0; obtain rfl : ad205 = ad207 := (by injection e207); replace hx207_0 := (HB.out.cell (World.block_lt_of_cell? w _ hx207_0)).trans hx207_0; replace hx207_1 := (HB.out.cell (World.block_lt_of_cell? w _ hx207_1)).trans hx207_1; replace p207 := eq_true p207; replace q207 := eq_true q207; refine start_ (n := 35) (S := fun w' => w'.cell? ⟨aJ, 0, none⟩ = some (.int .i64 aH) ∧ w'.cell? ⟨aJ, 1, none⟩ = some (.int .i64 aG) ∧ w'.cell? ⟨aJ, 2, none⟩ = some (.slice aM aE.length aK) ∧ w'.cell? (ad205.add ((aA).toNat * 2)) = some (.int .i64 ((rd_T58 l1 aA).f0)) ∧ w'.cell? ⟨(ad205.add ((aA).toNat * 2)).block, (ad205.add ((aA).toNat * 2)).off + 1, none⟩ = some (.int .i64 ((rd_T58 l1 aA).f1)) ∧ w'.cell? (ad205.add ((aA).toNat * 2)) = some (.int .i64 ((rd_T58 l1 aA).f0)) ∧ w'.cell? ⟨(ad205.add ((aA).toNat * 2)).block, (ad205.add ((aA).toNat * 2)).off + 1, none⟩ = some (.int .i64 ((rd_T58 l1 aA).f1))) (ds := []) _ (by kernel_rfl) rfl rfl ⟨zq aC 0, zq aC 1, zq aC 2, (zC HB hw205_0), (zC HB hw205_1), (zC HB hw207_0), (zC HB hw207_1)⟩ (fun hHeld => ?_); refine with_tabW spec_AreDepots.tab4 spec_AreDepots.bits4 (fun HT_ HW_ => ?_); generalize wr.drew = cJ at aC HB hx205_0 hx205_1 hx207_0 hx207_1 hHeld ⊢; refine zp 1 13 HT_ ?_; refine zp 2 14 HT_ ?_; refine zp 3 15 HT_ ?_; refine zp 4 16 HT_ ?_; refine zt 0 12 HT_ HW_ hHeld ?_; refine zt 5 17 HT_ HW_ hHeld ?_; refine zo 6 18 HT_ (fun K hK => ?_); refine zgo Try.func80 #[.agg #[.int .i64 aH, .int .i64 aG, .slice aM aE.length aK], .int .i64 ((rd_T58 l1 aA).f0)] ?_
       with_reducible refine (spec_IsOpen.calls k1 aH aG _ _ aE ((rd_T58 l1 aA).f0) true _ ?side1 ?side2 A6.out).mono ?_
       (case side1 => exact zCb aQ); (case side2 => exact aR.out); rintro e cI ⟨rfl, hb⟩; refine ⟨_, rfl, ?_⟩; replace aC := zkb aC hb; replace HB := zbs hb; (try clear hb); refine hK.out _ _ ⟨zq aC 0, zq aC 1, zq aC 2, (zC HB hw205_0), (zC HB hw205_1), (zC HB hw207_0), (zC HB hw207_1)⟩ (fun hHeld => ?_); clear hK K; refine norm_ zV ?_; refine zp 7 19 HT_ ?_; refine zp 8 20 HT_ ?_; refine zp 9 21 HT_ ?_; refine zp 10 22 HT_ ?_; refine zp 11 23 HT_ ?_; refine zp 12 24 HT_ ?_; refine zt 13 25 HT_ HW_ hHeld ?_; refine zo 14 26 HT_ (fun K hK => ?_); refine zgo Try.func79 #[.int .i64 ((rd_T58 l1 aA).f1), .int .i64 1, .int .i64 10000] ?_
       with_reducible refine (spec_l1In.calls ((rd_T58 l1 aA).f1) 1 10000 true _ A8.out).mono ?_
       rintro e w' ⟨rfl, ⟨nd, rfl⟩⟩; refine ⟨_, rfl, ?_⟩; refine hK.out _ _ ⟨zq aC 0, zq aC 1, zq aC 2, (zC HB hw205_0 :), (zC HB hw205_1 :), (zC HB hw207_0 :), (zC HB hw207_1 :)⟩ (fun hHeld => ?_); clear hK K; refine norm_ zV ?_; refine zp 15 27 HT_ ?_; refine zp 16 28 HT_ ?_; refine zp 17 29 HT_ ?_; refine zp 18 30 HT_ ?_; refine zp 19 31 HT_ ?_; refine zp 20 32 HT_ ?_; refine zu 21 33 HT_ ?_; refine zu 22 34 HT_ ?_; refine zu 23 35 HT_ ?_; refine zu 24 36 HT_ ?_; refine zu 25 37 HT_ ?_; refine zu 26 38 HT_ ?_; refine zu 27 39 HT_ ?_; refine zu 28 40 HT_ ?_; refine zu 29 41 HT_ ?_; refine zu 30 42 HT_ ?_; refine zu 31 43 HT_ ?_; refine zu 32 44 HT_ ?_; refine zp 33 45 HT_ ?_; refine zp 34 46 HT_ ?_; refine done_ (done_of HT_.out (by kernel_rfl)) ?_
       try go_wp2
       go_roundg k1
       case measure => have := HK1.out; omega
       case rel => exact ⟨(wrap64 (aA + 1)), zr, H', ⟨by have := HK1.out; omega⟩, ⟨zk aC⟩, ⟨zb⟩⟩
     ·replace c9 := Bool.eq_false_iff.mpr c9; subst c9; rw [if_neg zNo] at H; obtain rfl := zI H
      try go_wp2
      replace aC := zA (blk_drew aC.out); replace HB := zA (below_drew1 HB.out); have p205 : 0 ≤ (aA : Int) := zd; have q205 : aA < (l1.length : Int) := zd; obtain ⟨ad205, e205, hx205_0, hx205_1⟩ := at_T58 aN.out aA p205 q205; have hw205_1 := hx205_1; have hw205_0 := hx205_0; cases e205; replace hx205_0 := (HB.out.cell (World.block_lt_of_cell? w _ hx205_0)).trans hx205_0; replace hx205_1 := (HB.out.cell (World.block_lt_of_cell? w _ hx205_1)).trans hx205_1; replace p205 := eq_true p205; replace q205 := eq_true q205; have p207 : 0 ≤ (aA : Int) := zd; have q207 : aA < (l1.length : Int) := zd; obtain ⟨ad207, e207, hx207_0, hx207_1⟩ := at_T58 aN.out aA p207 q207; have hw207_1 := hx207_1; have hw207_0 := hx207_0; obtain rfl : ad205 = ad207 := (by injection e207); replace hx207_0 := (HB.out.cell (World.block_lt_of_cell? w _ hx207_0)).trans hx207_0; replace hx207_1 := (HB.out.cell (World.block_lt_of_cell? w _ hx207_1)).trans hx207_1; replace p207 := eq_true p207; replace q207 := eq_true q207; refine start_ (n := 35) (S := fun w' => w'.cell? ⟨aJ, 0, none⟩ = some (.int .i64 aH) ∧ w'.cell? ⟨aJ, 1, none⟩ = some (.int .i64 aG) ∧ w'.cell? ⟨aJ, 2, none⟩ = some (.slice aM aE.length aK) ∧ w'.cell? (ad205.add ((aA).toNat * 2)) = some (.int .i64 ((rd_T58 l1 aA).f0)) ∧ w'.cell? ⟨(ad205.add ((aA).toNat * 2)).block, (ad205.add ((aA).toNat * 2)).off + 1, none⟩ = some (.int .i64 ((rd_T58 l1 aA).f1)) ∧ w'.cell? (ad205.add ((aA).toNat * 2)) = some (.int .i64 ((rd_T58 l1 aA).f0)) ∧ w'.cell? ⟨(ad205.add ((aA).toNat * 2)).block, (ad205.add ((aA).toNat * 2)).off + 1, none⟩ = some (.int .i64 ((rd_T58 l1 aA).f1))) (ds := []) _ (by kernel_rfl) rfl rfl ⟨zq aC 0, zq aC 1, zq aC 2, (zC HB hw205_0), (zC HB hw205_1), (zC HB hw207_0), (zC HB hw207_1)⟩ (fun hHeld => ?_); refine with_tabW spec_AreDepots.tab4 spec_AreDepots.bits4 (fun HT_ HW_ => ?_); generalize wr.drew = cH at aC HB hx205_0 hx205_1 hx207_0 hx207_1 hHeld ⊢; refine zp 1 13 HT_ ?_; refine zp 2 14 HT_ ?_; refine zp 3 15 HT_ ?_; refine zp 4 16 HT_ ?_; refine zt 0 12 HT_ HW_ hHeld ?_; refine zt 5 17 HT_ HW_ hHeld ?_; refine zo 6 18 HT_ (fun K hK => ?_); refine zgo Try.func80 #[.agg #[.int .i64 aH, .int .i64 aG, .slice aM aE.length aK], .int .i64 ((rd_T58 l1 aA).f0)] ?_
      with_reducible refine (spec_IsOpen.calls k1 aH aG _ _ aE ((rd_T58 l1 aA).f0) true _ ?side1 ?side2 A6.out).mono ?_
      (case side1 => exact zCb aQ); (case side2 => exact aR.out); rintro e cG ⟨rfl, hb⟩; refine ⟨_, rfl, ?_⟩; replace aC := zkb aC hb; replace HB := zbs hb; (try clear hb); refine hK.out _ _ ⟨zq aC 0, zq aC 1, zq aC 2, (zC HB hw205_0), (zC HB hw205_1), (zC HB hw207_0), (zC HB hw207_1)⟩ (fun hHeld => ?_); clear hK K; refine norm_ zV ?_; refine zp 7 19 HT_ ?_; refine zp 8 20 HT_ ?_; refine zp 9 21 HT_ ?_; refine zp 10 22 HT_ ?_; refine zp 11 23 HT_ ?_; refine zp 12 24 HT_ ?_; refine zt 13 25 HT_ HW_ hHeld ?_; refine zo 14 26 HT_ (fun K hK => ?_); refine zgo Try.func79 #[.int .i64 ((rd_T58 l1 aA).f1), .int .i64 1, .int .i64 10000] ?_
      with_reducible refine (spec_l1In.calls ((rd_T58 l1 aA).f1) 1 10000 false _ A8.out).mono ?_
      rintro e w' ⟨rfl, ⟨nd, rfl⟩⟩; refine ⟨_, rfl, ?_⟩; refine hK.out _ _ ⟨zq aC 0, zq aC 1, zq aC 2, (zC HB hw205_0 :), (zC HB hw205_1 :), (zC HB hw207_0 :), (zC HB hw207_1 :)⟩ (fun hHeld => ?_); clear hK K; refine norm_ zV ?_; refine zp 15 27 HT_ ?_; refine zp 16 28 HT_ ?_; refine zp 17 29 HT_ ?_; refine zu 18 30 HT_ ?_; refine zu 19 31 HT_ ?_; refine zu 20 32 HT_ ?_; refine zu 21 33 HT_ ?_; refine zu 22 34 HT_ ?_; refine zu 23 35 HT_ ?_; refine zu 24 36 HT_ ?_; refine zu 25 37 HT_ ?_; refine zu 26 38 HT_ ?_; refine zu 27 39 HT_ ?_; refine zu 28 40 HT_ ?_; refine zu 29 41 HT_ ?_; refine zu 30 42 HT_ ?_; refine zu 31 43 HT_ ?_; refine zu 32 44 HT_ ?_; refine zu 33 45 HT_ ?_; refine zp 34 46 HT_ ?_; refine done_ (done_of HT_.out (by kernel_rfl)) ?_
      try go_wp2
      go_ret; exact ⟨zE, zb⟩
    ·replace c7 := Bool.eq_false_iff.mpr c7; subst c7; rw [if_neg zNo] at H; obtain rfl := zI H
     try go_wp2
     replace aC := zA (blk_drew aC.out); replace HB := zA (below_drew1 HB.out); have p205 : 0 ≤ (aA : Int) := zd; have q205 : aA < (l1.length : Int) := zd; obtain ⟨ad205, e205, hx205_0, hx205_1⟩ := at_T58 aN.out aA p205 q205; have hw205_1 := hx205_1; have hw205_0 := hx205_0; cases e205; replace hx205_0 := (HB.out.cell (World.block_lt_of_cell? w _ hx205_0)).trans hx205_0; replace hx205_1 := (HB.out.cell (World.block_lt_of_cell? w _ hx205_1)).trans hx205_1; replace p205 := eq_true p205; replace q205 := eq_true q205; refine start_ (n := 35) (S := fun w' => w'.cell? ⟨aJ, 0, none⟩ = some (.int .i64 aH) ∧ w'.cell? ⟨aJ, 1, none⟩ = some (.int .i64 aG) ∧ w'.cell? ⟨aJ, 2, none⟩ = some (.slice aM aE.length aK) ∧ w'.cell? (ad205.add ((aA).toNat * 2)) = some (.int .i64 ((rd_T58 l1 aA).f0)) ∧ w'.cell? ⟨(ad205.add ((aA).toNat * 2)).block, (ad205.add ((aA).toNat * 2)).off + 1, none⟩ = some (.int .i64 ((rd_T58 l1 aA).f1))) (ds := []) _ (by kernel_rfl) rfl rfl ⟨zq aC 0, zq aC 1, zq aC 2, (zC HB hw205_0), (zC HB hw205_1)⟩ (fun hHeld => ?_); refine with_tabW spec_AreDepots.tab4 spec_AreDepots.bits4 (fun HT_ HW_ => ?_); generalize wr.drew = cF at aC HB hx205_0 hx205_1 hHeld ⊢; refine zp 1 13 HT_ ?_; refine zp 2 14 HT_ ?_; refine zp 3 15 HT_ ?_; refine zp 4 16 HT_ ?_; refine zt 0 12 HT_ HW_ hHeld ?_; refine zt 5 17 HT_ HW_ hHeld ?_; refine zo 6 18 HT_ (fun K hK => ?_); refine zgo Try.func80 #[.agg #[.int .i64 aH, .int .i64 aG, .slice aM aE.length aK], .int .i64 ((rd_T58 l1 aA).f0)] ?_
     with_reducible refine (spec_IsOpen.calls k1 aH aG _ _ aE ((rd_T58 l1 aA).f0) false _ ?side1 ?side2 A6.out).mono ?_
     (case side1 => exact zCb aQ); (case side2 => exact aR.out); rintro e cE ⟨rfl, hb⟩; refine ⟨_, rfl, ?_⟩; replace aC := zkb aC hb; replace HB := zbs hb; (try clear hb); refine hK.out _ _ ⟨zq aC 0, zq aC 1, zq aC 2, (zC HB hw205_0), (zC HB hw205_1)⟩ (fun hHeld => ?_); clear hK K; refine norm_ zV ?_; refine zp 7 19 HT_ ?_; refine zp 8 20 HT_ ?_; refine zu 9 21 HT_ ?_; refine zu 10 22 HT_ ?_; refine zu 11 23 HT_ ?_; refine zu 12 24 HT_ ?_; refine zu 13 25 HT_ ?_; refine zu 14 26 HT_ ?_; refine zu 15 27 HT_ ?_; refine zp 16 28 HT_ ?_; refine zp 17 29 HT_ ?_; refine zu 18 30 HT_ ?_; refine zu 19 31 HT_ ?_; refine zu 20 32 HT_ ?_; refine zu 21 33 HT_ ?_; refine zu 22 34 HT_ ?_; refine zu 23 35 HT_ ?_; refine zu 24 36 HT_ ?_; refine zu 25 37 HT_ ?_; refine zu 26 38 HT_ ?_; refine zu 27 39 HT_ ?_; refine zu 28 40 HT_ ?_; refine zu 29 41 HT_ ?_; refine zu 30 42 HT_ ?_; refine zu 31 43 HT_ ?_; refine zu 32 44 HT_ ?_; refine zu 33 45 HT_ ?_; refine zp 34 46 HT_ ?_; refine done_ (done_of HT_.out (by kernel_rfl)) ?_
     try go_wp2
     go_ret; exact ⟨zE, zb⟩
   ·rw [if_neg c4] at H; have bJ := decide_eq_false c4; clear c4; obtain ⟨bI, bF, H⟩ := zB H
    by_cases aW : bI = true
    ·subst aW; rw [if_pos rfl] at H; obtain rfl := zI H; obtain ⟨bW, bV, bU⟩ := zc3 aC; obtain ⟨bQ, bP, bO⟩ := zf3 aC
     go_wp2_with (first | ((with_reducible refine gate_callee (f := 81) rfl ?_); refine zgl 48 Try.func81 #[.agg #[.int .i64 aH, .int .i64 aG, .slice aM aE.length aK]] ?_; (with_reducible refine (spec_IsLand.calls k1 aH aG _ _ aE true _ ?side1 ?side2 bF.out).mono ?_); (case side1 => exact zCb aQ); (case side2 => exact aR.out); rintro e cD ⟨rfl, hb⟩; refine ⟨_, rfl, ?_⟩; replace aC := zkb aC hb; replace HB := zbs hb; (try clear hb)))
     go_ret; exact ⟨zE, zb⟩
    ·replace aW := Bool.eq_false_iff.mpr aW; subst aW; rw [if_neg zNo] at H; obtain rfl := zI H; obtain ⟨bT, bS, bR⟩ := zc3 aC; obtain ⟨bN, bM, bL⟩ := zf3 aC
     go_wp2_with (first | ((with_reducible refine gate_callee (f := 81) rfl ?_); refine zgl 48 Try.func81 #[.agg #[.int .i64 aH, .int .i64 aG, .slice aM aE.length aK]] ?_; (with_reducible refine (spec_IsLand.calls k1 aH aG _ _ aE false _ ?side1 ?side2 bF.out).mono ?_); (case side1 => exact zCb aQ); (case side2 => exact aR.out); rintro e cC ⟨rfl, hb⟩; refine ⟨_, rfl, ?_⟩; replace aC := zkb aC hb; replace HB := zbs hb; (try clear hb)))
     go_ret; exact ⟨zE, zb⟩
end Go.Proofs.Ytoppjiahnchjiaa.Q
