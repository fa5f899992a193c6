/- Walks of 2 functions of the program: each comes to what a plain function tells. -/
import Derived.Test.YtcokbhkjfdddkaaG0
import Derived.Test.YtcokbhkjfdddkaaG1
import Derived.Test.YtcokbhkjfdddkaaG21
namespace Go.Proofs.Ytcokbhkjfdddkaa.Q
open Go.RowKit Go.Proofs.YtcokbhkjfdddkaaW.PrintWords Go.Proofs.YtcokbhkjfdddkaaW.PrintLast Go.Proofs.YtcokbhkjfdddkaaW.PrintMore Go.Proofs.YtcokbhkjfdddkaaW.Zip
attribute [local go_sem] max2_int min2_int max_two min_two max_three min_three max_four min_four   -- for this text's walks alone
set_option linter.unusedVariables false
set_option linter.unusedSimpArgs false
attribute [local go_sem high] eqA81

/-! ### impl_EqualInts: function 127 -/
def impl_EqualInts.l0 : Nat → List Int → List Int → Int → Int → Option (Bool)
  | 0, _, _, _, _ => none
  | k + 1, x0, x1, x12, x13 => if x13 < x12 then (if 0 ≤ x13 then (if x13 < (x0.length : Int) then (if x13 < (x1.length : Int) then (if (rd x0 x13) = (rd x1 x13) then (impl_EqualInts.l0 k x0 x1 x12 (wrap64 (x13 + 1))) else (some false)) else (none)) else (none)) else (none)) else (some true)
def impl_EqualInts.f (k : Nat) (l0 : List Int) (l1 : List Int) : Option (Bool) := if (l0.length : Int) = (l1.length : Int) then (impl_EqualInts.l0 k l0 l1 (l0.length : Int) 0) else (some false)
set_option maxHeartbeats 8000000 in
set_option maxRecDepth 100000 in
theorem impl_EqualInts.calls (k : Nat) (A0 : Option Addr) (c0 : Nat) (l0 : List Int) (A1 : Option Addr) (c1 : Nat) (l1 : List Int) (r : Bool) (w : World) (hr0 : Kd.C (Kd.int .i64) w A0 l0.length l0) (hc0 : l0.length ≤ c0) (hr1 : Kd.C (Kd.int .i64) w A1 l1.length l1) (hc1 : l1.length ≤ c1) (h : impl_EqualInts.f k l0 l1 = some r) :
    Calls Try.prog 127 #[.slice A0 l0.length c0, .slice A1 l1.length c1] w fun e w' => e = .returned (.bool r) ∧ Drawn0 w w' := by
  have HR0 := Aside0.mk hr0; have HC0 := Aside0.mk hc0; clear hr0 hc0; have HR1 := Aside0.mk hr1; have HC1 := Aside0.mk hc1; clear hr1 hc1; have H := h; clear h; unfold impl_EqualInts.f at H
  by_cases c3 : (l0.length : Int) = (l1.length : Int)
  · rw [if_pos c3] at H; have c3b0 : ((l0.length : Int) == (l1.length : Int)) = true := beq_iff_eq.mpr c3; have c3b1 : ((l0.length : Int) != (l1.length : Int)) = false := bne_eq_false_iff_eq.mpr c3
    have c3b2 : (l0.length == l1.length) = true := by first | simpa using c3 | (simp at c3 ⊢; omega)
    clear c3; have H' := Aside0.mk H; clear H; go_enter Try.func127, Try.ntmps127; go_wp2
    repeat (go_quiet (fail); try go_wp2)
    go_loopg [13] k (fun kq v13 w' => ∃ (x13_1 : Int), v13 = .int .i64 x13_1 ∧ Aside0 (impl_EqualInts.l0 kq l0 l1 (l0.length : Int) x13_1 = some r) ∧ Aside0 (kq ≤ k) ∧ Drawn0 w w')
    case atStart => exact ⟨(0), zr, H', ⟨Nat.le_refl _⟩, by repeat (first | exact Drawn0.refl _ | apply Drawn0.step)⟩
    case round =>
      clear H'; (try clear c1); (try clear p2); (try clear c3); (try clear c3b0); (try clear c3b1); (try clear c3b2); obtain ⟨x13_1, rfl, HA, HK1, ⟨m1, rfl⟩⟩ := hrel
      cases gk with
      | zero => exact absurd HA.out (by simp [impl_EqualInts.l0])
      | succ k1 =>
        have H := HA.out; clear HA; simp only [impl_EqualInts.l0] at H
        by_cases c4 : x13_1 < (l0.length : Int)
        · rw [if_pos c4] at H; have c4b0 := decide_eq_true c4; clear c4; obtain ⟨c5, H⟩ := zif H; have c5b0 := decide_eq_true c5; clear c5; obtain ⟨c6, H⟩ := zif H; have c6b0 := decide_eq_true c6; clear c6; obtain ⟨c7, H⟩ := zif H; have c7b0 := decide_eq_true c7; clear c7
          by_cases c8 : (rd l0 x13_1) = (rd l1 x13_1)
          · rw [if_pos c8] at H; have c8b0 : ((rd l0 x13_1) == (rd l1 x13_1)) = true := beq_iff_eq.mpr c8; have c8b1 : ((rd l0 x13_1) != (rd l1 x13_1)) = false := bne_eq_false_iff_eq.mpr c8; clear c8; have H' := Aside0.mk H; clear H; have p400 : 0 ≤ (x13_1 : Int) := zd; have q400 : x13_1 < (l0.length : Int) := zd; obtain ⟨ad400, e400, hx400_0⟩ := Kd.at_int HR0.out x13_1 p400 q400; cases e400; replace p400 := eq_true p400; replace q400 := eq_true q400; have p401 : 0 ≤ (x13_1 : Int) := zd; have q401 : x13_1 < (l1.length : Int) := zd; obtain ⟨ad401, e401, hx401_0⟩ := Kd.at_int HR1.out x13_1 p401 q401; cases e401; replace p401 := eq_true p401; replace q401 := eq_true q401; go_wp2
            repeat (go_quiet (fail); try go_wp2)
            go_roundg k1
            case measure => have := HK1.out; omega
            case rel => exact ⟨(wrap64 (x13_1 + 1)), zr, H', ⟨by have := HK1.out; omega⟩, by repeat (first | exact Drawn0.refl _ | apply Drawn0.step)⟩
          · rw [if_neg c8] at H; have c8b0 : ((rd l0 x13_1) == (rd l1 x13_1)) = false := beq_eq_false_iff_ne.mpr c8; have c8b1 : ((rd l0 x13_1) != (rd l1 x13_1)) = true := bne_iff_ne.mpr c8; obtain rfl := Option.some.inj H; have p400 : 0 ≤ (x13_1 : Int) := zd; have q400 : x13_1 < (l0.length : Int) := zd; obtain ⟨ad400, e400, hx400_0⟩ := Kd.at_int HR0.out x13_1 p400 q400; cases e400; replace p400 := eq_true p400; replace q400 := eq_true q400; have p401 : 0 ≤ (x13_1 : Int) := zd; have q401 : x13_1 < (l1.length : Int) := zd; obtain ⟨ad401, e401, hx401_0⟩ := Kd.at_int HR1.out x13_1 p401 q401; cases e401; replace p401 := eq_true p401; replace q401 := eq_true q401; go_wp2
            repeat (go_quiet (fail); try go_wp2)
            go_ret; exact ⟨by first | rfl | (simp; done) | (simp [*]; done), by repeat (first | exact Drawn0.refl _ | apply Drawn0.step)⟩
        · rw [if_neg c4] at H; have c4b0 := decide_eq_false c4; clear c4; obtain rfl := Option.some.inj H; go_wp2
          repeat (go_quiet (fail); try go_wp2)
          go_ret; exact ⟨by first | rfl | (simp; done) | (simp [*]; done), by repeat (first | exact Drawn0.refl _ | apply Drawn0.step)⟩
  · rw [if_neg c3] at H; have c3b0 : ((l0.length : Int) == (l1.length : Int)) = false := beq_eq_false_iff_ne.mpr c3; have c3b1 : ((l0.length : Int) != (l1.length : Int)) = true := bne_iff_ne.mpr c3
    have c3b2 : (l0.length == l1.length) = false := by first | simpa using c3 | (simp at c3 ⊢; omega)
    obtain rfl := Option.some.inj H; go_enter Try.func127, Try.ntmps127; go_wp2
    repeat (go_quiet (fail); try go_wp2)
    go_ret; exact ⟨by first | rfl | (simp; done) | (simp [*]; done), by repeat (first | exact Drawn0.refl _ | apply Drawn0.step)⟩

/-! ### impl_ReadSign: function 53 -/
def impl_ReadSign.l0 : Nat → List Int → Int → List Int → Int → Int → Option (Int × Bool)
  | 0, _, _, _, _, _ => none
  | k + 1, x0, x4, x15, x16, x17 => if x17 < x16 then (if 0 ≤ x17 then (if x17 < (x15.length : Int) then ((impl_InRange.f (rd x15 x17) 1 2).bind fun t405 => (if t405 = true then (impl_ReadSign.l0 k x0 (wrap64 ((wrap64 ((wrap64 (2 * x4)) + (rd x15 x17))) - 1)) x15 x16 (wrap64 (x17 + 1))) else (some (0, false)))) else (none)) else (none)) else ((impl_SignOf.f k x4).bind fun t406 => ((impl_EqualInts.f k t406 x0).bind fun t409 => (if t409 = true then (some (x4, true)) else (some (0, false)))))
def impl_ReadSign.f (k : Nat) (l0 : List Int) : Option (Int × Bool) := (impl_InRange.f (l0.length : Int) 2 15).bind fun t402 => (if t402 = true then (if 0 ≤ (wrap64 ((l0.length : Int) - 1)) then (if (wrap64 ((l0.length : Int) - 1)) ≤ (l0.length : Int) then (impl_ReadSign.l0 k l0 0 (l0.take ((wrap64 ((l0.length : Int) - 1)) : Int).toNat) ((l0.take ((wrap64 ((l0.length : Int) - 1)) : Int).toNat).length : Int) 0) else (none)) else (none)) else (some (0, false)))
set_option maxHeartbeats 8000000 in
set_option maxRecDepth 100000 in
theorem impl_ReadSign.calls (k : Nat) (A0 : Option Addr) (c0 : Nat) (l0 : List Int) (r1 : Int) (r2 : Bool) (w : World) (hr0 : Kd.C (Kd.int .i64) w A0 l0.length l0) (hc0 : l0.length ≤ c0) (h : impl_ReadSign.f k l0 = some (r1, r2)) :
    Calls Try.prog 53 #[.slice A0 l0.length c0] w fun e w' => e = .returned (.tuple #[.int .i64 r1, .bool r2]) ∧ Below w.heap.size w w' := by
  have HR0 := Aside0.mk hr0; have HC0 := Aside0.mk hc0; clear hr0 hc0; have HB := Aside0.mk (Below.refl w.heap.size w); have H := h; clear h; unfold impl_ReadSign.f at H; replace H := Option.bind_eq_some_iff.mp H; obtain ⟨t402, A20, H⟩ := H; have A2 := Aside0.mk A20; clear A20
  by_cases c3 : t402 = true
  · subst c3; rw [if_pos rfl] at H; obtain ⟨ji4, hji4⟩ : ∃ j_ : Int, (wrap64 ((l0.length : Int) - 1)) = j_ := ⟨_, rfl⟩
    replace H : (if 0 ≤ (ji4) then (if (ji4) ≤ (l0.length : Int) then (impl_ReadSign.l0 k l0 0 (l0.take ((ji4) : Int).toNat) ((l0.take ((ji4) : Int).toNat).length : Int) 0) else (none)) else (none)) = some (r1, r2) := by first | (rw [hji4] at H; exact H) | (simp only [hji4] at H ⊢; exact H)
    (try rw [hji4] at A2); have hji4w : (IntKind.i64.wrap ((l0.length : Int) - 1)) = ji4 := (i64_w _).trans hji4; obtain ⟨c5, H⟩ := zif H; have c5b0 := eq_true c5; have c5b1 := decide_eq_true c5; clear c5; obtain ⟨c6, H⟩ := zif H; have AJ6 := Aside0.mk c6; have c6b0 := eq_true c6; have c6b1 := decide_eq_true c6; clear c6; have H' := Aside0.mk H; clear H; go_enter Try.func53, Try.ntmps53
    go_wp2_with (first | ((with_reducible refine gate_callee (f := 115) rfl ?_); refine zgl 9 Try.func115 #[.int .i64 (l0.length : Int), .int .i64 2, .int .i64 15] ?_; (with_reducible refine (impl_InRange.calls (l0.length : Int) 2 15 true _ A2.out).mono ?_); rintro e w' ⟨rfl, ⟨nd, rfl⟩⟩; refine ⟨_, rfl, ?_⟩; obtain ⟨i07, hi07, _, hsz7, _⟩ := info_parts info3; obtain ⟨hcut7, hA7, hC7⟩ := print_take_of (P := Try.prog) (Value.int .i64) 0 22 3 .i64 Try.underlying22 hi07 hsz7 A0 c0 l0 (ji4) zd zd HC0.out; have HR403 := Aside0.mk (Kd.C_of_reads (h1 := fun _ => rfl) (hA7 _ (Kd.reads_of_C HR0.out))); have HC403 := Aside0.mk hC7; clear hA7 hC7 hi07 hsz7))
    go_loopg [4, 17] k (fun kq v4 v17 w' => ∃ (x4_1 : Int) (x17_1 : Int), v4 = .int .i64 x4_1 ∧ v17 = .int .i64 x17_1 ∧ Aside0 (impl_ReadSign.l0 kq l0 x4_1 (l0.take ((ji4) : Int).toNat) ((l0.take ((ji4) : Int).toNat).length : Int) x17_1 = some (r1, r2)) ∧ Aside0 (kq ≤ k) ∧ Aside0 (Below w.heap.size w w'))
    case atStart => exact ⟨(0), (0), zr, zr, H', ⟨Nat.le_refl _⟩, ⟨zb⟩⟩
    case round =>
      clear H'; (try clear c1); (try clear p2); (try clear c3); (try clear c5); (try clear c5b0); (try clear c5b1); (try clear c6); (try clear c6b0); (try clear c6b1); (try clear p6); obtain ⟨x4_1, x17_1, rfl, rfl, HA, HK1, HB⟩ := hrel
      cases gk with
      | zero => exact absurd HA.out (by simp [impl_ReadSign.l0])
      | succ k1 =>
        have H := HA.out; clear HA; simp only [impl_ReadSign.l0] at H
        by_cases c8 : x17_1 < ((l0.take ((ji4) : Int).toNat).length : Int)
        · rw [if_pos c8] at H; have c8b0 := decide_eq_true c8; have c8c : x17_1 < max ji4 0 := (by have h1 := AJ6.out; rw [List.length_take] at c8; omega); have c8b1 := decide_eq_true c8c; replace c8c := eq_true c8c; clear c8; obtain ⟨c9, H⟩ := zif H; have c9b0 := decide_eq_true c9; clear c9; obtain ⟨c10, H⟩ := zif H; have c10b0 := decide_eq_true c10; clear c10; replace H := Option.bind_eq_some_iff.mp H; obtain ⟨t405, A110, H⟩ := H; have A11 := Aside0.mk A110; clear A110
          by_cases c12 : t405 = true
          · subst c12; rw [if_pos rfl] at H; have H' := Aside0.mk H; clear H; have p404 : 0 ≤ (x17_1 : Int) := zd; have q404 : x17_1 < ((l0.take ((ji4) : Int).toNat).length : Int) := zd; obtain ⟨ad404, e404, hx404_0⟩ := Kd.at_int HR403.out x17_1 p404 q404; cases e404; replace hx404_0 := (HB.out.cell (World.block_lt_of_cell? w _ hx404_0)).trans hx404_0; replace p404 := eq_true p404; replace q404 := eq_true q404
            go_wp2_with (first | ((with_reducible refine gate_callee (f := 115) rfl ?_); refine goesL_ (some 22) rfl rfl Try.func115 (by kernel_rfl) rfl #[.int .i64 (rd (l0.take ((ji4) : Int).toNat) x17_1), .int .i64 1, .int .i64 2] rfl (by (try simp only [List.map_toArray, List.map_cons, List.map_nil]); first | done | (simp only [hji4]; rfl) | rfl | (simp only [List.length_drop, List.length_take]; rfl)) ?_; (with_reducible refine (impl_InRange.calls (rd (l0.take ((ji4) : Int).toNat) x17_1) 1 2 true _ A11.out).mono ?_); rintro e w' ⟨rfl, ⟨nd, rfl⟩⟩; refine ⟨_, rfl, ?_⟩))
            go_roundg k1
            case measure => have := HK1.out; omega
            case rel => exact ⟨(wrap64 ((wrap64 ((wrap64 (2 * x4_1)) + (rd (l0.take ((ji4) : Int).toNat) x17_1))) - 1)), (wrap64 (x17_1 + 1)), (by first | rfl | (simp; done) | (simp only [← hji4] <;> (first | rfl | simp)) | (simp [*]; done)), zr, H', ⟨by have := HK1.out; omega⟩, ⟨zb⟩⟩
          · replace c12 := Bool.eq_false_iff.mpr c12; subst c12; rw [if_neg (show ¬ (false = true) by decide)] at H; simp only [Option.some.injEq, Prod.mk.injEq] at H; obtain ⟨rfl, rfl⟩ := H; have p404 : 0 ≤ (x17_1 : Int) := zd; have q404 : x17_1 < ((l0.take ((ji4) : Int).toNat).length : Int) := zd; obtain ⟨ad404, e404, hx404_0⟩ := Kd.at_int HR403.out x17_1 p404 q404; cases e404; replace hx404_0 := (HB.out.cell (World.block_lt_of_cell? w _ hx404_0)).trans hx404_0; replace p404 := eq_true p404; replace q404 := eq_true q404
            go_wp2_with (first | ((with_reducible refine gate_callee (f := 115) rfl ?_); refine goesL_ (some 22) rfl rfl Try.func115 (by kernel_rfl) rfl #[.int .i64 (rd (l0.take ((ji4) : Int).toNat) x17_1), .int .i64 1, .int .i64 2] rfl (by (try simp only [List.map_toArray, List.map_cons, List.map_nil]); first | done | (simp only [hji4]; rfl) | rfl | (simp only [List.length_drop, List.length_take]; rfl)) ?_; (with_reducible refine (impl_InRange.calls (rd (l0.take ((ji4) : Int).toNat) x17_1) 1 2 false _ A11.out).mono ?_); rintro e w' ⟨rfl, ⟨nd, rfl⟩⟩; refine ⟨_, rfl, ?_⟩))
            go_ret2; exact ⟨by first | rfl | (simp [errW_none, errW_some] <;> rfl) | (simp only [← hji4]; first | rfl | (simp [errW_none, errW_some] <;> rfl)) | (simp [*, errW_none, errW_some] <;> rfl), zb⟩
        · rw [if_neg c8] at H; have c8b0 := decide_eq_false c8; have c8b1 : decide (x17_1 < max ji4 0) = false := decide_eq_false (by have h1 := AJ6.out; rw [List.length_take] at c8; omega); clear c8; replace H := Option.bind_eq_some_iff.mp H; obtain ⟨t406, A130, H⟩ := H; have A13 := Aside0.mk A130; clear A130; replace H := Option.bind_eq_some_iff.mp H; obtain ⟨t409, A140, H⟩ := H; have A14 := Aside0.mk A140; clear A140
          by_cases c15 : t409 = true
          · subst c15; rw [if_pos rfl] at H; simp only [Option.some.injEq, Prod.mk.injEq] at H; obtain ⟨rfl, rfl⟩ := H
            go_wp2_with (first | ((with_reducible refine gate_callee (f := 32) rfl ?_); refine zgl 31 Try.func32 #[.int .i64 x4_1] ?_; (with_reducible refine (impl_SignOf.calls k1 x4_1 t406 _ A13.out).mono ?_); rintro e w16 ⟨v407, rfl, ho0, hb⟩; refine ⟨_, rfl, ?_⟩; have HO408 := Aside0.mk (Kd.R_lower ho0 (below_size zb)); replace HB := zbs hb; (try clear hb); (try clear hb2); (try clear hk); (try clear hi); (try clear ho0); obtain ⟨Ao17, co17, eo17⟩ := Kd.R_slice HO408.out; subst eo17) | ((with_reducible refine gate_callee (f := 127) rfl ?_); refine zgl 33 Try.func127 #[.slice Ao17 t406.length co17, .slice A0 l0.length c0] ?_; (with_reducible refine (impl_EqualInts.calls k1 _ _ t406 _ _ l0 true _ ?side1 ?side2 ?side3 ?side4 A14.out).mono ?_); (case side1 => exact zCx (Kd.R_reads' HO408.out).2.2); (case side2 => exact (Kd.R_reads' HO408.out).2.1); (case side3 => exact zCb HR0); (case side4 => exact HC0.out); rintro e w' ⟨rfl, ⟨nd, rfl⟩⟩; refine ⟨_, rfl, ?_⟩))
            go_ret2; exact ⟨by first | rfl | (simp [errW_none, errW_some] <;> rfl) | (simp only [← hji4]; first | rfl | (simp [errW_none, errW_some] <;> rfl)) | (simp [*, errW_none, errW_some] <;> rfl), zb⟩
          · replace c15 := Bool.eq_false_iff.mpr c15; subst c15; rw [if_neg (show ¬ (false = true) by decide)] at H; simp only [Option.some.injEq, Prod.mk.injEq] at H; obtain ⟨rfl, rfl⟩ := H
            go_wp2_with (first | ((with_reducible refine gate_callee (f := 32) rfl ?_); refine zgl 31 Try.func32 #[.int .i64 x4_1] ?_; (with_reducible refine (impl_SignOf.calls k1 x4_1 t406 _ A13.out).mono ?_); rintro e w18 ⟨v407, rfl, ho0, hb⟩; refine ⟨_, rfl, ?_⟩; have HO408 := Aside0.mk (Kd.R_lower ho0 (below_size zb)); replace HB := zbs hb; (try clear hb); (try clear hb2); (try clear hk); (try clear hi); (try clear ho0); obtain ⟨Ao19, co19, eo19⟩ := Kd.R_slice HO408.out; subst eo19) | ((with_reducible refine gate_callee (f := 127) rfl ?_); refine zgl 33 Try.func127 #[.slice Ao19 t406.length co19, .slice A0 l0.length c0] ?_; (with_reducible refine (impl_EqualInts.calls k1 _ _ t406 _ _ l0 false _ ?side1 ?side2 ?side3 ?side4 A14.out).mono ?_); (case side1 => exact zCx (Kd.R_reads' HO408.out).2.2); (case side2 => exact (Kd.R_reads' HO408.out).2.1); (case side3 => exact zCb HR0); (case side4 => exact HC0.out); rintro e w' ⟨rfl, ⟨nd, rfl⟩⟩; refine ⟨_, rfl, ?_⟩))
            go_ret2; exact ⟨by first | rfl | (simp [errW_none, errW_some] <;> rfl) | (simp only [← hji4]; first | rfl | (simp [errW_none, errW_some] <;> rfl)) | (simp [*, errW_none, errW_some] <;> rfl), zb⟩
  · replace c3 := Bool.eq_false_iff.mpr c3; subst c3; rw [if_neg (show ¬ (false = true) by decide)] at H; simp only [Option.some.injEq, Prod.mk.injEq] at H; obtain ⟨rfl, rfl⟩ := H; go_enter Try.func53, Try.ntmps53
    go_wp2_with (first | ((with_reducible refine gate_callee (f := 115) rfl ?_); refine zgl 9 Try.func115 #[.int .i64 (l0.length : Int), .int .i64 2, .int .i64 15] ?_; (with_reducible refine (impl_InRange.calls (l0.length : Int) 2 15 false _ A2.out).mono ?_); rintro e w' ⟨rfl, ⟨nd, rfl⟩⟩; refine ⟨_, rfl, ?_⟩))
    go_ret2; exact ⟨by first | rfl | (simp [errW_none, errW_some] <;> rfl) | (simp [*, errW_none, errW_some] <;> rfl), zb⟩
end Go.Proofs.Ytcokbhkjfdddkaa.Q
