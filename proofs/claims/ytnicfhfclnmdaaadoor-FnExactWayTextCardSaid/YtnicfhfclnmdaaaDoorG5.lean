/- Walks of 3 functions of the program: each comes to what a plain function tells. -/
import Derived.Test.YtnicfhfclnmdaaaDoorG0
import Derived.Test.YtnicfhfclnmdaaaDoorG1
import Derived.Test.YtnicfhfclnmdaaaDoorG2
namespace Go.Proofs.YtnicfhfclnmdaaaDoor.Q
open Go.RowKit Go.Proofs.YtnicfhfclnmdaaaDoorW.PrintWords Go.Proofs.YtnicfhfclnmdaaaDoorW.PrintLast Go.Proofs.YtnicfhfclnmdaaaDoorW.PrintMore Go.Proofs.YtnicfhfclnmdaaaDoorW.Zip
attribute [local go_sem] max2_int min2_int max_two min_two max_three min_three max_four min_four   -- for this text's walks alone
set_option linter.unusedVariables false
set_option linter.unusedSimpArgs false

/-! ### spec_WayText: function 14 -/
def spec_WayText.l0 : Nat → List Int → ByteArray → Int → Int → Int → List Int → Option (ByteArray)
  | 0, _, _, _, _, _, _ => none
  | k + 1, x1, x5, x6, x223000, x223001, x223002 => if x6 < (x1.length : Int) then (if 0 ≤ x6 then ((spec_IsCell.f k x223000 x223001 x223002 (rd x1 x6)).bind fun t224 => (if t224 = true then (if x6 > 0 then (if x5.size + 1 ≤ 9223372036854775807 then ((spec_CellText.f k x223000 x223001 x223002 (rd x1 x6)).bind fun t226 => (if (x5 ++ (⟨#[45]⟩ : ByteArray)).size + t226.size ≤ 9223372036854775807 then (spec_WayText.l0 k x1 ((x5 ++ (⟨#[45]⟩ : ByteArray)) ++ t226) (wrap64 (x6 + 1)) x223000 x223001 x223002) else (none))) else (none)) else ((spec_CellText.f k x223000 x223001 x223002 (rd x1 x6)).bind fun t228 => (if x5.size + t228.size ≤ 9223372036854775807 then (spec_WayText.l0 k x1 (x5 ++ t228) (wrap64 (x6 + 1)) x223000 x223001 x223002) else (none)))) else (some (⟨#[]⟩ : ByteArray)))) else (none)) else (if (x1.length : Int) = 0 then (some (⟨#[45]⟩ : ByteArray)) else (some x5))
def spec_WayText.f (k : Nat) (a0_0 : Int) (a0_1 : Int) (l0_2 : List Int) (l1 : List Int) : Option (ByteArray) := spec_WayText.l0 k l1 (⟨#[]⟩ : ByteArray) 0 a0_0 a0_1 l0_2
def spec_WayText.T9 : Bool × List (List Nat × List Nat) := (true, [([], []), ([], []), ([], []), ([], []), ([2, 3], [2, 3]), ([4], [4]), ([1, 5], [1, 5]), ([0, 6], [0, 6]), ([7, 6, 0, 1, 2, 3, 4, 5, 6, 7], [0, 7])])
def spec_WayText.B9 : List Nat := [0, 0, 0, 0, 12, 28, 62, 127, 255]
theorem spec_WayText.tab9 : rtab .any (opsOf Tryd.f14 9) = spec_WayText.T9 := by kernel_rfl
theorem spec_WayText.bits9 : waitsOk spec_WayText.T9.2 spec_WayText.B9 = true := by kernel_rfl
set_option maxHeartbeats 8000000 in
set_option maxRecDepth 100000 in
theorem spec_WayText.calls (k : Nat) (a0_0 : Int) (a0_1 : Int) (A0_2 : Option Addr) (c0_2 : Nat) (l0_2 : List Int) (A1 : Option Addr) (c1 : Nat) (l1 : List Int) (r : ByteArray) (w : World) (hr0_2 : Kd.C (Kd.int .i64) w A0_2 l0_2.length l0_2) (hc0_2 : l0_2.length ≤ c0_2) (hr1 : Kd.C (Kd.int .i64) w A1 l1.length l1) (hc1 : l1.length ≤ c1) (h : spec_WayText.f k a0_0 a0_1 l0_2 l1 = some r) :
    Calls Tryd.prog 14 #[.agg #[.int .i64 a0_0, .int .i64 a0_1, .slice A0_2 l0_2.length c0_2], .slice A1 l1.length c1] w fun e w' => e = .returned (.string r) ∧ Below w.heap.size w w' := by
  have hu27 := Tryd.underlying27; have HR0_2 := Aside0.mk hr0_2; have HC0_2 := Aside0.mk hc0_2; clear hr0_2 hc0_2; have HR1 := Aside0.mk hr1; have HC1 := Aside0.mk hc1; clear hr1 hc1; have HB := Aside0.mk (Below.refl w.heap.size w); have H := h; clear h; unfold spec_WayText.f at H; have H' := Aside0.mk H; clear H; go_enter Tryd.func14, Tryd.ntmps14
  go_wp2_with (first | ((with_reducible refine gate_dst (N := 2) rfl ?_); refine zbx 2 #[.int .i64 a0_0, .int .i64 a0_1, .slice A0_2 l0_2.length c0_2] 27 ?_; intro gb222 hg w3 hbox hb; have BK222 := Aside0.mk (hbox); have GW222 := zga (w := w) hg; have GE222 := zga (w := w) hg; replace HB := zbs hb; clear hb hbox hg))
  go_loopg [5, 6] k (fun kq v5 v6 w' => ∃ (x5_1 : ByteArray) (x6_1 : Int), v5 = .string x5_1 ∧ v6 = .int .i64 x6_1 ∧ Aside0 (spec_WayText.l0 kq l1 x5_1 x6_1 a0_0 a0_1 l0_2 = some r) ∧ Aside0 (kq ≤ k) ∧ Aside0 (w'.heap[gb222]? = some (.cells #[.int .i64 a0_0, .int .i64 a0_1, (.slice A0_2 l0_2.length c0_2)] 27 (0, 0))) ∧ Aside0 (Below w.heap.size w w'))
  case atStart => exact ⟨((⟨#[]⟩ : ByteArray)), (0), zr, zr, H', ⟨Nat.le_refl _⟩, ⟨zk BK222⟩, ⟨zb⟩⟩
  case round =>
    clear H'; (try clear c1); (try clear p2); obtain ⟨x5_1, x6_1, rfl, rfl, HA, HK1, BK222, HB⟩ := hrel
    cases gk with
    | zero => exact absurd HA.out (by simp [spec_WayText.l0])
    | succ k1 =>
      have H := HA.out; clear HA; simp only [spec_WayText.l0] at H
      by_cases c4 : x6_1 < (l1.length : Int)
      · rw [if_pos c4] at H; have c4b0 := decide_eq_true c4; clear c4; obtain ⟨c5, H⟩ := zif H; have c5b0 := decide_eq_true c5; clear c5; replace H := Option.bind_eq_some_iff.mp H; obtain ⟨t224, A60, H⟩ := H; have A6 := Aside0.mk A60; clear A60
        by_cases c7 : t224 = true
        · subst c7; rw [if_pos rfl] at H
          by_cases c8 : x6_1 > 0
          · rw [if_pos c8] at H; have c8b0 : decide (0 < x6_1) = true := decide_eq_true c8; clear c8; obtain ⟨c9, H⟩ := zif H; have c9b0 := eq_true c9; have c9b1 := decide_eq_true c9
            try have c9b2 : (9223372036854775807 < x5_1.size + 1) = False := eq_false (Nat.not_lt.2 c9)
            replace H := Option.bind_eq_some_iff.mp H; obtain ⟨t226, A100, H⟩ := H; have A10 := Aside0.mk A100; clear A100; obtain ⟨c11, H⟩ := zif H; have c11b0 := eq_true c11; have c11b1 := decide_eq_true c11
            have c11b3 : (9223372036854775807 < x5_1.size + 1 + t226.size) = False := eq_false (by have h_ := c11; rw [ByteArray.size_append, show (⟨#[45]⟩ : ByteArray).size = 1 from rfl] at h_; omega)
            try have c11b2 : (9223372036854775807 < (x5_1 ++ (⟨#[45]⟩ : ByteArray)).size + t226.size) = False := eq_false (Nat.not_lt.2 c11)
            have H' := Aside0.mk H; clear H
            try go_wp2
            replace BK222 := Aside0.mk (blk_drew BK222.out); replace HB := Aside0.mk (below_drew1 HB.out); have p223 : 0 ≤ (x6_1 : Int) := zd; have q223 : x6_1 < (l1.length : Int) := zd; obtain ⟨ad223, e223, hx223_0⟩ := Kd.at_int HR1.out x6_1 p223 q223; have hw223_0 := hx223_0; cases e223; replace hx223_0 := (HB.out.cell (World.block_lt_of_cell? w _ hx223_0)).trans hx223_0; replace p223 := eq_true p223; replace q223 := eq_true q223; refine start_ (n := 7) (S := fun w' => w'.cell? ⟨gb222, 0, none⟩ = some (.int .i64 a0_0) ∧ w'.cell? ⟨gb222, 1, none⟩ = some (.int .i64 a0_1) ∧ w'.cell? ⟨gb222, 2, none⟩ = some (.slice A0_2 l0_2.length c0_2) ∧ w'.cell? (ad223.add (x6_1).toNat) = some (.int .i64 (rd l1 x6_1))) (ds := []) _ (by kernel_rfl) rfl rfl ⟨zq BK222 0, zq BK222 1, zq BK222 2, ((HB.out.cell (World.block_lt_of_cell? w _ hw223_0)).trans hw223_0)⟩ (fun hHeld => ?_); generalize wr.drew = w12 at BK222 HB hx223_0 hHeld ⊢; refine pure_ (i := 1) (N := some 14) (v := ?_) (a' := ?_) #[false, true, false, false, false, false, false] rfl rfl (by kernel_rfl) (fun _ _ _ h => h) (Or.inl ⟨by rfl, ?_⟩) ?_ ?_; rotate_left
            · intro w'
              go_simp
              with_reducible rfl
            rotate_left
            · simp only [Act.put, List.setIfInBounds_toArray, List.set_cons_zero, List.set_cons_succ, i64_w, i32_w]; rfl
            refine pure_ (i := 2) (N := some 15) (v := ?_) (a' := ?_) #[false, true, true, false, false, false, false] rfl rfl (by kernel_rfl) (fun _ _ _ h => h) (Or.inl ⟨by rfl, ?_⟩) ?_ ?_; rotate_left
            · intro w'
              go_simp
              with_reducible rfl
            rotate_left
            · simp only [Act.put, List.setIfInBounds_toArray, List.set_cons_zero, List.set_cons_succ, i64_w, i32_w]; rfl
            refine pure_ (i := 3) (N := some 16) (v := ?_) (a' := ?_) #[false, true, true, true, false, false, false] rfl rfl (by kernel_rfl) (fun _ _ _ h => h) (Or.inl ⟨by rfl, ?_⟩) ?_ ?_; rotate_left
            · intro w'
              go_simp
              with_reducible rfl
            rotate_left
            · simp only [Act.put, List.setIfInBounds_toArray, List.set_cons_zero, List.set_cons_succ, i64_w, i32_w]; rfl
            refine take_ (i := 0) (N := some 13) (v := ?_) (a' := ?_) #[true, true, true, true, false, false, false] rfl rfl (by kernel_rfl) (fun _ _ _ h => h) (Or.inl ⟨by rfl, ?_⟩) hHeld ?_ ?_; rotate_left
            · rintro w' ⟨s0, s1, s2, s3⟩
              go_simp
              with_reducible rfl
            rotate_left
            · simp only [Act.put, List.setIfInBounds_toArray, List.set_cons_zero, List.set_cons_succ, i64_w, i32_w]; rfl
            refine take_ (i := 4) (N := some 17) (v := ?_) (a' := ?_) #[true, true, true, true, true, false, false] rfl rfl (by kernel_rfl) (fun _ _ _ h => h) (Or.inl ⟨by rfl, ?_⟩) hHeld ?_ ?_; rotate_left
            · rintro w' ⟨s0, s1, s2, s3⟩
              go_simp
              with_reducible rfl
            rotate_left
            · simp only [Act.put, List.setIfInBounds_toArray, List.set_cons_zero, List.set_cons_succ, i64_w, i32_w]; rfl
            refine one_ (i := 5) (N := some 18) #[true, true, true, true, true, true, false] rfl rfl (by kernel_rfl) (by decide) (fun K hK => ?_); refine goes_ Tryd.func24 (by kernel_rfl) rfl #[.agg #[.int .i64 a0_0, .int .i64 a0_1, .slice A0_2 l0_2.length c0_2], .int .i64 (rd l1 x6_1)] (by rfl) rfl rfl zm ?_
            with_reducible refine (spec_IsCell.calls k1 a0_0 a0_1 _ _ l0_2 (rd l1 x6_1) true _ ?side1 ?side2 A6.out).mono ?_
            (case side1 => exact zCb HR0_2); (case side2 => exact HC0_2.out); rintro e w13 ⟨rfl, hb⟩; refine ⟨_, rfl, ?_⟩; replace BK222 := zkb BK222 hb; replace HB := zbs hb; (try clear hb); (try clear hb2); (try clear hk); (try clear hi); refine hK.out _ _ ⟨zq BK222 0, zq BK222 1, zq BK222 2, ((HB.out.cell (World.block_lt_of_cell? w _ hw223_0)).trans hw223_0)⟩ (fun hHeld => ?_); clear hK K; refine norm_ (a' := ?_) ?_ ?_; rotate_left
            · show Act.put _ (some 18) _ = _
              simp only [Act.put, List.setIfInBounds_toArray, List.set_cons_zero, List.set_cons_succ, i64_w, i32_w]; rfl
            refine pure_ (i := 6) (N := some 19) (v := ?_) (a' := ?_) #[true, true, true, true, true, true, true] rfl rfl (by kernel_rfl) (fun _ _ _ h => h) (Or.inl ⟨by rfl, ?_⟩) ?_ ?_; rotate_left
            · intro w'
              go_simp
              with_reducible rfl
            rotate_left
            · simp only [Act.put, List.setIfInBounds_toArray, List.set_cons_zero, List.set_cons_succ, i64_w, i32_w]; rfl
            refine done_ (by kernel_rfl) ?_
            try go_wp2
            replace BK222 := Aside0.mk (blk_drew BK222.out); replace HB := Aside0.mk (below_drew1 HB.out); have p225 : 0 ≤ (x6_1 : Int) := zd; have q225 : x6_1 < (l1.length : Int) := zd; obtain ⟨ad225, e225, hx225_0⟩ := Kd.at_int HR1.out x6_1 p225 q225; have hw225_0 := hx225_0; obtain rfl : ad223 = ad225 := (by injection e225); replace hx225_0 := (HB.out.cell (World.block_lt_of_cell? w _ hx225_0)).trans hx225_0; replace p225 := eq_true p225; replace q225 := eq_true q225; refine start_ (n := 9) (S := fun w' => w'.cell? ⟨gb222, 0, none⟩ = some (.int .i64 a0_0) ∧ w'.cell? ⟨gb222, 1, none⟩ = some (.int .i64 a0_1) ∧ w'.cell? ⟨gb222, 2, none⟩ = some (.slice A0_2 l0_2.length c0_2) ∧ w'.cell? (ad223.add (x6_1).toNat) = some (.int .i64 (rd l1 x6_1))) (ds := []) _ (by kernel_rfl) rfl rfl ⟨zq BK222 0, zq BK222 1, zq BK222 2, ((HB.out.cell (World.block_lt_of_cell? w _ hw225_0)).trans hw225_0)⟩ (fun hHeld => ?_); refine with_tabW spec_WayText.tab9 spec_WayText.bits9 (fun HT_ HW_ => ?_); generalize w13.drew = w14 at BK222 HB hx225_0 hHeld ⊢; refine zp 0 24 HT_ ?_; refine zp 2 26 HT_ ?_; refine zp 3 27 HT_ ?_; refine zp 4 28 HT_ ?_; refine zt 1 25 HT_ HW_ hHeld ?_; refine zt 5 29 HT_ HW_ hHeld ?_; refine zo 6 30 HT_ (fun K hK => ?_); refine goes_ Tryd.func8 (by kernel_rfl) rfl #[.agg #[.int .i64 a0_0, .int .i64 a0_1, .slice A0_2 l0_2.length c0_2], .int .i64 (rd l1 x6_1)] (by rfl) rfl rfl zm ?_
            with_reducible refine (spec_CellText.calls k1 a0_0 a0_1 _ _ l0_2 (rd l1 x6_1) t226 _ ?side1 ?side2 A10.out).mono ?_
            (case side1 => exact zCb HR0_2); (case side2 => exact HC0_2.out); rintro e w15 ⟨rfl, hb⟩; refine ⟨_, rfl, ?_⟩; replace BK222 := zkb BK222 hb; replace HB := zbs hb; (try clear hb); (try clear hb2); (try clear hk); (try clear hi); refine hK.out _ _ ⟨zq BK222 0, zq BK222 1, zq BK222 2, ((HB.out.cell (World.block_lt_of_cell? w _ hw225_0)).trans hw225_0)⟩ (fun hHeld => ?_); clear hK K; refine norm_ (a' := ?_) ?_ ?_; rotate_left
            · show Act.put _ (some 30) _ = _
              simp only [Act.put, List.setIfInBounds_toArray, List.set_cons_zero, List.set_cons_succ, i64_w, i32_w]; rfl
            refine zp 7 31 HT_ ?_; refine zp 8 5 HT_ ?_; refine done_ (done_of HT_.out (by kernel_rfl)) ?_
            try go_wp2
            go_roundg k1
            case measure => have := HK1.out; omega
            case rel => exact ⟨((x5_1 ++ (⟨#[45]⟩ : ByteArray)) ++ t226), (wrap64 (x6_1 + 1)), zr, zr, H', ⟨by have := HK1.out; omega⟩, ⟨zk BK222⟩, ⟨zb⟩⟩
          · rw [if_neg c8] at H; have c8b0 : decide (0 < x6_1) = false := decide_eq_false c8; clear c8; replace H := Option.bind_eq_some_iff.mp H; obtain ⟨t228, A160, H⟩ := H; have A16 := Aside0.mk A160; clear A160; obtain ⟨c17, H⟩ := zif H; have c17b0 := eq_true c17; have c17b1 := decide_eq_true c17
            try have c17b2 : (9223372036854775807 < x5_1.size + t228.size) = False := eq_false (Nat.not_lt.2 c17)
            have H' := Aside0.mk H; clear H
            try go_wp2
            replace BK222 := Aside0.mk (blk_drew BK222.out); replace HB := Aside0.mk (below_drew1 HB.out); have p223 : 0 ≤ (x6_1 : Int) := zd; have q223 : x6_1 < (l1.length : Int) := zd; obtain ⟨ad223, e223, hx223_0⟩ := Kd.at_int HR1.out x6_1 p223 q223; have hw223_0 := hx223_0; cases e223; replace hx223_0 := (HB.out.cell (World.block_lt_of_cell? w _ hx223_0)).trans hx223_0; replace p223 := eq_true p223; replace q223 := eq_true q223; refine start_ (n := 7) (S := fun w' => w'.cell? ⟨gb222, 0, none⟩ = some (.int .i64 a0_0) ∧ w'.cell? ⟨gb222, 1, none⟩ = some (.int .i64 a0_1) ∧ w'.cell? ⟨gb222, 2, none⟩ = some (.slice A0_2 l0_2.length c0_2) ∧ w'.cell? (ad223.add (x6_1).toNat) = some (.int .i64 (rd l1 x6_1))) (ds := []) _ (by kernel_rfl) rfl rfl ⟨zq BK222 0, zq BK222 1, zq BK222 2, ((HB.out.cell (World.block_lt_of_cell? w _ hw223_0)).trans hw223_0)⟩ (fun hHeld => ?_); generalize wr.drew = w18 at BK222 HB hx223_0 hHeld ⊢; refine pure_ (i := 1) (N := some 14) (v := ?_) (a' := ?_) #[false, true, false, false, false, false, false] rfl rfl (by kernel_rfl) (fun _ _ _ h => h) (Or.inl ⟨by rfl, ?_⟩) ?_ ?_; rotate_left
            · intro w'
              go_simp
              with_reducible rfl
            rotate_left
            · simp only [Act.put, List.setIfInBounds_toArray, List.set_cons_zero, List.set_cons_succ, i64_w, i32_w]; rfl
            refine pure_ (i := 2) (N := some 15) (v := ?_) (a' := ?_) #[false, true, true, false, false, false, false] rfl rfl (by kernel_rfl) (fun _ _ _ h => h) (Or.inl ⟨by rfl, ?_⟩) ?_ ?_; rotate_left
            · intro w'
              go_simp
              with_reducible rfl
            rotate_left
            · simp only [Act.put, List.setIfInBounds_toArray, List.set_cons_zero, List.set_cons_succ, i64_w, i32_w]; rfl
            refine pure_ (i := 3) (N := some 16) (v := ?_) (a' := ?_) #[false, true, true, true, false, false, false] rfl rfl (by kernel_rfl) (fun _ _ _ h => h) (Or.inl ⟨by rfl, ?_⟩) ?_ ?_; rotate_left
            · intro w'
              go_simp
              with_reducible rfl
            rotate_left
            · simp only [Act.put, List.setIfInBounds_toArray, List.set_cons_zero, List.set_cons_succ, i64_w, i32_w]; rfl
            refine take_ (i := 0) (N := some 13) (v := ?_) (a' := ?_) #[true, true, true, true, false, false, false] rfl rfl (by kernel_rfl) (fun _ _ _ h => h) (Or.inl ⟨by rfl, ?_⟩) hHeld ?_ ?_; rotate_left
            · rintro w' ⟨s0, s1, s2, s3⟩
              go_simp
              with_reducible rfl
            rotate_left
            · simp only [Act.put, List.setIfInBounds_toArray, List.set_cons_zero, List.set_cons_succ, i64_w, i32_w]; rfl
            refine take_ (i := 4) (N := some 17) (v := ?_) (a' := ?_) #[true, true, true, true, true, false, false] rfl rfl (by kernel_rfl) (fun _ _ _ h => h) (Or.inl ⟨by rfl, ?_⟩) hHeld ?_ ?_; rotate_left
            · rintro w' ⟨s0, s1, s2, s3⟩
              go_simp
              with_reducible rfl
            rotate_left
            · simp only [Act.put, List.setIfInBounds_toArray, List.set_cons_zero, List.set_cons_succ, i64_w, i32_w]; rfl
            refine one_ (i := 5) (N := some 18) #[true, true, true, true, true, true, false] rfl rfl (by kernel_rfl) (by decide) (fun K hK => ?_); refine goes_ Tryd.func24 (by kernel_rfl) rfl #[.agg #[.int .i64 a0_0, .int .i64 a0_1, .slice A0_2 l0_2.length c0_2], .int .i64 (rd l1 x6_1)] (by rfl) rfl rfl zm ?_
            with_reducible refine (spec_IsCell.calls k1 a0_0 a0_1 _ _ l0_2 (rd l1 x6_1) true _ ?side1 ?side2 A6.out).mono ?_
            (case side1 => exact zCb HR0_2); (case side2 => exact HC0_2.out); rintro e w19 ⟨rfl, hb⟩; refine ⟨_, rfl, ?_⟩; replace BK222 := zkb BK222 hb; replace HB := zbs hb; (try clear hb); (try clear hb2); (try clear hk); (try clear hi); refine hK.out _ _ ⟨zq BK222 0, zq BK222 1, zq BK222 2, ((HB.out.cell (World.block_lt_of_cell? w _ hw223_0)).trans hw223_0)⟩ (fun hHeld => ?_); clear hK K; refine norm_ (a' := ?_) ?_ ?_; rotate_left
            · show Act.put _ (some 18) _ = _
              simp only [Act.put, List.setIfInBounds_toArray, List.set_cons_zero, List.set_cons_succ, i64_w, i32_w]; rfl
            refine pure_ (i := 6) (N := some 19) (v := ?_) (a' := ?_) #[true, true, true, true, true, true, true] rfl rfl (by kernel_rfl) (fun _ _ _ h => h) (Or.inl ⟨by rfl, ?_⟩) ?_ ?_; rotate_left
            · intro w'
              go_simp
              with_reducible rfl
            rotate_left
            · simp only [Act.put, List.setIfInBounds_toArray, List.set_cons_zero, List.set_cons_succ, i64_w, i32_w]; rfl
            refine done_ (by kernel_rfl) ?_
            try go_wp2
            replace BK222 := Aside0.mk (blk_drew BK222.out); replace HB := Aside0.mk (below_drew1 HB.out); have p227 : 0 ≤ (x6_1 : Int) := zd; have q227 : x6_1 < (l1.length : Int) := zd; obtain ⟨ad227, e227, hx227_0⟩ := Kd.at_int HR1.out x6_1 p227 q227; have hw227_0 := hx227_0; obtain rfl : ad223 = ad227 := (by injection e227); replace hx227_0 := (HB.out.cell (World.block_lt_of_cell? w _ hx227_0)).trans hx227_0; replace p227 := eq_true p227; replace q227 := eq_true q227; refine start_ (n := 9) (S := fun w' => w'.cell? ⟨gb222, 0, none⟩ = some (.int .i64 a0_0) ∧ w'.cell? ⟨gb222, 1, none⟩ = some (.int .i64 a0_1) ∧ w'.cell? ⟨gb222, 2, none⟩ = some (.slice A0_2 l0_2.length c0_2) ∧ w'.cell? (ad223.add (x6_1).toNat) = some (.int .i64 (rd l1 x6_1))) (ds := []) _ (by kernel_rfl) rfl rfl ⟨zq BK222 0, zq BK222 1, zq BK222 2, ((HB.out.cell (World.block_lt_of_cell? w _ hw227_0)).trans hw227_0)⟩ (fun hHeld => ?_); refine with_tabW spec_WayText.tab9 spec_WayText.bits9 (fun HT_ HW_ => ?_); generalize w19.drew = w20 at BK222 HB hx227_0 hHeld ⊢; refine zp 0 24 HT_ ?_; refine zp 2 26 HT_ ?_; refine zp 3 27 HT_ ?_; refine zp 4 28 HT_ ?_; refine zt 1 25 HT_ HW_ hHeld ?_; refine zt 5 29 HT_ HW_ hHeld ?_; refine zo 6 30 HT_ (fun K hK => ?_); refine goes_ Tryd.func8 (by kernel_rfl) rfl #[.agg #[.int .i64 a0_0, .int .i64 a0_1, .slice A0_2 l0_2.length c0_2], .int .i64 (rd l1 x6_1)] (by rfl) rfl rfl zm ?_
            with_reducible refine (spec_CellText.calls k1 a0_0 a0_1 _ _ l0_2 (rd l1 x6_1) t228 _ ?side1 ?side2 A16.out).mono ?_
            (case side1 => exact zCb HR0_2); (case side2 => exact HC0_2.out); rintro e w21 ⟨rfl, hb⟩; refine ⟨_, rfl, ?_⟩; replace BK222 := zkb BK222 hb; replace HB := zbs hb; (try clear hb); (try clear hb2); (try clear hk); (try clear hi); refine hK.out _ _ ⟨zq BK222 0, zq BK222 1, zq BK222 2, ((HB.out.cell (World.block_lt_of_cell? w _ hw227_0)).trans hw227_0)⟩ (fun hHeld => ?_); clear hK K; refine norm_ (a' := ?_) ?_ ?_; rotate_left
            · show Act.put _ (some 30) _ = _
              simp only [Act.put, List.setIfInBounds_toArray, List.set_cons_zero, List.set_cons_succ, i64_w, i32_w]; rfl
            refine zp 7 31 HT_ ?_; refine zp 8 5 HT_ ?_; refine done_ (done_of HT_.out (by kernel_rfl)) ?_
            try go_wp2
            go_roundg k1
            case measure => have := HK1.out; omega
            case rel => exact ⟨(x5_1 ++ t228), (wrap64 (x6_1 + 1)), zr, zr, H', ⟨by have := HK1.out; omega⟩, ⟨zk BK222⟩, ⟨zb⟩⟩
        · replace c7 := Bool.eq_false_iff.mpr c7; subst c7; rw [if_neg (show ¬ (false = true) by decide)] at H; obtain rfl := Option.some.inj H
          try go_wp2
          replace BK222 := Aside0.mk (blk_drew BK222.out); replace HB := Aside0.mk (below_drew1 HB.out); have p223 : 0 ≤ (x6_1 : Int) := zd; have q223 : x6_1 < (l1.length : Int) := zd; obtain ⟨ad223, e223, hx223_0⟩ := Kd.at_int HR1.out x6_1 p223 q223; have hw223_0 := hx223_0; cases e223; replace hx223_0 := (HB.out.cell (World.block_lt_of_cell? w _ hx223_0)).trans hx223_0; replace p223 := eq_true p223; replace q223 := eq_true q223; refine start_ (n := 7) (S := fun w' => w'.cell? ⟨gb222, 0, none⟩ = some (.int .i64 a0_0) ∧ w'.cell? ⟨gb222, 1, none⟩ = some (.int .i64 a0_1) ∧ w'.cell? ⟨gb222, 2, none⟩ = some (.slice A0_2 l0_2.length c0_2) ∧ w'.cell? (ad223.add (x6_1).toNat) = some (.int .i64 (rd l1 x6_1))) (ds := []) _ (by kernel_rfl) rfl rfl ⟨zq BK222 0, zq BK222 1, zq BK222 2, ((HB.out.cell (World.block_lt_of_cell? w _ hw223_0)).trans hw223_0)⟩ (fun hHeld => ?_); generalize wr.drew = w22 at BK222 HB hx223_0 hHeld ⊢; refine pure_ (i := 1) (N := some 14) (v := ?_) (a' := ?_) #[false, true, false, false, false, false, false] rfl rfl (by kernel_rfl) (fun _ _ _ h => h) (Or.inl ⟨by rfl, ?_⟩) ?_ ?_; rotate_left
          · intro w'
            go_simp
            with_reducible rfl
          rotate_left
          · simp only [Act.put, List.setIfInBounds_toArray, List.set_cons_zero, List.set_cons_succ, i64_w, i32_w]; rfl
          refine pure_ (i := 2) (N := some 15) (v := ?_) (a' := ?_) #[false, true, true, false, false, false, false] rfl rfl (by kernel_rfl) (fun _ _ _ h => h) (Or.inl ⟨by rfl, ?_⟩) ?_ ?_; rotate_left
          · intro w'
            go_simp
            with_reducible rfl
          rotate_left
          · simp only [Act.put, List.setIfInBounds_toArray, List.set_cons_zero, List.set_cons_succ, i64_w, i32_w]; rfl
          refine pure_ (i := 3) (N := some 16) (v := ?_) (a' := ?_) #[false, true, true, true, false, false, false] rfl rfl (by kernel_rfl) (fun _ _ _ h => h) (Or.inl ⟨by rfl, ?_⟩) ?_ ?_; rotate_left
          · intro w'
            go_simp
            with_reducible rfl
          rotate_left
          · simp only [Act.put, List.setIfInBounds_toArray, List.set_cons_zero, List.set_cons_succ, i64_w, i32_w]; rfl
          refine take_ (i := 0) (N := some 13) (v := ?_) (a' := ?_) #[true, true, true, true, false, false, false] rfl rfl (by kernel_rfl) (fun _ _ _ h => h) (Or.inl ⟨by rfl, ?_⟩) hHeld ?_ ?_; rotate_left
          · rintro w' ⟨s0, s1, s2, s3⟩
            go_simp
            with_reducible rfl
          rotate_left
          · simp only [Act.put, List.setIfInBounds_toArray, List.set_cons_zero, List.set_cons_succ, i64_w, i32_w]; rfl
          refine take_ (i := 4) (N := some 17) (v := ?_) (a' := ?_) #[true, true, true, true, true, false, false] rfl rfl (by kernel_rfl) (fun _ _ _ h => h) (Or.inl ⟨by rfl, ?_⟩) hHeld ?_ ?_; rotate_left
          · rintro w' ⟨s0, s1, s2, s3⟩
            go_simp
            with_reducible rfl
          rotate_left
          · simp only [Act.put, List.setIfInBounds_toArray, List.set_cons_zero, List.set_cons_succ, i64_w, i32_w]; rfl
          refine one_ (i := 5) (N := some 18) #[true, true, true, true, true, true, false] rfl rfl (by kernel_rfl) (by decide) (fun K hK => ?_); refine goes_ Tryd.func24 (by kernel_rfl) rfl #[.agg #[.int .i64 a0_0, .int .i64 a0_1, .slice A0_2 l0_2.length c0_2], .int .i64 (rd l1 x6_1)] (by rfl) rfl rfl zm ?_
          with_reducible refine (spec_IsCell.calls k1 a0_0 a0_1 _ _ l0_2 (rd l1 x6_1) false _ ?side1 ?side2 A6.out).mono ?_
          (case side1 => exact zCb HR0_2); (case side2 => exact HC0_2.out); rintro e w23 ⟨rfl, hb⟩; refine ⟨_, rfl, ?_⟩; replace BK222 := zkb BK222 hb; replace HB := zbs hb; (try clear hb); (try clear hb2); (try clear hk); (try clear hi); refine hK.out _ _ ⟨zq BK222 0, zq BK222 1, zq BK222 2, ((HB.out.cell (World.block_lt_of_cell? w _ hw223_0)).trans hw223_0)⟩ (fun hHeld => ?_); clear hK K; refine norm_ (a' := ?_) ?_ ?_; rotate_left
          · show Act.put _ (some 18) _ = _
            simp only [Act.put, List.setIfInBounds_toArray, List.set_cons_zero, List.set_cons_succ, i64_w, i32_w]; rfl
          refine pure_ (i := 6) (N := some 19) (v := ?_) (a' := ?_) #[true, true, true, true, true, true, true] rfl rfl (by kernel_rfl) (fun _ _ _ h => h) (Or.inl ⟨by rfl, ?_⟩) ?_ ?_; rotate_left
          · intro w'
            go_simp
            with_reducible rfl
          rotate_left
          · simp only [Act.put, List.setIfInBounds_toArray, List.set_cons_zero, List.set_cons_succ, i64_w, i32_w]; rfl
          refine done_ (by kernel_rfl) ?_
          try go_wp2
          go_ret; exact ⟨by first | rfl | (simp [errW_none, errW_some] <;> rfl) | (simp [*, errW_none, errW_some] <;> rfl), zb⟩
      · rw [if_neg c4] at H; have c4b0 := decide_eq_false c4; clear c4
        by_cases c24 : (l1.length : Int) = 0
        · rw [if_pos c24] at H; have c24b0 : ((l1.length : Int) == 0) = true := beq_iff_eq.mpr c24; have c24b1 : ((l1.length : Int) != 0) = false := bne_eq_false_iff_eq.mpr c24; clear c24; obtain rfl := Option.some.inj H; go_wp2; go_ret; exact ⟨by first | rfl | (simp [errW_none, errW_some] <;> rfl) | (simp [*, errW_none, errW_some] <;> rfl), zb⟩
        · rw [if_neg c24] at H; have c24b0 : ((l1.length : Int) == 0) = false := beq_eq_false_iff_ne.mpr c24; have c24b1 : ((l1.length : Int) != 0) = true := bne_iff_ne.mpr c24; have c24b2 : ¬ (l1 = []) := fun h_ => c24 (by rw [h_]; rfl); obtain rfl := Option.some.inj H; go_wp2; go_ret; exact ⟨by first | rfl | (simp [errW_none, errW_some] <;> rfl) | (simp [*, errW_none, errW_some] <;> rfl), zb⟩

/-! ### impl_WayText: function 16 -/
def impl_WayText.l0 : Nat → List ByteArray → List Int → Int → Int → Int → Int → List Int → Option (ByteArray)
  | 0, _, _, _, _, _, _, _ => none
  | k + 1, x5, x12, x13, x14, x233000, x233001, x233002 => if x14 < x13 then (if 0 ≤ x14 then (if x14 < (x12.length : Int) then ((impl_IsCell.f k x233000 x233001 x233002 (rd x12 x14)).bind fun t238 => (if t238 = true then ((impl_CellText.f k x233000 x233001 x233002 (rd x12 x14)).bind fun t239 => (if x5.length < 8796093022208 then (impl_WayText.l0 k (x5 ++ [t239]) x12 x13 (wrap64 (x14 + 1)) x233000 x233001 x233002) else (none))) else (some (⟨#[]⟩ : ByteArray)))) else (none)) else (none)) else ((strings_Join.f x5 (⟨#[45]⟩ : ByteArray)).bind fun t236 => (some t236))
def impl_WayText.f (k : Nat) (a0_0 : Int) (a0_1 : Int) (l0_2 : List Int) (l1 : List Int) : Option (ByteArray) := if (l1.length : Int) = 0 then (some (⟨#[45]⟩ : ByteArray)) else (impl_WayText.l0 k (([] : List ByteArray)) l1 (l1.length : Int) 0 a0_0 a0_1 l0_2)
set_option maxHeartbeats 8000000 in
set_option maxRecDepth 100000 in
theorem impl_WayText.calls (k : Nat) (a0_0 : Int) (a0_1 : Int) (A0_2 : Option Addr) (c0_2 : Nat) (l0_2 : List Int) (A1 : Option Addr) (c1 : Nat) (l1 : List Int) (r : ByteArray) (w : World) (hr0_2 : Kd.C (Kd.int .i64) w A0_2 l0_2.length l0_2) (hc0_2 : l0_2.length ≤ c0_2) (hr1 : Kd.C (Kd.int .i64) w A1 l1.length l1) (hc1 : l1.length ≤ c1) (h : impl_WayText.f k a0_0 a0_1 l0_2 l1 = some r) :
    Calls Tryd.prog 16 #[.agg #[.int .i64 a0_0, .int .i64 a0_1, .slice A0_2 l0_2.length c0_2], .slice A1 l1.length c1] w fun e w' => e = .returned (.string r) ∧ Below w.heap.size w w' := by
  have hu27 := Tryd.underlying27; have HR0_2 := Aside0.mk hr0_2; have HC0_2 := Aside0.mk hc0_2; clear hr0_2 hc0_2; have HR1 := Aside0.mk hr1; have HC1 := Aside0.mk hc1; clear hr1 hc1; have HB := Aside0.mk (Below.refl w.heap.size w); have H := h; clear h; unfold impl_WayText.f at H
  by_cases c3 : (l1.length : Int) = 0
  · rw [if_pos c3] at H; have c3b0 : ((l1.length : Int) == 0) = true := beq_iff_eq.mpr c3; have c3b1 : ((l1.length : Int) != 0) = false := bne_eq_false_iff_eq.mpr c3; clear c3; obtain rfl := Option.some.inj H; go_enter Tryd.func16, Tryd.ntmps16
    go_wp2_with (first | ((with_reducible refine gate_dst (N := 2) rfl ?_); refine zbx 2 #[.int .i64 a0_0, .int .i64 a0_1, .slice A0_2 l0_2.length c0_2] 27 ?_; intro gb232 hg w4 hbox hb; have BK232 := Aside0.mk (hbox); have GW232 := zga (w := w) hg; have GE232 := zga (w := w) hg; replace HB := zbs hb; clear hb hbox hg))
    go_ret; exact ⟨by first | rfl | (simp [errW_none, errW_some] <;> rfl) | (simp [*, errW_none, errW_some] <;> rfl), zb⟩
  · rw [if_neg c3] at H; have c3b0 : ((l1.length : Int) == 0) = false := beq_eq_false_iff_ne.mpr c3; have c3b1 : ((l1.length : Int) != 0) = true := bne_iff_ne.mpr c3; have c3b2 : ¬ (l1 = []) := fun h_ => c3 (by rw [h_]; rfl); obtain ⟨y233, hy233⟩ : ∃ y_ : List ByteArray, y_ = (([] : List ByteArray)) := ⟨_, rfl⟩
    replace H : (impl_WayText.l0 k y233 l1 (l1.length : Int) 0 a0_0 a0_1 l0_2) = some r := by first | (rw [hy233]; with_reducible exact H) | (have H2_ := (Option.bind_some _ _).symm.trans H; rw [hy233]; with_reducible exact H2_) | (have H2_ := (Option.bind_some _ _).symm.trans H; with_reducible exact H2_) | with_reducible exact H | (rw [hy233]; exact H) | exact H
    have Ny233 := Aside0.mk hy233; clear hy233; have H' := Aside0.mk H; clear H; go_enter Tryd.func16, Tryd.ntmps16
    go_wp2_with (first | ((with_reducible refine gate_dst (N := 2) rfl ?_); refine zbx 2 #[.int .i64 a0_0, .int .i64 a0_1, .slice A0_2 l0_2.length c0_2] 27 ?_; intro gb232 hg w5 hbox hb; have BK232 := Aside0.mk (hbox); have GW232 := zga (w := w) hg; have GE232 := zga (w := w) hg; replace HB := zbs hb; clear hb hbox hg) | ((with_reducible refine gate_dst (N := 11) rfl ?_); refine Kd.R_lit Kd.string _ 9 ?hg (N := 11) ?hd (xs := ([] : List ByteArray)) (inner := []) (ok := fun _ => True) (okp := fun _ => True) ?hr ?hp (fun _ hk => hk) trivial (Below.refl _ _) (Nat.le_refl _) (by simp) ?_; (case hd => rfl); (case hg => rfl); (case hr => first | (go_simp; done) | (go_simp; rfl)); (case hp => exact (Reps.none _ _)); intro v234 w6 ho7 hb hg_ hnew_; clear hg_ hnew_; (first | rw [← Ny233.out] at ho7 | (simp only [Int.reduceToNat] at ho7; rw [← Ny233.out] at ho7)); have HO235 := Aside0.mk (Kd.R_lower ho7 (below_size zb)); replace BK232 := zkb BK232 hb; replace HB := zbs hb; clear hb ho7))
    go_loopg [5, 14] k (fun kq v5 v14 w' => ∃ (x5_1 : List ByteArray) (x14_1 : Int), v14 = .int .i64 x14_1 ∧ Aside0 (impl_WayText.l0 kq x5_1 l1 (l1.length : Int) x14_1 a0_0 a0_1 l0_2 = some r) ∧ Aside0 (kq ≤ k) ∧ Aside0 (Kd.R Kd.string 9 w' w.heap.size (fun _ => True) v5 x5_1) ∧ Aside0 (w'.heap[gb232]? = some (.cells #[.int .i64 a0_0, .int .i64 a0_1, (.slice A0_2 l0_2.length c0_2)] 27 (0, 0))) ∧ Aside0 (Below w.heap.size w w'))
    case atStart => exact ⟨(y233), (0), zr, H', ⟨Nat.le_refl _⟩, ⟨zR HO235⟩, ⟨zk BK232⟩, ⟨zb⟩⟩
    case round =>
      clear H'; (try clear c1); (try clear p2); (try clear c3); (try clear c3b0); (try clear c3b1); (try clear c3b2); obtain ⟨x5_1, x14_1, rfl, HA, HK1, HO_5, BK232, HB⟩ := hrel
      cases gk with
      | zero => exact absurd HA.out (by simp [impl_WayText.l0])
      | succ k1 =>
        have H := HA.out; clear HA; simp only [impl_WayText.l0] at H
        by_cases c8 : x14_1 < (l1.length : Int)
        · rw [if_pos c8] at H; have c8b0 := decide_eq_true c8; clear c8; obtain ⟨c9, H⟩ := zif H; have c9b0 := decide_eq_true c9; clear c9; obtain ⟨c10, H⟩ := zif H; have c10b0 := decide_eq_true c10; clear c10; replace H := Option.bind_eq_some_iff.mp H; obtain ⟨t238, A110, H⟩ := H; have A11 := Aside0.mk A110; clear A110
          by_cases c12 : t238 = true
          · subst c12; rw [if_pos rfl] at H; replace H := Option.bind_eq_some_iff.mp H; obtain ⟨t239, A130, H⟩ := H; have A13 := Aside0.mk A130; clear A130; obtain ⟨c14, H⟩ := zif H; have LMc14 := Aside0.mk c14; clear c14; obtain ⟨y240, hy240⟩ : ∃ y_ : List ByteArray, y_ = (x5_1 ++ [t239]) := ⟨_, rfl⟩
            replace H : (impl_WayText.l0 k1 y240 l1 (l1.length : Int) (wrap64 (x14_1 + 1)) a0_0 a0_1 l0_2) = some r := by first | (rw [hy240]; with_reducible exact H) | (have H2_ := (Option.bind_some _ _).symm.trans H; rw [hy240]; with_reducible exact H2_) | (have H2_ := (Option.bind_some _ _).symm.trans H; with_reducible exact H2_) | with_reducible exact H | (rw [hy240]; exact H) | exact H
            have Ny240 := Aside0.mk hy240; clear hy240; have H' := Aside0.mk H; clear H; have p237 : 0 ≤ (x14_1 : Int) := zd; have q237 : x14_1 < (l1.length : Int) := zd; obtain ⟨ad237, e237, hx237_0⟩ := Kd.at_int HR1.out x14_1 p237 q237; cases e237; replace hx237_0 := (HB.out.cell (World.block_lt_of_cell? w _ hx237_0)).trans hx237_0; replace p237 := eq_true p237; replace q237 := eq_true q237; obtain ⟨hcz15_0, hcz15_1, hcz15_2⟩ := zc3 BK232; obtain ⟨hfz15_0, hfz15_1, hfz15_2⟩ := zf3 BK232
            go_wp2_with (first | ((with_reducible refine gate_callee (f := 26) rfl ?_); refine goesL_ (some 20) rfl rfl Tryd.func26 (by kernel_rfl) rfl #[.agg #[.int .i64 a0_0, .int .i64 a0_1, .slice A0_2 l0_2.length c0_2], .int .i64 (rd l1 x14_1)] rfl zm ?_; (with_reducible refine (impl_IsCell.calls k1 a0_0 a0_1 _ _ l0_2 (rd l1 x14_1) true _ ?side1 ?side2 A11.out).mono ?_); (case side1 => exact zCb HR0_2); (case side2 => exact HC0_2.out); rintro e w16 ⟨rfl, hb⟩; refine ⟨_, rfl, ?_⟩; replace HO_5 := zRb HO_5 hb; replace BK232 := zkb BK232 hb; replace HB := zbs hb; (try clear hb); (try clear hb2); (try clear hk); (try clear hi); obtain ⟨hcz17_0, hcz17_1, hcz17_2⟩ := zc3 BK232; obtain ⟨hfz17_0, hfz17_1, hfz17_2⟩ := zf3 BK232) | ((with_reducible refine gate_callee (f := 10) rfl ?_); refine goesL_ (some 25) rfl rfl Tryd.func10 (by kernel_rfl) rfl #[.agg #[.int .i64 a0_0, .int .i64 a0_1, .slice A0_2 l0_2.length c0_2], .int .i64 (rd l1 x14_1)] rfl zm ?_; (with_reducible refine (impl_CellText.calls k1 a0_0 a0_1 _ _ l0_2 (rd l1 x14_1) t239 _ ?side1 ?side2 A13.out).mono ?_); (case side1 => exact zCb HR0_2); (case side2 => exact HC0_2.out); rintro e w18 ⟨rfl, hb⟩; refine ⟨_, rfl, ?_⟩; replace HO_5 := zRb HO_5 hb; replace BK232 := zkb BK232 hb; replace HB := zbs hb; (try clear hb); (try clear hb2); (try clear hk); (try clear hi)) | ((with_reducible refine gate_builtin (b := .append) (xs := #[.tmp 22, .tmp 26]) rfl ?_); at_builtin; refine Kd.R_append Kd.string (w0 := w) w.heap.size rfl (.tmp 22) (.tmp 26) 53 9 (.string ⟨#[]⟩) 16 rfl Tryd.underlying53 info9 rfl (by decide) (by omega) u5 x5_1 t239 [.string t239] (fun _ => True) (fun _ => False) rfl rfl ?aP (fun _ hk => hk.elim) ?aF ?aO ?aB ?aS ?aL ?_; (case aP => exact rfl); (case aB => exact zb); (case aF => exact (fun _ _ => trivial)); (case aO => exact (zR HO_5)); (case aS => exact (below_size zb)); (case aL => have := LMc14.out; omega); intro v241 w19 ho hb hg hat; rw [← Ny240.out] at ho; replace BK232 := Aside0.mk (blk_grown (g := gb232) (o := .cells #[.int .i64 a0_0, .int .i64 a0_1, .slice A0_2 l0_2.length c0_2] 27 (0, 0)) (zk BK232) hg (Kd.R_ne HO_5.out BK232.out (by decide))); replace HB := Aside0.mk (hb); have HO242 := Aside0.mk (ho); clear HO_5; clear ho hb hg hat))
            go_roundg k1
            case measure => have := HK1.out; omega
            case rel => exact ⟨(y240), (wrap64 (x14_1 + 1)), zr, H', ⟨by have := HK1.out; omega⟩, ⟨zR HO242⟩, ⟨zk BK232⟩, ⟨zb⟩⟩
          · replace c12 := Bool.eq_false_iff.mpr c12; subst c12; rw [if_neg (show ¬ (false = true) by decide)] at H; obtain rfl := Option.some.inj H; have p237 : 0 ≤ (x14_1 : Int) := zd; have q237 : x14_1 < (l1.length : Int) := zd; obtain ⟨ad237, e237, hx237_0⟩ := Kd.at_int HR1.out x14_1 p237 q237; cases e237; replace hx237_0 := (HB.out.cell (World.block_lt_of_cell? w _ hx237_0)).trans hx237_0; replace p237 := eq_true p237; replace q237 := eq_true q237; obtain ⟨hcz20_0, hcz20_1, hcz20_2⟩ := zc3 BK232; obtain ⟨hfz20_0, hfz20_1, hfz20_2⟩ := zf3 BK232
            go_wp2_with (first | ((with_reducible refine gate_callee (f := 26) rfl ?_); refine goesL_ (some 20) rfl rfl Tryd.func26 (by kernel_rfl) rfl #[.agg #[.int .i64 a0_0, .int .i64 a0_1, .slice A0_2 l0_2.length c0_2], .int .i64 (rd l1 x14_1)] rfl zm ?_; (with_reducible refine (impl_IsCell.calls k1 a0_0 a0_1 _ _ l0_2 (rd l1 x14_1) false _ ?side1 ?side2 A11.out).mono ?_); (case side1 => exact zCb HR0_2); (case side2 => exact HC0_2.out); rintro e w21 ⟨rfl, hb⟩; refine ⟨_, rfl, ?_⟩; replace HO_5 := zRb HO_5 hb; replace BK232 := zkb BK232 hb; replace HB := zbs hb; (try clear hb); (try clear hb2); (try clear hk); (try clear hi)))
            go_ret; exact ⟨by first | rfl | (simp [errW_none, errW_some] <;> rfl) | (simp [*, errW_none, errW_some] <;> rfl), zb⟩
        · rw [if_neg c8] at H; have c8b0 := decide_eq_false c8; clear c8; replace H := Option.bind_eq_some_iff.mp H; obtain ⟨t236, A220, H⟩ := H; have A22 := Aside0.mk A220; clear A220; obtain rfl := Option.some.inj H; obtain ⟨Ao23, co23, eo23⟩ := Kd.R_slice HO_5.out; subst eo23
          go_wp2_with (first | ((with_reducible refine gate_callee (f := 29) rfl ?_); refine goesL_ (some 30) rfl rfl Tryd.func29 (by kernel_rfl) rfl #[.slice Ao23 x5_1.length co23, .string (⟨#[45]⟩ : ByteArray)] rfl zm ?_; (with_reducible refine (strings_Join.calls _ _ x5_1 (⟨#[45]⟩ : ByteArray) t236 _ ?side1 ?side2 A22.out).mono ?_); (case side1 => exact zCx (Kd.R_reads' HO_5.out).2.2); (case side2 => exact (Kd.R_reads' HO_5.out).2.1); rintro e w24 ⟨rfl, hb⟩; refine ⟨_, rfl, ?_⟩; replace HO_5 := zRb HO_5 hb; replace BK232 := zkb BK232 hb; replace HB := zbs hb; (try clear hb); (try clear hb2); (try clear hk); (try clear hi)))
          go_ret; exact ⟨by first | rfl | (simp [errW_none, errW_some] <;> rfl) | (simp [*, errW_none, errW_some] <;> rfl), zb⟩

/-! ### laws_FnExactWayText: function 5 -/
def laws_FnExactWayText.f (k : Nat) (a0_0 : Int) (a0_1 : Int) (l0_2 : List Int) (l1 : List Int) : Option (Bool) := if (l1.length : Int) > 1048576 then (some true) else ((laws_szLand.f a0_0 a0_1 l0_2 1048576).bind fun t244 => (if t244 < 0 then (some true) else ((laws_toLand.f k a0_0 a0_1 l0_2).bind fun bt245 => ((laws_toIntS.f k l1).bind fun t250 => ((spec_WayText.f k bt245.1 bt245.2.1 bt245.2.2 t250).bind fun t253 => ((laws_toLand.f k a0_0 a0_1 l0_2).bind fun bt254 => ((laws_toIntS.f k l1).bind fun t260 => ((impl_WayText.f k bt254.1 bt254.2.1 bt254.2.2 t260).bind fun t263 => (if t263.toList = t253.toList then ((laws_toLand.f k a0_0 a0_1 l0_2).bind fun bt264 => ((laws_eqLand.f k bt254.1 bt254.2.1 bt254.2.2 bt264.1 bt264.2.1 bt264.2.2).bind fun t269 => (if t269 = true then ((laws_toIntS.f k l1).bind fun t270 => ((laws_eqIntS.f k t260 t270).bind fun t273 => (if t273 = true then (some true) else (some false)))) else (some false)))) else (some false))))))))))
set_option maxHeartbeats 8000000 in
set_option maxRecDepth 100000 in
theorem laws_FnExactWayText.calls (k : Nat) (a0_0 : Int) (a0_1 : Int) (A0_2 : Option Addr) (c0_2 : Nat) (l0_2 : List Int) (A1 : Option Addr) (c1 : Nat) (l1 : List Int) (r : Bool) (hT_ : r = true) (w : World) (hr0_2 : Kd.C (Kd.int .i64) w A0_2 l0_2.length l0_2) (hc0_2 : l0_2.length ≤ c0_2) (hr1 : Kd.C (Kd.int .i64) w A1 l1.length l1) (hc1 : l1.length ≤ c1) (h : laws_FnExactWayText.f k a0_0 a0_1 l0_2 l1 = some r) :
    Calls Tryd.prog 5 #[.agg #[.int .i64 a0_0, .int .i64 a0_1, .slice A0_2 l0_2.length c0_2], .slice A1 l1.length c1] w fun e w' => e = .returned (.bool r) ∧ Below w.heap.size w w' := by
  have hu24 := Tryd.underlying24; have hu27 := Tryd.underlying27; have HR0_2 := Aside0.mk hr0_2; have HC0_2 := Aside0.mk hc0_2; clear hr0_2 hc0_2; have HR1 := Aside0.mk hr1; have HC1 := Aside0.mk hc1; clear hr1 hc1; have HB := Aside0.mk (Below.refl w.heap.size w); have H := h; clear h; unfold laws_FnExactWayText.f at H
  by_cases c3 : (l1.length : Int) > 1048576
  · rw [if_pos c3] at H; have c3b0 : decide (1048576 < (l1.length : Int)) = true := decide_eq_true c3; have c3b1 : decide (1048576 < l1.length) = true := decide_eq_true (by omega); clear c3; obtain rfl := Option.some.inj H; go_enter Tryd.func5, Tryd.ntmps5
    go_wp2_with (first | ((with_reducible refine gate_dst (N := 2) rfl ?_); refine zbx 2 #[.int .i64 a0_0, .int .i64 a0_1, .slice A0_2 l0_2.length c0_2] 24 ?_; intro gb243 hg w4 hbox hb; have BK243 := Aside0.mk (hbox); have GW243 := zga (w := w) hg; have GE243 := zga (w := w) hg; replace HB := zbs hb; clear hb hbox hg))
    go_ret; exact ⟨by first | rfl | (simp [errW_none, errW_some] <;> rfl) | (simp [*, errW_none, errW_some] <;> rfl), zb⟩
  · rw [if_neg c3] at H; have c3b0 : decide (1048576 < (l1.length : Int)) = false := decide_eq_false c3; have c3b1 : decide (1048576 < l1.length) = false := decide_eq_false (by omega); clear c3; replace H := Option.bind_eq_some_iff.mp H; obtain ⟨t244, A50, H⟩ := H; have A5 := Aside0.mk A50; clear A50
    by_cases c6 : t244 < 0
    · rw [if_pos c6] at H; have c6b0 := decide_eq_true c6; clear c6; obtain rfl := Option.some.inj H; go_enter Tryd.func5, Tryd.ntmps5
      go_wp2_with (first | ((with_reducible refine gate_dst (N := 2) rfl ?_); refine zbx 2 #[.int .i64 a0_0, .int .i64 a0_1, .slice A0_2 l0_2.length c0_2] 24 ?_; intro gb243 hg w7 hbox hb; have BK243 := Aside0.mk (hbox); have GW243 := zga (w := w) hg; have GE243 := zga (w := w) hg; replace HB := zbs hb; clear hb hbox hg; obtain ⟨hcz8_0, hcz8_1, hcz8_2⟩ := zc3 BK243; obtain ⟨hfz8_0, hfz8_1, hfz8_2⟩ := zf3 BK243) | ((with_reducible refine gate_callee (f := 7) rfl ?_); refine goesL_ (some 15) rfl rfl Tryd.func7 (by kernel_rfl) rfl #[.agg #[.int .i64 a0_0, .int .i64 a0_1, .slice A0_2 l0_2.length c0_2], .int .i64 1048576] rfl zm ?_; (with_reducible refine (laws_szLand.calls a0_0 a0_1 _ _ l0_2 1048576 t244 _ ?side1 ?side2 A5.out).mono ?_); (case side1 => exact zCb HR0_2); (case side2 => exact HC0_2.out); rintro e w9 ⟨rfl, hb⟩; refine ⟨_, rfl, ?_⟩; replace BK243 := zkb BK243 hb; replace HB := zbs hb; (try clear hb); (try clear hb2); (try clear hk); (try clear hi)))
      go_ret; exact ⟨by first | rfl | (simp [errW_none, errW_some] <;> rfl) | (simp [*, errW_none, errW_some] <;> rfl), zb⟩
    · rw [if_neg c6] at H; have c6b0 := decide_eq_false c6; clear c6; replace H := Option.bind_eq_some_iff.mp H; obtain ⟨⟨t245, t246, t247⟩, A100, H⟩ := H; have A10 := Aside0.mk A100; clear A100; replace H := Option.bind_eq_some_iff.mp H; obtain ⟨t250, A110, H⟩ := H; have A11 := Aside0.mk A110; clear A110; replace H := Option.bind_eq_some_iff.mp H; obtain ⟨t253, A120, H⟩ := H; have A12 := Aside0.mk A120; clear A120; replace H := Option.bind_eq_some_iff.mp H; obtain ⟨⟨t254, t255, t256⟩, A130, H⟩ := H; have A13 := Aside0.mk A130; clear A130; replace H := Option.bind_eq_some_iff.mp H; obtain ⟨t260, A140, H⟩ := H; have A14 := Aside0.mk A140; clear A140; replace H := Option.bind_eq_some_iff.mp H; obtain ⟨t263, A150, H⟩ := H; have A15 := Aside0.mk A150; clear A150
      by_cases c16 : t263.toList = t253.toList
      · rw [if_pos c16] at H; have c16b0 : (t263.toList == t253.toList) = true := beq_iff_eq.mpr c16; have c16b1 : (t263.toList != t253.toList) = false := bne_eq_false_iff_eq.mpr c16; clear c16; replace H := Option.bind_eq_some_iff.mp H; obtain ⟨⟨t264, t265, t266⟩, A170, H⟩ := H; have A17 := Aside0.mk A170; clear A170; replace H := Option.bind_eq_some_iff.mp H; obtain ⟨t269, A180, H⟩ := H; have A18 := Aside0.mk A180; clear A180
        by_cases c19 : t269 = true
        · subst c19; rw [if_pos rfl] at H; replace H := Option.bind_eq_some_iff.mp H; obtain ⟨t270, A200, H⟩ := H; have A20 := Aside0.mk A200; clear A200; replace H := Option.bind_eq_some_iff.mp H; obtain ⟨t273, A210, H⟩ := H; have A21 := Aside0.mk A210; clear A210
          by_cases c22 : t273 = true
          · subst c22; rw [if_pos rfl] at H; obtain rfl := Option.some.inj H; go_enter Tryd.func5, Tryd.ntmps5
            try go_wp2_with (first | ((with_reducible refine gate_dst (N := 2) rfl ?_); refine zbx 2 #[.int .i64 a0_0, .int .i64 a0_1, .slice A0_2 l0_2.length c0_2] 24 ?_; intro gb243 hg w23 hbox hb; have BK243 := Aside0.mk (hbox); have GW243 := zga (w := w) hg; have GE243 := zga (w := w) hg; replace HB := zbs hb; clear hb hbox hg; obtain ⟨hcz24_0, hcz24_1, hcz24_2⟩ := zc3 BK243; obtain ⟨hfz24_0, hfz24_1, hfz24_2⟩ := zf3 BK243) | ((with_reducible refine gate_callee (f := 7) rfl ?_); refine goesL_ (some 15) rfl rfl Tryd.func7 (by kernel_rfl) rfl #[.agg #[.int .i64 a0_0, .int .i64 a0_1, .slice A0_2 l0_2.length c0_2], .int .i64 1048576] rfl zm ?_; (with_reducible refine (laws_szLand.calls a0_0 a0_1 _ _ l0_2 1048576 t244 _ ?side1 ?side2 A5.out).mono ?_); (case side1 => exact zCb HR0_2); (case side2 => exact HC0_2.out); rintro e w25 ⟨rfl, hb⟩; refine ⟨_, rfl, ?_⟩; replace BK243 := zkb BK243 hb; replace HB := zbs hb; (try clear hb); (try clear hb2); (try clear hk); (try clear hi); obtain ⟨hcz26_0, hcz26_1, hcz26_2⟩ := zc3 BK243; obtain ⟨hfz26_0, hfz26_1, hfz26_2⟩ := zf3 BK243) | ((with_reducible refine gate_callee (f := 9) rfl ?_); refine goesL_ (some 19) rfl rfl Tryd.func9 (by kernel_rfl) rfl #[.agg #[.int .i64 a0_0, .int .i64 a0_1, .slice A0_2 l0_2.length c0_2]] rfl zm ?_; (with_reducible refine (laws_toLand.calls k a0_0 a0_1 _ _ l0_2 t245 t246 t247 _ ?side1 ?side2 A10.out).mono ?_); (case side1 => exact zCb HR0_2); (case side2 => exact HC0_2.out); rintro e w27 ⟨v248, rfl, ho0, hb⟩; refine ⟨_, rfl, ?_⟩; have HO249 := Aside0.mk (Kd.R_lower ho0 (below_size zb)); replace BK243 := zkb BK243 hb; replace HB := zbs hb; (try clear hb); (try clear hb2); (try clear hk); (try clear hi); (try clear ho0)) | ((with_reducible refine gate_callee (f := 15) rfl ?_); refine goesL_ (some 21) rfl rfl Tryd.func15 (by kernel_rfl) rfl #[.slice A1 l1.length c1] rfl zm ?_; (with_reducible refine (laws_toIntS.calls k _ _ l1 t250 _ ?side1 ?side2 A11.out).mono ?_); (case side1 => exact zCb HR1); (case side2 => exact HC1.out); rintro e w28 ⟨v251, rfl, ho0, hb⟩; refine ⟨_, rfl, ?_⟩; have HO252 := Aside0.mk (Kd.R_lower (Kd.R_new' ho0 (Kd.R_lt (zR HO249))) (below_size zb)); replace HO249 := Aside0.mk (Kd.R_elder' (zR HO249) (Kd.R_base ho0) hb); replace BK243 := zkb BK243 hb; replace HB := zbs hb; (try clear hb); (try clear hb2); (try clear hk); (try clear hi); (try clear ho0); obtain ⟨Ao29, co29, eo29⟩ := Kd.R_slice HO249.out; subst eo29; obtain ⟨Ao30, co30, eo30⟩ := Kd.R_slice HO252.out; subst eo30) | ((with_reducible refine gate_callee (f := 14) rfl ?_); refine goesL_ (some 22) rfl rfl Tryd.func14 (by kernel_rfl) rfl #[.agg #[.int .i64 t245, .int .i64 t246, .slice Ao29 t247.length co29], .slice Ao30 t250.length co30] rfl zm ?_; (with_reducible refine (spec_WayText.calls k t245 t246 _ _ t247 _ _ t250 t253 _ ?side1 ?side2 ?side3 ?side4 A12.out).mono ?_); (case side1 => exact zCx (Kd.R_reads' HO249.out).2.2); (case side2 => exact (Kd.R_reads' HO249.out).2.1); (case side3 => exact zCx (Kd.R_reads' HO252.out).2.2); (case side4 => exact (Kd.R_reads' HO252.out).2.1); rintro e w31 ⟨rfl, hb⟩; refine ⟨_, rfl, ?_⟩; replace HO249 := zRb HO249 hb; replace HO252 := zRb HO252 hb; replace BK243 := zkb BK243 hb; replace HB := zbs hb; (try clear hb); (try clear hb2); (try clear hk); (try clear hi); obtain ⟨hcz32_0, hcz32_1, hcz32_2⟩ := zc3 BK243; obtain ⟨hfz32_0, hfz32_1, hfz32_2⟩ := zf3 BK243) | ((with_reducible refine gate_callee (f := 9) rfl ?_); refine goesL_ (some 24) rfl rfl Tryd.func9 (by kernel_rfl) rfl #[.agg #[.int .i64 a0_0, .int .i64 a0_1, .slice A0_2 l0_2.length c0_2]] rfl zm ?_; (with_reducible refine (laws_toLand.calls k a0_0 a0_1 _ _ l0_2 t254 t255 t256 _ ?side1 ?side2 A13.out).mono ?_); (case side1 => exact zCb HR0_2); (case side2 => exact HC0_2.out); rintro e w33 ⟨v257, rfl, ho0, hb⟩; refine ⟨_, rfl, ?_⟩; have HO258 := Aside0.mk (Kd.R_lower (Kd.R_new' (Kd.R_new' ho0 (Kd.R_lt (zR HO249))) (Kd.R_lt (zR HO252))) (below_size zb)); replace HO249 := Aside0.mk (Kd.R_elder' (zR HO249) (Kd.R_base ho0) hb); replace HO252 := Aside0.mk (Kd.R_elder' (zR HO252) (Kd.R_base ho0) hb); replace BK243 := zkb BK243 hb; replace HB := zbs hb; (try clear hb); (try clear hb2); (try clear hk); (try clear hi); (try clear ho0)) | ((with_reducible refine gate_dst (N := 7) rfl ?_); refine zbx 7 #[.int .i64 0, .int .i64 0, .slice none 0 0] 27 ?_; intro gb259 hg w34 hbox hb; replace HO249 := zRb HO249 hb; replace HO252 := zRb HO252 hb; replace HO258 := zRb HO258 hb; have BK259 := Aside0.mk (hbox); have GW259 := zga (w := w) hg; have GE259 := zga (w := w) hg; replace HB := zbs hb; have NB243_259 := zla BK243 hg; have NB259_243 := zha BK243 hg; replace BK243 := zkb BK243 hb; clear hb hbox hg; have hnb35 := NB259_243.out; have hnc35 := NB243_259.out; obtain ⟨hcz36_0, hcz36_1, hcz36_2⟩ := zc3 BK259; obtain ⟨hfz36_0, hfz36_1, hfz36_2⟩ := zf3 BK259; obtain ⟨Ao37, co37, eo37⟩ := Kd.R_slice HO258.out; subst eo37) | ((with_reducible refine gate_callee (f := 15) rfl ?_); refine goesL_ (some 26) rfl rfl Tryd.func15 (by kernel_rfl) rfl #[.slice A1 l1.length c1] rfl zm ?_; (with_reducible refine (laws_toIntS.calls k _ _ l1 t260 _ ?side1 ?side2 A14.out).mono ?_); (case side1 => exact Kd.C_below HR1.out zb); (case side2 => exact HC1.out); rintro e w38 ⟨v261, rfl, ho0, hb⟩; refine ⟨_, rfl, ?_⟩; have HO262 := Aside0.mk (Kd.R_lower (Kd.R_new' (Kd.R_new' (Kd.R_new' ho0 (Kd.R_lt (zF1 HO249 BK259))) (Kd.R_lt (zF1 HO252 BK259))) (Kd.R_lt (zF1 HO258 BK259))) (below_size zb)); replace HO249 := Aside0.mk (Kd.R_elder' (zF1 HO249 BK259) (Kd.R_base ho0) hb); replace HO252 := Aside0.mk (Kd.R_elder' (zF1 HO252 BK259) (Kd.R_base ho0) hb); replace HO258 := Aside0.mk (Kd.R_elder' (zF1 HO258 BK259) (Kd.R_base ho0) hb); replace BK243 := Aside0.mk (blk_below (g := gb243) (o := .cells #[.int .i64 a0_0, .int .i64 a0_1, .slice A0_2 l0_2.length c0_2] 24 (0, 0)) (zkf BK243) hb); replace BK259 := Aside0.mk (blk_below (g := gb259) (o := .cells #[.int .i64 t254, .int .i64 t255, .slice Ao37 t256.length co37] 27 (0, 0)) (zkp BK259) hb); replace HB := zbs hb; (try clear hb); (try clear hb2); (try clear hk); (try clear hi); (try clear ho0); obtain ⟨hcz39_0, hcz39_1, hcz39_2⟩ := zc3 BK259; obtain ⟨hfz39_0, hfz39_1, hfz39_2⟩ := zf3 BK259; obtain ⟨Ao40, co40, eo40⟩ := Kd.R_slice HO262.out; subst eo40) | ((with_reducible refine gate_callee (f := 16) rfl ?_); refine goesL_ (some 29) rfl rfl Tryd.func16 (by kernel_rfl) rfl #[.agg #[.int .i64 t254, .int .i64 t255, .slice Ao37 t256.length co37], .slice Ao40 t260.length co40] rfl zm ?_; (with_reducible refine (impl_WayText.calls k t254 t255 _ _ t256 _ _ t260 t263 _ ?side1 ?side2 ?side3 ?side4 A15.out).mono ?_); (case side1 => exact zCx (Kd.R_reads' HO258.out).2.2); (case side2 => exact (Kd.R_reads' HO258.out).2.1); (case side3 => exact zCx (Kd.R_reads' HO262.out).2.2); (case side4 => exact (Kd.R_reads' HO262.out).2.1); rintro e w41 ⟨rfl, hb⟩; refine ⟨_, rfl, ?_⟩; replace HO249 := zRb HO249 hb; replace HO252 := zRb HO252 hb; replace HO258 := zRb HO258 hb; replace HO262 := zRb HO262 hb; replace BK243 := zkb BK243 hb; replace BK259 := zkb BK259 hb; replace HB := zbs hb; (try clear hb); (try clear hb2); (try clear hk); (try clear hi)))
            replace HO249 := Aside0.mk (Kd.R_drew HO249.out); replace HO252 := Aside0.mk (Kd.R_drew HO252.out); replace HO258 := Aside0.mk (Kd.R_drew HO258.out); replace HO262 := Aside0.mk (Kd.R_drew HO262.out); replace BK243 := Aside0.mk (blk_drew BK243.out); replace BK259 := Aside0.mk (blk_drew BK259.out); replace HB := Aside0.mk (below_drew1 HB.out); refine start_ (n := 5) (S := fun w' => w'.cell? ⟨gb259, 0, none⟩ = some (.int .i64 t254) ∧ w'.cell? ⟨gb259, 1, none⟩ = some (.int .i64 t255) ∧ w'.cell? ⟨gb259, 2, none⟩ = some (.slice Ao37 t256.length co37) ∧ w'.cell? ⟨gb243, 0, none⟩ = some (.int .i64 a0_0) ∧ w'.cell? ⟨gb243, 1, none⟩ = some (.int .i64 a0_1) ∧ w'.cell? ⟨gb243, 2, none⟩ = some (.slice A0_2 l0_2.length c0_2)) (ds := []) _ (by kernel_rfl) rfl rfl ⟨zq BK259 0, zq BK259 1, zq BK259 2, zq BK243 0, zq BK243 1, zq BK243 2⟩ (fun hHeld => ?_); generalize w41.drew = w42 at HO249 HO252 HO258 HO262 BK243 BK259 HB hHeld ⊢; refine take_ (i := 0) (N := some 33) (v := ?_) (a' := ?_) #[true, false, false, false, false] rfl rfl (by kernel_rfl) (fun _ _ _ h => h) (Or.inl ⟨by rfl, ?_⟩) hHeld ?_ ?_; rotate_left
            · rintro w' ⟨s0, s1, s2, s3, s4, s5⟩
              go_simp
              with_reducible rfl
            rotate_left
            · simp only [Act.put, List.setIfInBounds_toArray, List.set_cons_zero, List.set_cons_succ, i64_w, i32_w]; rfl
            refine take_ (i := 1) (N := some 34) (v := ?_) (a' := ?_) #[true, true, false, false, false] rfl rfl (by kernel_rfl) (fun _ _ _ h => h) (Or.inl ⟨by rfl, ?_⟩) hHeld ?_ ?_; rotate_left
            · rintro w' ⟨s0, s1, s2, s3, s4, s5⟩
              go_simp
              with_reducible rfl
            rotate_left
            · simp only [Act.put, List.setIfInBounds_toArray, List.set_cons_zero, List.set_cons_succ, i64_w, i32_w]; rfl
            refine one_ (i := 2) (N := some 35) #[true, true, true, false, false] rfl rfl (by kernel_rfl) (by decide) (fun K hK => ?_); refine goes_ Tryd.func9 (by kernel_rfl) rfl #[.agg #[.int .i64 a0_0, .int .i64 a0_1, .slice A0_2 l0_2.length c0_2]] (by rfl) rfl rfl zm ?_
            with_reducible refine (laws_toLand.calls k a0_0 a0_1 _ _ l0_2 t264 t265 t266 _ ?side1 ?side2 A17.out).mono ?_
            (case side1 => exact zCb HR0_2); (case side2 => exact HC0_2.out); rintro e w43 ⟨v267, rfl, ho0, hb⟩; refine ⟨_, rfl, ?_⟩; have HO268 := Aside0.mk (Kd.R_lower (Kd.R_new' (Kd.R_new' (Kd.R_new' (Kd.R_new' ho0 (Kd.R_lt (zR HO249))) (Kd.R_lt (zR HO252))) (Kd.R_lt (zR HO258))) (Kd.R_lt (zR HO262))) (below_size zb)); replace HO249 := Aside0.mk (Kd.R_elder' (zR HO249) (Kd.R_base ho0) hb); replace HO252 := Aside0.mk (Kd.R_elder' (zR HO252) (Kd.R_base ho0) hb); replace HO258 := Aside0.mk (Kd.R_elder' (zR HO258) (Kd.R_base ho0) hb); replace HO262 := Aside0.mk (Kd.R_elder' (zR HO262) (Kd.R_base ho0) hb); replace BK243 := zkb BK243 hb; replace BK259 := zkb BK259 hb; replace HB := zbs hb; (try clear hb); (try clear hb2); (try clear hk); (try clear hi); (try clear ho0); obtain ⟨Ao44, co44, eo44⟩ := Kd.R_slice HO268.out; (first | subst eo44 | (injection eo44 with f1_ f2_ f3_; have f4_ := f1_.symm; have f5_ := f3_.symm; clear f1_ f2_ f3_; subst f4_; subst f5_)); refine hK.out _ _ ⟨zq BK259 0, zq BK259 1, zq BK259 2, zq BK243 0, zq BK243 1, zq BK243 2⟩ (fun hHeld => ?_); clear hK K; refine norm_ (a' := ?_) ?_ ?_; rotate_left
            · show Act.put _ (some 35) _ = _
              simp only [Act.put, List.setIfInBounds_toArray, List.set_cons_zero, List.set_cons_succ, i64_w, i32_w]; rfl
            refine one_ (i := 3) (N := some 36) #[true, true, true, true, false] rfl rfl (by kernel_rfl) (by decide) (fun K hK => ?_); refine goes_ Tryd.func11 (by kernel_rfl) rfl #[.agg #[.int .i64 t254, .int .i64 t255, .slice Ao37 t256.length co37], .agg #[.int .i64 t264, .int .i64 t265, .slice Ao44 t266.length co44]] (by rfl) rfl rfl zm ?_
            with_reducible refine (laws_eqLand.calls k t254 t255 _ _ t256 t264 t265 _ _ t266 true _ ?side1 ?side2 ?side3 ?side4 A18.out).mono ?_
            (case side1 => exact zCx (Kd.R_reads' HO258.out).2.2); (case side2 => exact (Kd.R_reads' HO258.out).2.1); (case side3 => exact zCx (Kd.R_reads' HO268.out).2.2); (case side4 => exact (Kd.R_reads' HO268.out).2.1); rintro e w45 ⟨rfl, hb⟩; refine ⟨_, rfl, ?_⟩; replace HO249 := zRb HO249 hb; replace HO252 := zRb HO252 hb; replace HO258 := zRb HO258 hb; replace HO262 := zRb HO262 hb; replace HO268 := zRb HO268 hb; replace BK243 := zkb BK243 hb; replace BK259 := zkb BK259 hb; replace HB := zbs hb; (try clear hb); (try clear hb2); (try clear hk); (try clear hi); refine hK.out _ _ ⟨zq BK259 0, zq BK259 1, zq BK259 2, zq BK243 0, zq BK243 1, zq BK243 2⟩ (fun hHeld => ?_); clear hK K; refine norm_ (a' := ?_) ?_ ?_; rotate_left
            · show Act.put _ (some 36) _ = _
              simp only [Act.put, List.setIfInBounds_toArray, List.set_cons_zero, List.set_cons_succ, i64_w, i32_w]; rfl
            refine pure_ (i := 4) (N := some 37) (v := ?_) (a' := ?_) #[true, true, true, true, true] rfl rfl (by kernel_rfl) (fun _ _ _ h => h) (Or.inl ⟨by rfl, ?_⟩) ?_ ?_; rotate_left
            · intro w'
              go_simp
              with_reducible rfl
            rotate_left
            · simp only [Act.put, List.setIfInBounds_toArray, List.set_cons_zero, List.set_cons_succ, i64_w, i32_w]; rfl
            refine done_ (by kernel_rfl) ?_
            try go_wp2_with (first | ((with_reducible refine gate_callee (f := 15) rfl ?_); refine goesL_ (some 40) rfl rfl Tryd.func15 (by kernel_rfl) rfl #[.slice A1 l1.length c1] rfl zm ?_; (with_reducible refine (laws_toIntS.calls k _ _ l1 t270 _ ?side1 ?side2 A20.out).mono ?_); (case side1 => exact zCb HR1); (case side2 => exact HC1.out); rintro e w46 ⟨v271, rfl, ho0, hb⟩; refine ⟨_, rfl, ?_⟩; have HO272 := Aside0.mk (Kd.R_lower (Kd.R_new' (Kd.R_new' (Kd.R_new' (Kd.R_new' (Kd.R_new' ho0 (Kd.R_lt (zR HO249))) (Kd.R_lt (zR HO252))) (Kd.R_lt (zR HO258))) (Kd.R_lt (zR HO262))) (Kd.R_lt (zR HO268))) (below_size zb)); replace HO249 := Aside0.mk (Kd.R_elder' (zR HO249) (Kd.R_base ho0) hb); replace HO252 := Aside0.mk (Kd.R_elder' (zR HO252) (Kd.R_base ho0) hb); replace HO258 := Aside0.mk (Kd.R_elder' (zR HO258) (Kd.R_base ho0) hb); replace HO262 := Aside0.mk (Kd.R_elder' (zR HO262) (Kd.R_base ho0) hb); replace HO268 := Aside0.mk (Kd.R_elder' (zR HO268) (Kd.R_base ho0) hb); replace BK243 := zkb BK243 hb; replace BK259 := zkb BK259 hb; replace HB := zbs hb; (try clear hb); (try clear hb2); (try clear hk); (try clear hi); (try clear ho0); obtain ⟨Ao47, co47, eo47⟩ := Kd.R_slice HO272.out; subst eo47) | ((with_reducible refine gate_callee (f := 17) rfl ?_); refine goesL_ (some 41) rfl rfl Tryd.func17 (by kernel_rfl) rfl #[.slice Ao40 t260.length co40, .slice Ao47 t270.length co47] rfl zm ?_; (with_reducible refine (laws_eqIntS.calls k _ _ t260 _ _ t270 true _ ?side1 ?side2 ?side3 ?side4 A21.out).mono ?_); (case side1 => exact zCx (Kd.R_reads' HO262.out).2.2); (case side2 => exact (Kd.R_reads' HO262.out).2.1); (case side3 => exact zCx (Kd.R_reads' HO272.out).2.2); (case side4 => exact (Kd.R_reads' HO272.out).2.1); rintro e w' ⟨rfl, ⟨nd, rfl⟩⟩; refine ⟨_, rfl, ?_⟩))
            go_ret; exact ⟨by first | rfl | (simp [errW_none, errW_some] <;> rfl) | (simp [*, errW_none, errW_some] <;> rfl), zb⟩
          · replace c22 := Bool.eq_false_iff.mpr c22; subst c22; rw [if_neg (show ¬ (false = true) by decide)] at H; obtain rfl := Option.some.inj H; exact absurd hT_ (by decide)
        · replace c19 := Bool.eq_false_iff.mpr c19; subst c19; rw [if_neg (show ¬ (false = true) by decide)] at H; obtain rfl := Option.some.inj H; exact absurd hT_ (by decide)
      · rw [if_neg c16] at H; have c16b0 : (t263.toList == t253.toList) = false := beq_eq_false_iff_ne.mpr c16; have c16b1 : (t263.toList != t253.toList) = true := bne_iff_ne.mpr c16; obtain rfl := Option.some.inj H; exact absurd hT_ (by decide)
end Go.Proofs.YtnicfhfclnmdaaaDoor.Q
