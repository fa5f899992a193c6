/- Walks of 3 functions of the program: each comes to what a plain function tells. -/
import Derived.Test.YtegbddilobpeaaaG0
import Derived.Test.YtegbddilobpeaaaG1
namespace Go.Proofs.Ytegbddilobpeaaa.Q
open Go.RowKit Go.Proofs.YtegbddilobpeaaaW.PrintWords Go.Proofs.YtegbddilobpeaaaW.PrintLast Go.Proofs.YtegbddilobpeaaaW.PrintMore Go.Proofs.YtegbddilobpeaaaW.Zip
attribute [local go_sem] max2_int min2_int max_two min_two max_three min_three max_four min_four   -- for this text's walks alone
set_option linter.unusedVariables false
set_option linter.unusedSimpArgs false

attribute [local go_sem high] eqA58 eqA91 eqA140 eqA142

/-! ### impl_allIn: function 132 -/
def impl_allIn.l0 : Nat → Int → Int → List Int → Int → Int → Option (Bool)
  | 0, _, _, _, _, _ => none
  | k + 1, x1, x2, x9, x10, x11 => if x11 < x10 then (if 0 ≤ x11 then (if x11 < (x9.length : Int) then ((impl_InRange.f (rd x9 x11) x1 x2).bind fun t113 => (if t113 = true then (impl_allIn.l0 k x1 x2 x9 x10 (wrap64 (x11 + 1))) else (some false))) else (none)) else (none)) else (some true)
def impl_allIn.f (k : Nat) (l0 : List Int) (a1 : Int) (a2 : Int) : Option (Bool) := impl_allIn.l0 k a1 a2 l0 (l0.length : Int) 0
set_option maxHeartbeats 8000000 in
set_option maxRecDepth 100000 in
theorem impl_allIn.calls (k : Nat) (A0 : Option Addr) (c0 : Nat) (l0 : List Int) (a1 : Int) (a2 : Int) (r : Bool) (w : World) (hr0 : Kd.C (Kd.int .i64) w A0 l0.length l0) (hc0 : l0.length ≤ c0) (h : impl_allIn.f k l0 a1 a2 = some r) :
    Calls Try.prog 132 #[.slice A0 l0.length c0, .int .i64 a1, .int .i64 a2] w fun e w' => e = .returned (.bool r) ∧ Drawn0 w w' := by
  have HR0 := Aside0.mk hr0; have HC0 := Aside0.mk hc0; clear hr0 hc0; have H := h; clear h; unfold impl_allIn.f at H; have H' := Aside0.mk H; clear H; go_enter Try.func132, Try.ntmps132; go_wp2
  go_loopg [11] k (fun kq v11 w' => ∃ (x11_1 : Int), v11 = .int .i64 x11_1 ∧ Aside0 (impl_allIn.l0 kq a1 a2 l0 (l0.length : Int) x11_1 = some r) ∧ Aside0 (kq ≤ k) ∧ Drawn0 w w')
  case atStart => exact ⟨(0), zr, H', ⟨Nat.le_refl _⟩, by repeat (first | exact Drawn0.refl _ | apply Drawn0.step)⟩
  case round =>
    clear H'; (try clear c1); (try clear p2); obtain ⟨x11_1, rfl, HA, HK1, ⟨m1, rfl⟩⟩ := hrel
    cases gk with
    | zero => exact absurd HA.out (by simp [impl_allIn.l0])
    | succ k1 =>
      have H := HA.out; clear HA; simp only [impl_allIn.l0] at H
      by_cases c4 : x11_1 < (l0.length : Int)
      · rw [if_pos c4] at H; have c4b0 := decide_eq_true c4; clear c4; obtain ⟨c5, H⟩ := zif H; have c5b0 := decide_eq_true c5; clear c5; obtain ⟨c6, H⟩ := zif H; have c6b0 := decide_eq_true c6; clear c6; replace H := Option.bind_eq_some_iff.mp H; obtain ⟨t113, A70, H⟩ := H; have A7 := Aside0.mk A70; clear A70
        by_cases c8 : t113 = true
        · subst c8; rw [if_pos rfl] at H; have H' := Aside0.mk H; clear H; have p112 : 0 ≤ (x11_1 : Int) := zd; have q112 : x11_1 < (l0.length : Int) := zd; obtain ⟨ad112, e112, hx112_0⟩ := Kd.at_int HR0.out x11_1 p112 q112; cases e112; replace p112 := eq_true p112; replace q112 := eq_true q112
          go_wp2_with (first | ((with_reducible refine gate_callee (f := 89) rfl ?_); refine zgl 18 Try.func89 #[.int .i64 (rd l0 x11_1), .int .i64 a1, .int .i64 a2] ?_; (with_reducible refine (impl_InRange.calls (rd l0 x11_1) a1 a2 true _ A7.out).mono ?_); rintro e w' ⟨rfl, ⟨nd, rfl⟩⟩; refine ⟨_, rfl, ?_⟩))
          go_roundg k1
          case measure => have := HK1.out; omega
          case rel => exact ⟨(wrap64 (x11_1 + 1)), zr, H', ⟨by have := HK1.out; omega⟩, by repeat (first | exact Drawn0.refl _ | apply Drawn0.step)⟩
        · replace c8 := Bool.eq_false_iff.mpr c8; subst c8; rw [if_neg (show ¬ (false = true) by decide)] at H; obtain rfl := Option.some.inj H; have p112 : 0 ≤ (x11_1 : Int) := zd; have q112 : x11_1 < (l0.length : Int) := zd; obtain ⟨ad112, e112, hx112_0⟩ := Kd.at_int HR0.out x11_1 p112 q112; cases e112; replace p112 := eq_true p112; replace q112 := eq_true q112
          go_wp2_with (first | ((with_reducible refine gate_callee (f := 89) rfl ?_); refine zgl 18 Try.func89 #[.int .i64 (rd l0 x11_1), .int .i64 a1, .int .i64 a2] ?_; (with_reducible refine (impl_InRange.calls (rd l0 x11_1) a1 a2 false _ A7.out).mono ?_); rintro e w' ⟨rfl, ⟨nd, rfl⟩⟩; refine ⟨_, rfl, ?_⟩))
          go_ret; exact ⟨by first | rfl | (simp; done) | (simp [*]; done), by repeat (first | exact Drawn0.refl _ | apply Drawn0.step)⟩
      · rw [if_neg c4] at H; have c4b0 := decide_eq_false c4; clear c4; obtain rfl := Option.some.inj H; go_wp2; go_ret; exact ⟨by first | rfl | (simp; done) | (simp [*]; done), by repeat (first | exact Drawn0.refl _ | apply Drawn0.step)⟩

/-! ### impl_areWeights: function 78 -/
def impl_areWeights.f (k : Nat) (l0 : List Int) : Option (Bool) := if (l0.length : Int) ≤ 12 then ((impl_allIn.f k l0 1 100).bind fun t114 => (some t114)) else (some false)
set_option maxHeartbeats 8000000 in
set_option maxRecDepth 100000 in
theorem impl_areWeights.calls (k : Nat) (A0 : Option Addr) (c0 : Nat) (l0 : List Int) (r : Bool) (w : World) (hr0 : Kd.C (Kd.int .i64) w A0 l0.length l0) (hc0 : l0.length ≤ c0) (h : impl_areWeights.f k l0 = some r) :
    Calls Try.prog 78 #[.slice A0 l0.length c0] w fun e w' => e = .returned (.bool r) ∧ Drawn0 w w' := by
  have HR0 := Aside0.mk hr0; have HC0 := Aside0.mk hc0; clear hr0 hc0; have H := h; clear h; unfold impl_areWeights.f at H
  by_cases c2 : (l0.length : Int) ≤ 12
  · rw [if_pos c2] at H; have c2b0 := decide_eq_true c2; have c2b1 : decide (l0.length ≤ 12) = true := decide_eq_true (by omega); clear c2; replace H := Option.bind_eq_some_iff.mp H; obtain ⟨t114, A30, H⟩ := H; have A3 := Aside0.mk A30; clear A30; obtain rfl := Option.some.inj H; go_enter Try.func78, Try.ntmps78
    go_wp2_with (first | (go_at_call 132; (with_reducible refine (impl_allIn.calls k _ _ l0 1 100 t114 _ ?side1 ?side2 A3.out).mono ?_); (case side1 => exact zCx HR0.out); (case side2 => exact HC0.out); rintro e w' ⟨rfl, ⟨nd, rfl⟩⟩))
    go_ret; exact ⟨by first | rfl | (simp; done) | (simp [*]; done), by repeat (first | exact Drawn0.refl _ | apply Drawn0.step)⟩
  · rw [if_neg c2] at H; have c2b0 := decide_eq_false c2; have c2b1 : decide (l0.length ≤ 12) = false := decide_eq_false (by omega); clear c2; obtain rfl := Option.some.inj H; go_enter Try.func78, Try.ntmps78; go_wp2; go_ret; exact ⟨by first | rfl | (simp; done) | (simp [*]; done), by repeat (first | exact Drawn0.refl _ | apply Drawn0.step)⟩

/-! ### impl_CanReach: function 20 -/
open Go.Proofs.YtegbddilobpeaaaW.Sets
def reachS : (Int → Bool) → List Int → Int → Bool
  | S, [], x => S x
  | S, v :: t, x => reachS (fun y => S y || S (y - v)) t x
def impl_CanReach.f (k : Nat) (l0 : List Int) (a1 : Int) : Option (Bool) := (impl_areWeights.f k l0).bind fun b => if b = true then (if l0.length ≤ 12 ∧ (∀ v ∈ l0, 1 ≤ v ∧ v ≤ 100) ∧ wrap64 a1 = a1 then some (reachS (fun x => x == 0) l0 a1) else none) else some false
theorem reach_key : Maps.Keyed Try.prog 3 := Maps.int_keyed Try.underlying3
theorem reach_wf (x : Int) (h0 : -10000 ≤ x) (h1 : x ≤ 10000) : (Lit.int .i64 x).wf = true := by
  simp only [Lit.wf, IntKind.min, IntKind.max, IntKind.signed, IntKind.bits, if_true, decide_eq_true_eq, Bool.and_eq_true]
  omega
theorem reach_mem (l : List Int) (i : Nat) (h : i < l.length) : rd l (i : Int) ∈ l := by
  unfold rd; rw [Int.toNat_natCast, List.getD_eq_getElem?_getD, List.getElem?_eq_getElem h]; exact List.getElem_mem h
set_option maxHeartbeats 8000000 in
set_option maxRecDepth 100000 in
theorem impl_CanReach.calls (k : Nat) (A0 : Option Addr) (c0 : Nat) (l0 : List Int) (a1 : Int) (r : Bool) (w : World) (hr0 : Kd.C (Kd.int .i64) w A0 l0.length l0) (hc0 : l0.length ≤ c0) (h : impl_CanReach.f k l0 a1 = some r) :
    Calls Try.prog 20 #[.slice A0 l0.length c0, .int .i64 a1] w fun e w' => e = .returned (.bool r) ∧ Below w.heap.size w w' := by
  have HR0 := Aside0.mk hr0; have HC0 := Aside0.mk hc0; clear hr0 hc0; have HB := Aside0.mk (Below.refl w.heap.size w); have H := h; clear h; unfold impl_CanReach.f at H; replace H := Option.bind_eq_some_iff.mp H; obtain ⟨t1, A20, H⟩ := H; have A2 := Aside0.mk A20; clear A20
  by_cases c3 : t1 = true
  · subst c3; rw [if_pos rfl] at H
    by_cases c4 : l0.length ≤ 12 ∧ (∀ v ∈ l0, 1 ≤ v ∧ v ≤ 100) ∧ wrap64 a1 = a1
    · rw [if_pos c4] at H; have H' := Aside0.mk (Option.some.inj H); clear H; have C4 := Aside0.mk c4; clear c4
      have hmm := @run_makeMap Try.prog
      go_enter Try.func20, Try.ntmps20
      go_wp2_with (first | ((with_reducible refine gate_callee (f := 78) rfl ?_); refine zgl 11 Try.func78 #[.slice A0 l0.length c0] ?_; (with_reducible refine (impl_areWeights.calls k _ _ l0 true _ ?side1 ?side2 A2.out).mono ?_); (case side1 => exact zCx HR0.out); (case side2 => exact HC0.out); rintro e w' ⟨rfl, ⟨nd, rfl⟩⟩; refine ⟨_, rfl, ?_⟩) | (refine wpList_insert_own (H := Unit) _ rfl _ _ _ 100 rfl 3 4 reach_key Try.underlying100 (plainElem Try.prog 4) _ 0 (.map []) rfl (World.ownsMap_made _ _ _ _) (by decide) _ _ _ rfl rfl (Maps.keyOf_int_mk Try.underlying3 (by decide)) _ [] (plainElem_bool Try.underlying4 true) ?_; intro w1 hown1 hgr1) | go_in)
      have HB1 : Below w.heap.size w w1 := (show Below w.heap.size w _ from zb).grown hgr1 (by simp) (fun j hj => by cases hj; simp)
      have hz0 : ∀ x : Int, (x == 0) = true → 0 ≤ x ∧ x ≤ 100 * ((0 : Nat) : Int) := fun x hx => by
        have e : x = 0 := by simpa using hx
        omega
      go_loopw [5, 17] (fun v5 v17 wr => ∃ (i B n : Nat) (D : DataW Unit) (S : Int → Bool), i ≤ l0.length ∧ v5 = .map (some B) ∧ v17 = .int .i64 (i : Int) ∧ Aside0 (wr.ownsMap Try.prog 3 (plainElem Try.prog 4) B n D) ∧ Aside0 (n ≤ 2 ^ i) ∧ Aside0 (w.heap.size ≤ B) ∧ Aside0 (EL D S) ∧ Aside0 (∀ x, S x = true → 0 ≤ x ∧ x ≤ 100 * (i : Int)) ∧ Aside0 (reachS S (l0.drop i) a1 = r) ∧ Aside0 (Below w.heap.size w wr)) (fun _ v17 _ => l0.length - (intOf v17).toNat)
      case atStart => exact ⟨0, _, 1, _, _, Nat.zero_le _, rfl, rfl, ⟨hown1⟩, ⟨by decide⟩, ⟨by simp⟩, ⟨el_congr (S' := fun x => x == 0) (el_put el_empty (by decide)) (fun x => by simp)⟩, ⟨hz0⟩, H', ⟨HB1⟩⟩
      case round =>
        clear H' HB; obtain ⟨i, B, n, D, S, hi, rfl, rfl, hown, hn, hB, hS, hbd, hr, HB⟩ := hrel
        obtain ⟨h12, hvs, hwa⟩ := C4.out
        have hwf1 : (Lit.int .i64 a1).wf = true := by have := wrap64_wf a1; rw [hwa] at this; exact this
        clear hwa
        have h2i : 2 ^ i ≤ 4096 := Nat.pow_le_pow_right (n := 2) (by omega) (show i ≤ 12 by omega)
        have hsw : ∀ x, S x = true → (Lit.int .i64 x).wf = true := fun x hx => by have := hbd.out x hx; exact reach_wf x (by omega) (by omega)
        have HSW := Aside0.mk hsw; clear hsw
        by_cases hlt : i < l0.length
        · have c3b0 : decide ((i : Int) < (l0.length : Int)) = true := decide_eq_true (by omega)
          obtain ⟨ad, e_, hx⟩ := Kd.at_int HR0.out (i : Int) (by omega) (by omega); cases e_; replace hx := (HB.out.cell (World.block_lt_of_cell? w _ hx)).trans hx; simp only [Int.toNat_natCast] at hx
          have p1 := eq_true (show 0 ≤ (i : Int) by omega); have q1 := eq_true (show (i : Int) < (l0.length : Int) by omega)
          have e1 : (wr.alloc (.map #[] 0)).heap.size = wr.heap.size + 1 := by simp
          go_wp2_with (first | (at_range; refine wpList_range_own (H := Unit) _ rfl _ 100 rfl 3 4 reach_key Try.underlying100 (plainElem Try.prog 4) B n D rfl (hown.out.alloc _) ?_; intro w0 hrg0 hg0 hs0) | go_in)
          (try go_frame)
          rw [e1] at hrg0 hs0 ⊢
          have hv := hvs (rd l0 (i : Int)) (reach_mem l0 i hlt)
          obtain ⟨v, ev⟩ : ∃ v, v = rd l0 (i : Int) := ⟨_, rfl⟩
          rw [← ev] at hv hx ⊢
          have EV := Aside0.mk ev; clear ev
          have hsz := hown.out.size_le
          have hlB := hown.out.lt
          have hBw : Below w.heap.size w w0 := (HB.out.alloc HB.out.size _).grown hg0 (by have := HB.out.size; simp; omega) (fun j hj => by cases hj)
          have hv0 := Aside0.mk (show w0.ownsMap Try.prog 3 (plainElem (H := Unit) Try.prog 4) wr.heap.size 0 (.map []) from (World.ownsMap_made _ _ _ _).kept hg0 (by simp))
          have hMw := HB.out.size
          obtain ⟨M, hM⟩ : ∃ M, M = wr.heap.size := ⟨_, rfl⟩
          rw [← hM] at hrg0 hv0 hlB hMw ⊢
          clear hM
          go_loopw [9] (fun _ wq => ∃ (left : Lit → Bool) (cnt n2 : Nat) (D2 : DataW Unit), Aside0 (wq.ranges Try.prog 3 (plainElem Try.prog 4) B (M + 1) n D left cnt) ∧ Aside0 (wq.ownsMap Try.prog 3 (plainElem Try.prog 4) M n2 D2) ∧ Aside0 (n2 + 2 * cnt ≤ 2 * n) ∧ Aside0 (EL D2 (Gone S left v)) ∧ Aside0 (Below w.heap.size w wq)) (fun _ wq => wq.rangeLeft B (M + 1))
          case atStart => exact ⟨_, _, 0, .map [], ⟨hrg0⟩, hv0, ⟨by omega⟩, ⟨el_congr el_empty (fun z => (gone_start hS.out HSW.out v z).symm)⟩, ⟨hBw⟩⟩
          case round =>
            obtain ⟨left, cnt, n2, D2, hrg, hout, hn2, hE, hBq⟩ := hrel
            go_wp2_with (first | (at_next; refine wpList_next_ranges_ib _ rfl _ rfl 3 reach_key (plainElem (H := Unit) Try.prog 4) Try.underlying3 B (M + 1) n _ _ _ rfl hrg.out ?_ ?_) | go_in)
            · intro hc0 hl0
              go_wp2
              go_roundw
              case rel => exact ⟨i + 1, M, n2, D2, fun y => S y || S (y - v), by omega, rfl, rfl, ⟨hout.out⟩, ⟨by have := hn.out; have := hn2.out; rw [Nat.pow_succ]; omega⟩, ⟨hMw⟩, ⟨el_congr hE.out (fun z => gone_end S left hl0 v z)⟩, ⟨fun x hx => by
                have hbd := hbd.out
                rcases (Bool.or_eq_true _ _).mp hx with h | h
                · have := hbd _ h; omega
                · have := hbd _ h; omega⟩, ⟨by rw [← hr.out, List.drop_eq_getElem_cons hlt, reachS, EV.out]; congr 2; funext y; unfold rd; rw [Int.toNat_natCast, List.getD_eq_getElem?_getD, List.getElem?_eq_getElem hlt]; rfl⟩, hBq⟩
              case measure => simp [intOf]; omega
            · intro x c yd wa cnt1 hwx hlx hat hrg1 hlt1 hg1 hs1 hen
              have hSx := el_in hS.out hwx hat
              have hb1 := hbd.out x hSx
              have hw2 : wrap64 (x + v) = x + v := by unfold wrap64; omega
              have hwf2 : (Lit.int .i64 (x + v)).wf = true := reach_wf _ (by omega) (by omega)
              have hout1 := hout.out.kept hg1 (by simp)
              have hn4 : n2 + 2 < maxLen := by have := hn2.out; have := hn.out; unfold maxLen; omega
              go_wp2_with (first | (at_mapUpdate; refine wpList_mapUpdate_own (H := Unit) _ rfl (.tmp 28) (.tmp 29) _ 100 rfl 3 4 reach_key Try.underlying100 (plainElem Try.prog 4) M n2 D2 rfl hout1 (by omega) _ _ _ rfl rfl (Maps.keyOf_int_mk Try.underlying3 hwx) _ [] (plainElem_bool Try.underlying4 true) ?_; intro w2 hout2 hg2; go_frame) | (at_mapUpdate; refine wpList_mapUpdate_own (H := Unit) _ rfl (.tmp 30) (.tmp 33) _ 100 rfl 3 4 reach_key Try.underlying100 (plainElem Try.prog 4) M (n2 + 1) _ rfl hout2 (by omega) _ _ _ rfl rfl (by first | exact Maps.keyOf_int_mk Try.underlying3 hwf2 | (rw [hw2]; exact Maps.keyOf_int_mk Try.underlying3 hwf2)) _ [] (plainElem_bool Try.underlying4 true) ?_; intro w3 hout3 hg3; go_frame) | go_in)
              have hrg2 := (hrg1.kept hg2 (fun e => by have := Option.some.inj e; omega) (fun e => by have := Option.some.inj e; omega)).kept hg3 (fun e => by have := Option.some.inj e; omega) (fun e => by have := Option.some.inj e; omega)
              go_roundw
              case rel => exact ⟨_, cnt1, n2 + 2, _, ⟨hrg2⟩, ⟨hout3⟩, ⟨by have := hn2.out; omega⟩, ⟨el_congr (el_put (el_put hE.out hwx) hwf2) (fun z => gone_step S left v x hSx z)⟩, ⟨((hBq.out.grown hg1 hBq.out.size (fun j hj => by cases hj; omega)).grown hg2 (by have := hBq.out.size; omega) (fun j hj => by cases hj; omega)).grown hg3 (by have := hBq.out.size; have := hg2.size; omega) (fun j hj => by cases hj; omega)⟩⟩
              case measure => rw [hrg2.left_eq, hrg.out.left_eq]; exact hlt1
        · have c3b0 : decide ((i : Int) < (l0.length : Int)) = false := decide_eq_false (by omega)
          have hil : i = l0.length := by omega
          have e0 : S a1 = r := by rw [← hr.out, hil, List.drop_length]; rfl
          go_wp2_with (first | (at_lookup; refine wpList_lookup_own_bool (H := Unit) _ rfl _ _ 100 rfl 3 4 reach_key Try.underlying100 Try.underlying4 (by kernel_rfl) B n D rfl hown.out _ _ rfl (Maps.keyOf_int_mk Try.underlying3 hwf1) ?_; intro c hc) | go_in)
          go_ret
          have e2 := (hS.out.2 a1 hwf1 (.lit (.bool false))).symm.trans hc
          have e3 : c = r := by
            rw [e0] at e2
            cases r <;> cases c <;> simp_all
          exact ⟨by rw [e3]; rfl, HB.out⟩
    · rw [if_neg c4] at H; cases H
  · rw [if_neg c3] at H; obtain rfl := Option.some.inj H
    have c3' : t1 = false := by cases t1 <;> simp_all
    subst c3'
    go_enter Try.func20, Try.ntmps20
    go_wp2_with (first | ((with_reducible refine gate_callee (f := 78) rfl ?_); refine zgl 11 Try.func78 #[.slice A0 l0.length c0] ?_; (with_reducible refine (impl_areWeights.calls k _ _ l0 false _ ?side1 ?side2 A2.out).mono ?_); (case side1 => exact zCx HR0.out); (case side2 => exact HC0.out); rintro e w' ⟨rfl, ⟨nd, rfl⟩⟩; refine ⟨_, rfl, ?_⟩))
    go_ret; exact ⟨rfl, zb⟩
end Go.Proofs.Ytegbddilobpeaaa.Q
