/- Walks of 1 functions of the program: each comes to what a plain function tells. -/
import Derived.Test.YtcokbhkjfdddkaaG0
import Derived.Test.YtcokbhkjfdddkaaG16
import Derived.Test.YtcokbhkjfdddkaaG25
namespace Go.Proofs.Ytcokbhkjfdddkaa.Q
open Go.RowKit Go.Proofs.YtcokbhkjfdddkaaW.PrintWords Go.Proofs.YtcokbhkjfdddkaaW.PrintLast Go.Proofs.YtcokbhkjfdddkaaW.PrintMore Go.Proofs.YtcokbhkjfdddkaaW.Zip
attribute [local go_sem] max2_int min2_int max_two min_two max_three min_three max_four min_four   -- for this text's walks alone
set_option linter.unusedVariables false
set_option linter.unusedSimpArgs false

/-! ### impl_Lose: function 70 -/
def impl_Lose.f (k : Nat) (l0 : List (S108)) (a1 : Int) (a2 : Int) : Option ((List (S108)) × Bool) := (impl_outOf.f k l0 a1).bind fun t761 => ((impl_changed.f k l0 a1 a2 t761 (wrap64 (-a2)) (wrap64 (-a2))).bind fun bt762 => (some (bt762.1, bt762.2)))
set_option maxHeartbeats 8000000 in
set_option maxRecDepth 100000 in
theorem impl_Lose.calls (k : Nat) (A0 : Option Addr) (c0 : Nat) (l0 : List (S108)) (a1 : Int) (a2 : Int) (r1 : List (S108)) (r2 : Bool) (w : World) (hr0 : Kd.C k108 w A0 l0.length l0) (hc0 : l0.length ≤ c0) (h : impl_Lose.f k l0 a1 a2 = some (r1, r2)) :
    Calls Try.prog 70 #[.slice A0 l0.length c0, .int .i64 a1, .int .i64 a2] w fun e w' => ∃ v0_ : Value, e = .returned (.tuple #[v0_, .bool r2]) ∧ Kd.R k108 108 w' w.heap.size (fun _ => True) v0_ r1 ∧ Below w.heap.size w w' := by
  have HR0 := Aside0.mk hr0; have HC0 := Aside0.mk hc0; clear hr0 hc0; have HB := Aside0.mk (Below.refl w.heap.size w); have H := h; clear h; unfold impl_Lose.f at H; replace H := Option.bind_eq_some_iff.mp H; obtain ⟨t761, A40, H⟩ := H; have A4 := Aside0.mk A40; clear A40; replace H := Option.bind_eq_some_iff.mp H; obtain ⟨⟨t762, t763⟩, A50, H⟩ := H; have A5 := Aside0.mk A50; clear A50; simp only [Option.some.injEq, Prod.mk.injEq] at H; obtain ⟨rfl, rfl⟩ := H; go_enter Try.func70, Try.ntmps70
  go_wp2_with (first | ((with_reducible refine gate_callee (f := 129) rfl ?_); refine zgl 13 Try.func129 #[.slice A0 l0.length c0, .int .i64 a1] ?_; (with_reducible refine (impl_outOf.calls k _ _ l0 a1 t761 _ ?side1 ?side2 A4.out).mono ?_); (case side1 => exact zCx HR0.out); (case side2 => exact HC0.out); rintro e w6 ⟨rfl, hb⟩; refine ⟨_, rfl, ?_⟩; replace HB := zbs hb; (try clear hb); (try clear hb2); (try clear hk); (try clear hi)) | ((with_reducible refine gate_callee (f := 128) rfl ?_); refine zgl 18 Try.func128 #[.slice A0 l0.length c0, .int .i64 a1, .int .i64 a2, .int .i64 t761, .int .i64 (wrap64 (-a2)), .int .i64 (wrap64 (-a2))] ?_; (with_reducible refine (impl_changed.calls k _ _ l0 a1 a2 t761 (wrap64 (-a2)) (wrap64 (-a2)) t762 t763 _ ?side1 ?side2 A5.out).mono ?_); (case side1 => exact zCb HR0); (case side2 => exact HC0.out); rintro e w7 ⟨v764, rfl, ho0, hb⟩; refine ⟨_, rfl, ?_⟩; have HO765 := Aside0.mk (Kd.R_lower ho0 (below_size zb)); replace HB := zbs hb; (try clear hb); (try clear hb2); (try clear hk); (try clear hi); (try clear ho0)))
  go_ret2; exact ⟨_, by first | rfl | (simp [errW_none, errW_some] <;> rfl) | (simp [*, errW_none, errW_some] <;> rfl), zR HO765, zb⟩
end Go.Proofs.Ytcokbhkjfdddkaa.Q
