/- The laws on single numbers: the walks. -/
import Derived.Test.YtifpcphcojnhpaaWk1
namespace Go.Proofs.Ytifpcphcojnhpaa
open Fl Go.RowKit

theorem law_Constants (w : World) : Calls Try.prog 3 #[] w (Ret (.bool true) w) := by
  go_enter Try.func3, Try.ntmps3
  go_wp2
  go_ret
  exact .mk' 0 rfl rfl

theorem law_IsFinite (b : Nat) (w : World) : Calls Try.prog 4 #[.float .f32 b] w (Ret (.bool true) w) := by
  go_enter Try.func4, Try.ntmps4
  go_wp2_with (first | (go_at_call 10; refine (spec_IsFinite _ _).mono ?_; rintro e w' ⟨rfl, n, rfl⟩) | (go_at_call 11; refine (impl_IsFinite _ _).mono ?_; rintro e w' ⟨rfl, n, rfl⟩))
  go_ret
  exact .mk' _ rfl rfl

theorem law_BitsOf (b : Nat) (hw : W32 b) (w : World) : Calls Try.prog 6 #[.float .f32 b] w (Ret (.bool true) w) := by
  go_enter Try.func6, Try.ntmps6
  go_wp2_with (first | (go_at_call 15; refine (spec_BitsOf _ hw _).mono ?_; rintro e w' ⟨rfl, n, rfl⟩) | (go_at_call 16; refine (impl_BitsOf _ hw _).mono ?_; rintro e w' ⟨rfl, n, rfl⟩))
  go_ret
  exact .mk' _ rfl rfl

theorem law_IsSubnormal (b : Nat) (hw : W32 b) (w : World) : Calls Try.prog 7 #[.float .f32 b] w (Ret (.bool true) w) := by
  go_enter Try.func7, Try.ntmps7
  go_wp2_with (first | (go_at_call 17; refine (spec_IsSubnormal _ hw _).mono ?_; rintro e w' ⟨rfl, n, rfl⟩) | (go_at_call 18; refine (impl_IsSubnormal _ hw _).mono ?_; rintro e w' ⟨rfl, n, rfl⟩))
  go_ret
  exact .mk' _ rfl rfl

theorem law_SameNumber (a b : Nat) (ha : W32 a) (hb : W32 b) (w : World) : Calls Try.prog 8 #[.float .f32 a, .float .f32 b] w (Ret (.bool true) w) := by
  go_enter Try.func8, Try.ntmps8
  go_wp2_with (first | (go_at_call 19; refine (spec_SameNumber _ _ ha hb _).mono ?_; rintro e w' ⟨rfl, n, rfl⟩) | (go_at_call 20; refine (impl_SameNumber _ _ ha hb _).mono ?_; rintro e w' ⟨rfl, n, rfl⟩))
  go_ret
  exact .mk' _ rfl rfl

end Go.Proofs.Ytifpcphcojnhpaa
