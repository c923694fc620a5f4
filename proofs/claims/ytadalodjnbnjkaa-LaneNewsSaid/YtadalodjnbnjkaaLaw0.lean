/- The statements' own small functions. -/
import Derived.Test.YtadalodjnbnjkaaNew3
namespace Go.Proofs.Ytadalodjnbnjkaa
open Go.RowKit Go.Conc

theorem num_any (x : Int) (w : World) : Calls Try.prog 13 #[.int .i64 x] w fun e w' => e = .returned (.int .i64 x) ∧ w = w' := by
  go_enter Try.func13, Try.ntmps13
  go_wp2
  go_ret
  exact ⟨rfl, rfl⟩
theorem New_nil_1 (w : World) : Calls Try.prog 12 #[.int .i64 1, .slice none 0 0] w (Newed w 1 []) := New_nil w 1 (by omega) (by omega)
theorem New_nil_2 (w : World) : Calls Try.prog 12 #[.int .i64 2, .slice none 0 0] w (Newed w 2 []) := New_nil w 2 (by omega) (by omega)
theorem New_nil_8 (w : World) : Calls Try.prog 12 #[.int .i64 8, .slice none 0 0] w (Newed w 8 []) := New_nil w 8 (by omega) (by omega)
end Go.Proofs.Ytadalodjnbnjkaa
