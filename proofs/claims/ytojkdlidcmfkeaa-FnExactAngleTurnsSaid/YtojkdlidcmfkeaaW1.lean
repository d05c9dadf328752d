/- Contracts of the small number functions, program and reference. -/
import Derived.Test.YtojkdlidcmfkeaaKit
import Derived.Outline
namespace Go.Proofs.Ytojkdlidcmfkeaa
open Go.ChangeShapes Go.WideShapes Go.ChangeAt Go.RowKit Go.Deep

@[go_sem] theorem run_f32bits (b : Nat) (w : World) : (callFunc 69 #[.float .f32 b]).run Try.prog w = .ok (.value (.int .u32 b)) w :=
  run_callFunc_extern (e := Extern.MathFloatBits.float32bits) Try.func69 (by kernel_rfl) (by kernel_rfl) (by kernel_rfl) (by kernel_rfl) _ w
@[go_sem] theorem run_f32from (n : Int) (w : World) : (callFunc 68 #[.int .u32 n]).run Try.prog w = .ok (.value (.float .f32 n.toNat)) w :=
  run_callFunc_extern (e := Extern.MathFloatBits.float32frombits) Try.func68 (by kernel_rfl) (by kernel_rfl) (by kernel_rfl) (by kernel_rfl) _ w

theorem spec_l01Finite (x : Nat) (w : World) : Calls Try.prog 38 #[.float .f32 x] w (RetQ (.bool (finB x)) w) := by
  go_enter Try.func38, Try.ntmps38
  go_wp2
  go_ret
  exact retQ_bool (finB_of x _ _) w _
theorem impl_IsFinite (x : Nat) (w : World) : Calls Try.prog 41 #[.float .f32 x] w (RetQ (.bool (finB x)) w) := by
  go_enter Try.func41, Try.ntmps41
  go_wp2
  go_ret
  exact retQ_bool (finB_of x _ _) w _
end Go.Proofs.Ytojkdlidcmfkeaa
