/- Contracts of the small number functions, program and reference. -/
import Derived.Test.YtlhgaihfghobmaaKit
import Derived.Outline
namespace Go.Proofs.Ytlhgaihfghobmaa
open Go.ChangeShapes Go.WideShapes Go.ChangeAt Go.RowKit Go.Deep

@[go_sem] theorem run_f32bits (b : Nat) (w : World) : (callFunc 167 #[.float .f32 b]).run Try.prog w = .ok (.value (.int .u32 b)) w :=
  run_callFunc_extern (e := Extern.MathFloatBits.float32bits) Try.func167 (by kernel_rfl) (by kernel_rfl) (by kernel_rfl) (by kernel_rfl) _ w
@[go_sem] theorem run_f32from (n : Int) (w : World) : (callFunc 166 #[.int .u32 n]).run Try.prog w = .ok (.value (.float .f32 n.toNat)) w :=
  run_callFunc_extern (e := Extern.MathFloatBits.float32frombits) Try.func166 (by kernel_rfl) (by kernel_rfl) (by kernel_rfl) (by kernel_rfl) _ w

theorem spec_l01Finite (x : Nat) (w : World) : Calls Try.prog 158 #[.float .f32 x] w (RetQ (.bool (finB x)) w) := by
  go_enter Try.func158, Try.ntmps158
  go_wp2
  go_ret
  exact retQ_bool (finB_of x _ _) w _
theorem impl_IsFinite (x : Nat) (w : World) : Calls Try.prog 159 #[.float .f32 x] w (RetQ (.bool (finB x)) w) := by
  go_enter Try.func159, Try.ntmps159
  go_wp2
  go_ret
  exact retQ_bool (finB_of x _ _) w _
end Go.Proofs.Ytlhgaihfghobmaa
