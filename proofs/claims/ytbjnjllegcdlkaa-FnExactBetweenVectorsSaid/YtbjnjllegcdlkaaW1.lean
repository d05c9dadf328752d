/- Contracts of the small number functions, program and reference. -/
import Derived.Test.YtbjnjllegcdlkaaKit
import Derived.Outline
namespace Go.Proofs.Ytbjnjllegcdlkaa
open Go.ChangeShapes Go.WideShapes Go.ChangeAt Go.RowKit Go.Deep

@[go_sem] theorem run_f32bits (b : Nat) (w : World) : (callFunc 50 #[.float .f32 b]).run Try.prog w = .ok (.value (.int .u32 b)) w :=
  run_callFunc_extern (e := Extern.MathFloatBits.float32bits) Try.func50 (by kernel_rfl) (by kernel_rfl) (by kernel_rfl) (by kernel_rfl) _ w
@[go_sem] theorem run_f32from (n : Int) (w : World) : (callFunc 49 #[.int .u32 n]).run Try.prog w = .ok (.value (.float .f32 n.toNat)) w :=
  run_callFunc_extern (e := Extern.MathFloatBits.float32frombits) Try.func49 (by kernel_rfl) (by kernel_rfl) (by kernel_rfl) (by kernel_rfl) _ w

theorem impl_isNaN (x : Nat) (w : World) : Calls Try.prog 52 #[.float .f32 x] w (RetQ (.bool (isN .f32 x)) w) := by
  go_enter Try.func52, Try.ntmps52
  go_wp2
  go_ret
  exact retQ_bool0 (self_neq .f32 x) w
theorem spec_l01Bits (x : Nat) (hx : x < 4294967296) (w : World) : Calls Try.prog 69 #[.float .f32 x] w (RetQ (.int .i64 (bitsI x)) w) := by
  cases hn : isN .f32 x
  · have hn' : (FloatKind.f32.format.order x x != some .eq) = false := by rw [self_neq]; exact hn
    have hb := Lib.hid (bitsI_num hn)
    clear hn
    go_enter Try.func69, Try.ntmps69
    go_wp2
    go_ret
    exact retQ_int0 (by rw [hb.out]) w
  · have hn' : (FloatKind.f32.format.order x x != some .eq) = true := by rw [self_neq]; exact hn
    have hb := Lib.hid (bitsI_nan hn)
    clear hn
    go_enter Try.func69, Try.ntmps69
    go_wp2
    go_ret
    exact retQ_int0 (by rw [hb.out]) w
end Go.Proofs.Ytbjnjllegcdlkaa
