/- Contracts of the small number functions, program and reference. -/
import Derived.Test.YtfempadelilpoaaDoorKit
import Derived.Outline
namespace Go.Proofs.YtfempadelilpoaaDoor
open Go.ChangeShapes Go.WideShapes Go.ChangeAt Go.RowKit Go.Deep

@[go_sem] theorem run_f32bits (b : Nat) (w : World) : (callFunc 63 #[.float .f32 b]).run Tryd.prog w = .ok (.value (.int .u32 b)) w :=
  run_callFunc_extern (e := Extern.MathFloatBits.float32bits) Tryd.func63 (by kernel_rfl) (by kernel_rfl) (by kernel_rfl) (by kernel_rfl) _ w
@[go_sem] theorem run_f32from (n : Int) (w : World) : (callFunc 62 #[.int .u32 n]).run Tryd.prog w = .ok (.value (.float .f32 n.toNat)) w :=
  run_callFunc_extern (e := Extern.MathFloatBits.float32frombits) Tryd.func62 (by kernel_rfl) (by kernel_rfl) (by kernel_rfl) (by kernel_rfl) _ w

theorem impl_isNaN (x : Nat) (w : World) : Calls Tryd.prog 66 #[.float .f32 x] w (RetQ (.bool (isN .f32 x)) w) := by
  go_enter Tryd.func66, Tryd.ntmps66
  go_wp2
  go_ret
  exact retQ_bool0 (self_neq .f32 x) w
theorem spec_l01Bits (x : Nat) (hx : x < 4294967296) (w : World) : Calls Tryd.prog 48 #[.float .f32 x] w (RetQ (.int .i64 (bitsI x)) w) := by
  cases hn : isN .f32 x
  · have hn' : (FloatKind.f32.format.order x x != some .eq) = false := by rw [self_neq]; exact hn
    have hb := Lib.hid (bitsI_num hn)
    clear hn
    go_enter Tryd.func48, Tryd.ntmps48
    go_wp2
    go_ret
    exact retQ_int0 (by rw [hb.out]) w
  · have hn' : (FloatKind.f32.format.order x x != some .eq) = true := by rw [self_neq]; exact hn
    have hb := Lib.hid (bitsI_nan hn)
    clear hn
    go_enter Tryd.func48, Tryd.ntmps48
    go_wp2
    go_ret
    exact retQ_int0 (by rw [hb.out]) w
theorem impl_BitsOf (x : Nat) (hx : x < 4294967296) (w : World) : Calls Tryd.prog 52 #[.float .f32 x] w (RetQ (.int .i64 (bitsI x)) w) := by
  cases hn : isN .f32 x
  · have hb := Lib.hid (bitsI_num hn)
    go_enter Tryd.func52, Tryd.ntmps52
    go_wp2_with (go_at_call 66; refine (impl_isNaN _ _).mono ?_; rintro e w' ⟨rfl, n, rfl⟩)
    go_ret
    exact retQ_int (by rw [hb.out]) w _
  · have hb := Lib.hid (bitsI_nan hn)
    go_enter Tryd.func52, Tryd.ntmps52
    go_wp2_with (go_at_call 66; refine (impl_isNaN _ _).mono ?_; rintro e w' ⟨rfl, n, rfl⟩)
    go_ret
    exact retQ_int (by rw [hb.out]) w _
end Go.Proofs.YtfempadelilpoaaDoor
