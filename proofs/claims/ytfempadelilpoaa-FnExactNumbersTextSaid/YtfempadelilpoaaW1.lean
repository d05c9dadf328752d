/- Contracts of the small number functions, program and reference. -/
import Derived.Test.YtfempadelilpoaaKit
import Derived.Outline
namespace Go.Proofs.Ytfempadelilpoaa
open Go.ChangeShapes Go.WideShapes Go.ChangeAt Go.RowKit Go.Deep

@[go_sem] theorem run_f32bits (b : Nat) (w : World) : (callFunc 16 #[.float .f32 b]).run Try.prog w = .ok (.value (.int .u32 b)) w :=
  run_callFunc_extern (e := Extern.MathFloatBits.float32bits) Try.func16 (by kernel_rfl) (by kernel_rfl) (by kernel_rfl) (by kernel_rfl) _ w

theorem impl_isNaN (x : Nat) (w : World) : Calls Try.prog 15 #[.float .f32 x] w (RetQ (.bool (isN .f32 x)) w) := by
  go_enter Try.func15, Try.ntmps15
  go_wp2
  go_ret
  exact retQ_bool0 (self_neq .f32 x) w
theorem spec_l01Bits (x : Nat) (hx : x < 4294967296) (w : World) : Calls Try.prog 18 #[.float .f32 x] w (RetQ (.int .i64 (bitsI x)) w) := by
  cases hn : isN .f32 x
  · have hn' : (FloatKind.f32.format.order x x != some .eq) = false := by rw [self_neq]; exact hn
    have hb := Lib.hid (bitsI_num hn)
    clear hn
    go_enter Try.func18, Try.ntmps18
    go_wp2
    go_ret
    exact retQ_int0 (by rw [hb.out]) w
  · have hn' : (FloatKind.f32.format.order x x != some .eq) = true := by rw [self_neq]; exact hn
    have hb := Lib.hid (bitsI_nan hn)
    clear hn
    go_enter Try.func18, Try.ntmps18
    go_wp2
    go_ret
    exact retQ_int0 (by rw [hb.out]) w
theorem impl_BitsOf (x : Nat) (hx : x < 4294967296) (w : World) : Calls Try.prog 11 #[.float .f32 x] w (RetQ (.int .i64 (bitsI x)) w) := by
  cases hn : isN .f32 x
  · have hb := Lib.hid (bitsI_num hn)
    go_enter Try.func11, Try.ntmps11
    go_wp2_with (go_at_call 15; refine (impl_isNaN _ _).mono ?_; rintro e w' ⟨rfl, n, rfl⟩)
    go_ret
    exact retQ_int (by rw [hb.out]) w _
  · have hb := Lib.hid (bitsI_nan hn)
    go_enter Try.func11, Try.ntmps11
    go_wp2_with (go_at_call 15; refine (impl_isNaN _ _).mono ?_; rintro e w' ⟨rfl, n, rfl⟩)
    go_ret
    exact retQ_int (by rw [hb.out]) w _
end Go.Proofs.Ytfempadelilpoaa
