/- Contracts of the small number functions, program and reference. -/
import Derived.Test.YtkmlfofndahdfaaKit
import Derived.Outline
namespace Go.Proofs.Ytkmlfofndahdfaa
open Go.ChangeShapes Go.WideShapes Go.ChangeAt Go.RowKit Go.Deep

@[go_sem] theorem run_f32bits (b : Nat) (w : World) : (callFunc 45 #[.float .f32 b]).run Try.prog w = .ok (.value (.int .u32 b)) w :=
  run_callFunc_extern (e := Extern.MathFloatBits.float32bits) Try.func45 (by kernel_rfl) (by kernel_rfl) (by kernel_rfl) (by kernel_rfl) _ w
@[go_sem] theorem run_f32from (n : Int) (w : World) : (callFunc 52 #[.int .u32 n]).run Try.prog w = .ok (.value (.float .f32 n.toNat)) w :=
  run_callFunc_extern (e := Extern.MathFloatBits.float32frombits) Try.func52 (by kernel_rfl) (by kernel_rfl) (by kernel_rfl) (by kernel_rfl) _ w

theorem spec_l01Finite (x : Nat) (w : World) : Calls Try.prog 40 #[.float .f32 x] w (RetQ (.bool (finB x)) w) := by
  go_enter Try.func40, Try.ntmps40
  go_wp2
  go_ret
  exact retQ_bool (finB_of x _ _) w _
theorem impl_IsFinite (x : Nat) (w : World) : Calls Try.prog 16 #[.float .f32 x] w (RetQ (.bool (finB x)) w) := by
  go_enter Try.func16, Try.ntmps16
  go_wp2
  go_ret
  exact retQ_bool (finB_of x _ _) w _
theorem spec_IsFinite (x : Nat) (w : World) : Calls Try.prog 15 #[.float .f32 x] w (RetQ (.bool (finB x)) w) := by
  go_enter Try.func15, Try.ntmps15
  go_wp2
  go_ret
  exact retQ_bool (finB_of x _ _) w _
theorem impl_isNaN (x : Nat) (w : World) : Calls Try.prog 44 #[.float .f32 x] w (RetQ (.bool (isN .f32 x)) w) := by
  go_enter Try.func44, Try.ntmps44
  go_wp2
  go_ret
  exact retQ_bool0 (self_neq .f32 x) w
theorem spec_l01Bits (x : Nat) (hx : x < 4294967296) (w : World) : Calls Try.prog 42 #[.float .f32 x] w (RetQ (.int .i64 (bitsI x)) w) := by
  cases hn : isN .f32 x
  · have hn' : (FloatKind.f32.format.order x x != some .eq) = false := by rw [self_neq]; exact hn
    have hb := Lib.hid (bitsI_num hn)
    clear hn
    go_enter Try.func42, Try.ntmps42
    go_wp2
    go_ret
    exact retQ_int0 (by rw [hb.out]) w
  · have hn' : (FloatKind.f32.format.order x x != some .eq) = true := by rw [self_neq]; exact hn
    have hb := Lib.hid (bitsI_nan hn)
    clear hn
    go_enter Try.func42, Try.ntmps42
    go_wp2
    go_ret
    exact retQ_int0 (by rw [hb.out]) w
theorem spec_BitsOf (x : Nat) (hx : x < 4294967296) (w : World) : Calls Try.prog 22 #[.float .f32 x] w (RetQ (.int .i64 (bitsI x)) w) := by
  go_enter Try.func22, Try.ntmps22
  go_wp2_with (go_at_call 42; refine (spec_l01Bits _ hx _).mono ?_; rintro e w' ⟨rfl, n, rfl⟩)
  go_ret
  exact retQ_int rfl w _
theorem impl_BitsOf (x : Nat) (hx : x < 4294967296) (w : World) : Calls Try.prog 23 #[.float .f32 x] w (RetQ (.int .i64 (bitsI x)) w) := by
  cases hn : isN .f32 x
  · have hb := Lib.hid (bitsI_num hn)
    go_enter Try.func23, Try.ntmps23
    go_wp2_with (go_at_call 44; refine (impl_isNaN _ _).mono ?_; rintro e w' ⟨rfl, n, rfl⟩)
    go_ret
    exact retQ_int (by rw [hb.out]) w _
  · have hb := Lib.hid (bitsI_nan hn)
    go_enter Try.func23, Try.ntmps23
    go_wp2_with (go_at_call 44; refine (impl_isNaN _ _).mono ?_; rintro e w' ⟨rfl, n, rfl⟩)
    go_ret
    exact retQ_int (by rw [hb.out]) w _
end Go.Proofs.Ytkmlfofndahdfaa
