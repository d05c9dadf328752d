/- How a rod is straightened: contracts. -/
import Derived.Test.YtlhgaihfghobmaaMy
import Derived.Test.YtlhgaihfghobmaaDf
namespace Go.Proofs.Ytlhgaihfghobmaa
open Go.ChangeShapes Go.WideShapes Go.ChangeAt Go.RowKit Go.Deep

def eqZ (x : Nat) : Bool := FloatKind.f32.format.order x 0 == some .eq
/-- the share of a weight. -/
def shrF (x : Nat) : Nat := match eqZ x with | true => 0 | false => F.quo 1065353216 x
theorem eqZ_sim {x y : Nat} (h : Sim .f32 x y) : eqZ x = eqZ y := by unfold eqZ; rw [order_sim h (Sim.refl .f32 0)]
theorem shrF_sim {x y : Nat} (h : Sim .f32 x y) : Sim .f32 (shrF x) (shrF y) := by
  unfold shrF
  rw [eqZ_sim h]
  cases eqZ y
  · exact fquo_sim (Sim.refl _ _) h
  · exact Sim.refl _ _
def strV (D : D4) (a b : Nat) : V3 := vsub (D.P b) (D.P a)
def strS (D : D4) (a b : Nat) : Nat := F.add (shrF (D.W a)) (shrF (D.W b))
def strQ (D : D4) (a b l : Nat) : Nat := F.quo (F.sub (vlen (strV D a b)) l) (F.mul (vlen (strV D a b)) (strS D a b))
def strB (D : D4) (a b : Nat) : Bool := gtZ (vlen (strV D a b)) && gtZ (strS D a b)
def strA (D : D4) (a b l : Nat) : D4 := setP D a (vadd (D.P a) (vmul (strV D a b) (F.mul (strQ D a b l) (shrF (D.W a)))))
/-- a chain with a rod straightened. -/
def straD (D : D4) (a b l : Nat) : D4 := match strB D a b with
  | true => setP (strA D a b l) b (vsub ((strA D a b l).P b) (vmul (strV D a b) (F.mul (strQ D a b l) (shrF (D.W b)))))
  | false => D
theorem strV_sim {n1 n2 n3 n4 a b : Nat} {D E : D4} (h : SimD n1 n2 n3 n4 D E) (ha : a < n1) (hb : b < n1) : SimP (strV D a b) (strV E a b) := vsub_sim (h.1 b hb) (h.1 a ha)
theorem strS_sim {n1 n2 n3 n4 a b : Nat} {D E : D4} (h : SimD n1 n2 n3 n4 D E) (ha : a < n3) (hb : b < n3) : Sim .f32 (strS D a b) (strS E a b) := fadd_sim (shrF_sim (h.2.2.1 a ha)) (shrF_sim (h.2.2.1 b hb))
theorem straD_sim {n m a b l l' : Nat} {D E : D4} (h : SimD n n n m D E) (hl : Sim .f32 l l') (ha : a < n) (hb : b < n) : SimD n n n m (straD D a b l) (straD E a b l') := by
  have hv := strV_sim h ha hb
  have hs := strS_sim h ha hb
  have hq : Sim .f32 (strQ D a b l) (strQ E a b l') := fquo_sim (fsub_sim (vlen_sim hv) hl) (fmul_sim (vlen_sim hv) hs)
  have hB : strB D a b = strB E a b := by unfold strB; rw [gtZ_sim (vlen_sim hv), gtZ_sim hs]
  have hA : SimD n n n m (strA D a b l) (strA E a b l') := setP_sim h (vadd_sim (h.1 a ha) (vmul_sim hv (fmul_sim hq (shrF_sim (h.2.2.1 a ha)))))
  unfold straD
  rw [hB]
  cases strB E a b
  · exact h
  · exact setP_sim hA (vsub_sim (hA.1 b hb) (vmul_sim hv (fmul_sim hq (shrF_sim (h.2.2.1 b hb)))))
/-- as RetSt, with what is kept said by the block. -/
def RetSw (g M : Nat) (A1 A2 A3 A4 : Option Addr) (c1 c2 c3 c4 n1 n2 n3 n4 : Nat) (E : D4) (w : World) (e : Ending) (w' : World) : Prop :=
  e = .returned (.tuple #[]) ∧ Wr (fun k => A1 = some ⟨k, 0, none⟩) w w' ∧ ∃ D', SimD n1 n2 n3 n4 D' E ∧ Own w' M A1 A2 A3 A4 c1 c2 c3 c4 n1 n2 n3 n4 D' ∧ Bx w' g 32 (.slice A1 n1 c1) (.slice A2 n2 c2) (.slice A3 n3 c3) (.slice A4 n4 c4)
theorem RetSw.st {g M : Nat} {A1 A2 A3 A4 : Option Addr} {c1 c2 c3 c4 n1 n2 n3 n4 : Nat} {E : D4} {w : World} {e : Ending} {w' : World} (hn : 0 < n1) (hM : M ≤ w.heap.size) (h : RetSw g M A1 A2 A3 A4 c1 c2 c3 c4 n1 n2 n3 n4 E w e w') : RetSt g M A1 A2 A3 A4 c1 c2 c3 c4 n1 n2 n3 n4 E w e w' := by
  obtain ⟨h1, h2, D', h3, h4, h5⟩ := h
  obtain ⟨b, hA, hB, _⟩ := h4.s1 hn
  refine ⟨h1, h2.below hM fun k hk e => ?_, D', h3, h4, h5⟩
  rw [hA] at e
  cases e
  omega
set_option maxHeartbeats 2000000 in
set_option maxRecDepth 100000 in
theorem impl_share (g k M : Nat) (A1 A2 A3 A4 : Option Addr) (c1 c2 c3 c4 n m : Nat) (D : D4) (hk : k < n) (w : World) (hx : Bx w g 32 (.slice A1 n c1) (.slice A2 n c2) (.slice A3 n c3) (.slice A4 m c4)) (ho : Own w M A1 A2 A3 A4 c1 c2 c3 c4 n n n m D) :
    Calls Try.prog 170 #[.pointer (some ⟨g, 0, none⟩), .int .i64 (k : Int)] w (RetF .f32 (shrF (D.W k)) w) := by
  obtain ⟨p0, p1, p2, p3, pf⟩ := hx.facts
  have lp := hx.lt
  obtain ⟨b3, hA, _, _, _, hr⟩ := ho.s3 (by omega)
  subst hA
  have i3 := hr.cell (j := k) (by omega)
  have l3 := hr.lt
  unfold fc at i3
  have hk0 : (0 : Int) ≤ (k : Int) := by omega
  have hk1 : (k : Int) < (n : Int) := by omega
  clear hx ho hr
  unfold shrF
  cases hz : eqZ (D.W k)
  · have hz0 := hz
    unfold eqZ at hz0
    go_enter Try.func170, Try.ntmps170
    go_wp2_with fail
    go_ret
    exact ⟨_, rfl, opV_lt32 _ _ _ _ _, quo_sim (Sim.refl _ _) (Sim.refl _ _) _ _, (by repeat' (first | with_reducible exact Below.refl _ _ | with_reducible assumption | with_reducible refine below_dn ?_ _ | with_reducible refine Below.drew ?_ | with_reducible refine below_step ?_ (by assumption) | with_reducible refine Below.setCell ?_ ?_ _ | with_reducible refine Below.alloc ?_ ?_ _ | with_reducible exact Nat.le_refl _ | (simp; done) | (simp; omega) | omega))⟩
  · have hz0 := hz
    unfold eqZ at hz0
    go_enter Try.func170, Try.ntmps170
    go_wp2_with fail
    go_ret
    exact ⟨0, rfl, Nat.two_pow_pos _, Sim.refl _ _, (by repeat' (first | with_reducible exact Below.refl _ _ | with_reducible assumption | with_reducible refine below_dn ?_ _ | with_reducible refine Below.drew ?_ | with_reducible refine below_step ?_ (by assumption) | with_reducible refine Below.setCell ?_ ?_ _ | with_reducible refine Below.alloc ?_ ?_ _ | with_reducible exact Nat.le_refl _ | (simp; done) | (simp; omega) | omega))⟩
set_option maxHeartbeats 2000000 in
set_option maxRecDepth 100000 in
theorem spec_share (g k M : Nat) (A1 A2 A3 A4 : Option Addr) (c1 c2 c3 c4 n m : Nat) (D : D4) (hk : k < n) (w : World) (hx : Bx w g 32 (.slice A1 n c1) (.slice A2 n c2) (.slice A3 n c3) (.slice A4 m c4)) (ho : Own w M A1 A2 A3 A4 c1 c2 c3 c4 n n n m D) :
    Calls Try.prog 169 #[.pointer (some ⟨g, 0, none⟩), .int .i64 (k : Int)] w (RetF .f32 (shrF (D.W k)) w) := by
  obtain ⟨p0, p1, p2, p3, pf⟩ := hx.facts
  have lp := hx.lt
  obtain ⟨b3, hA, _, _, _, hr⟩ := ho.s3 (by omega)
  subst hA
  have i3 := hr.cell (j := k) (by omega)
  have l3 := hr.lt
  unfold fc at i3
  have hk0 : (0 : Int) ≤ (k : Int) := by omega
  have hk1 : (k : Int) < (n : Int) := by omega
  clear hx ho hr
  unfold shrF
  cases hz : eqZ (D.W k)
  · have hz0 := hz
    unfold eqZ at hz0
    go_enter Try.func169, Try.ntmps169
    go_wp2_with fail
    go_ret
    exact ⟨_, rfl, opV_lt32 _ _ _ _ _, quo_sim (Sim.refl _ _) (Sim.refl _ _) _ _, (by repeat' (first | with_reducible exact Below.refl _ _ | with_reducible assumption | with_reducible refine below_dn ?_ _ | with_reducible refine Below.drew ?_ | with_reducible refine below_step ?_ (by assumption) | with_reducible refine Below.setCell ?_ ?_ _ | with_reducible refine Below.alloc ?_ ?_ _ | with_reducible exact Nat.le_refl _ | (simp; done) | (simp; omega) | omega))⟩
  · have hz0 := hz
    unfold eqZ at hz0
    go_enter Try.func169, Try.ntmps169
    go_wp2_with fail
    go_ret
    exact ⟨0, rfl, Nat.two_pow_pos _, Sim.refl _ _, (by repeat' (first | with_reducible exact Below.refl _ _ | with_reducible assumption | with_reducible refine below_dn ?_ _ | with_reducible refine Below.drew ?_ | with_reducible refine below_step ?_ (by assumption) | with_reducible refine Below.setCell ?_ ?_ _ | with_reducible refine Below.alloc ?_ ?_ _ | with_reducible exact Nat.le_refl _ | (simp; done) | (simp; omega) | omega))⟩
set_option maxHeartbeats 8000000 in
set_option maxRecDepth 100000 in
theorem impl_straightenW (g M : Nat) (A1 A2 A3 A4 : Option Addr) (c1 c2 c3 c4 n m : Nat) (D : D4) (pa pb rl : Nat) (ha : pa < n) (hb : pb < n) (w : World) (hx : Bx w g 32 (.slice A1 n c1) (.slice A2 n c2) (.slice A3 n c3) (.slice A4 m c4)) (ho : Own w M A1 A2 A3 A4 c1 c2 c3 c4 n n n m D) (hn : n ≤ 24) :
    Calls Try.prog 143 #[.pointer (some ⟨g, 0, none⟩), .agg #[.int .i64 (pa : Int), .int .i64 (pb : Int), .float .f32 rl]] w (RetSw g M A1 A2 A3 A4 c1 c2 c3 c4 n n n m (straD D pa pb rl) w) := by
  have HD := Lib.hid ho.bds
  obtain ⟨b1, hA1, _, _, _, hr1⟩ := ho.s1 (by omega)
  have hl1 : b1 < w.heap.size := hr1.lt
  have hn1 := Rw.ne_ hx hr1 (by decide)
  subst hA1
  have ka0 : (0 : Int) ≤ (pa : Int) := by omega
  have ka1 : (pa : Int) < (n : Int) := by omega
  have kb0 : (0 : Int) ≤ (pb : Int) := by omega
  have kb1 : (pb : Int) < (n : Int) := by omega
  obtain ⟨wq, hwq⟩ : ∃ wq : World, wq = w.alloc (.cells #[.int .i64 (pa : Int), .int .i64 (pb : Int), .float .f32 rl] 91) := ⟨_, rfl⟩
  have hBq : Below w.heap.size w wq := by rw [hwq]; exact Below.alloc (Below.refl _ _) (Nat.le_refl _) _
  have hzq : wq.heap.size = w.heap.size + 1 := by rw [hwq]; simp
  have HX := Lib.hid (hx.go hBq)
  have HO := Lib.hid (ho.go hBq)
  have HR := Lib.hid (hr1.go hBq)
  have HT := Lib.hid (show Tx wq w.heap.size 91 (.int .i64 (pa : Int)) (.int .i64 (pb : Int)) (.float .f32 rl) by rw [hwq]; exact Tx.new_ _ _ _ _ _)
  have HBQ := Lib.hid (Wr.of_go hBq (fun k => k = b1))
  have hw0 : Below wq.heap.size wq wq.drew := (Below.refl _ _).drew
  clear hx ho hr1 hBq
  go_enter Try.func143, Try.ntmps143
  go_upto_region 1 with fail
  rw [← hwq]
  clear hwq
  refine region_inv3 [fun v _ => isE (.pointer (some ⟨g, 0, none⟩)) v, fun v _ => isE (.pointer (some ⟨g, 0, none⟩)) v, fun v _ => isE (.pointer (some ⟨g, 0, none⟩)) v, fun v _ => isE (.slice (some ⟨b1, 0, none⟩) n c1) v, fun v _ => isE (.pointer (some ⟨w.heap.size, 1, none⟩)) v, fun v _ => isE (.int .i64 (pb : Int)) v, fun v _ => isE (.pointer (some ⟨b1, pb * 3, none⟩)) v, fun v _ => isE (.agg #[.float .f32 (D.P pb).x, .float .f32 (D.P pb).y, .float .f32 (D.P pb).z]) v, fun v _ => isE (.pointer (some ⟨g, 0, none⟩)) v, fun v _ => isE (.pointer (some ⟨g, 0, none⟩)) v, fun v _ => isE (.pointer (some ⟨g, 0, none⟩)) v, fun v _ => isE (.slice (some ⟨b1, 0, none⟩) n c1) v, fun v _ => isE (.pointer (some ⟨w.heap.size, 0, none⟩)) v, fun v _ => isE (.int .i64 (pa : Int)) v, fun v _ => isE (.pointer (some ⟨b1, pa * 3, none⟩)) v, fun v _ => isE (.agg #[.float .f32 (D.P pa).x, .float .f32 (D.P pa).y, .float .f32 (D.P pa).z]) v, fun v _ => isV (strV D pa pb) v, isP wq.heap.size, fun _ _ => True] (fun l a W => Js [] (fun W => Below wq.heap.size wq W) l W ∧ Fn 18 4 (isPV wq.heap.size (strV D pa pb)) l a W) (by kernel_rfl) (by kernel_rfl) (by kernel_rfl) ⟨Js.nil hw0, Fn.first⟩ ⟨?r0, ?r1, ?r2, ?r3, ?r4, ?r5, ?r6, ?r7, ?r8, ?r9, ?r10, ?r11, ?r12, ?r13, ?r14, ?r15, ?r16, ?r17, ?r18, trivial⟩ ?hend
  case r0 =>
    intro listed a u h hu hd K hK
    have e0 : a.tmps.getD 0 undef = .pointer (some ⟨g, 0, none⟩) := h.base (by kernel_rfl)
    have f0 : a.tmps[0]? = some (.pointer (some ⟨g, 0, none⟩)) := h.old (by kernel_rfl)
    rw [if_pos (by rfl)]
    go_simp
    exact hK _ _ (fun _ _ _ h => h) (isE.mk rfl) ⟨(Js.neutral h.world.1 rfl), (Fn.neutral h.world.2 (by decide) (by decide) _)⟩
  case r1 =>
    intro listed a u h hu hd K hK
    obtain ⟨v10, ev10, em10, F10⟩ := h.slot (i := 0) rfl rfl (hd _ (Array.mem_of_getElem? (i := 0) rfl) rfl)
    have q10 := isE.out F10
    have e10 := ev10.trans q10
    have f10 := em10.trans (congrArg some q10)
    clear ev10 em10 F10
    rw [if_pos (by rfl)]
    go_simp
    exact hK _ _ (fun _ _ _ h => h) (isE.mk rfl) ⟨(Js.neutral h.world.1 rfl), (Fn.neutral h.world.2 (by decide) (by decide) _)⟩
  case r2 =>
    intro listed a u h hu hd K hK
    obtain ⟨v11, ev11, em11, F11⟩ := h.slot (i := 1) rfl rfl (hd _ (Array.mem_of_getElem? (i := 0) rfl) rfl)
    have q11 := isE.out F11
    have e11 := ev11.trans q11
    have f11 := em11.trans (congrArg some q11)
    clear ev11 em11 F11
    rw [if_pos (by rfl)]
    go_simp
    exact hK _ _ (fun _ _ _ h => h) (isE.mk rfl) ⟨(Js.neutral h.world.1 rfl), (Fn.neutral h.world.2 (by decide) (by decide) _)⟩
  case r3 =>
    intro listed a u h hu hd K hK
    have hA : (fun W => Below wq.heap.size wq W) u := h.world.1
    obtain ⟨v12, ev12, em12, F12⟩ := h.slot (i := 2) rfl rfl (hd _ (Array.mem_of_getElem? (i := 0) rfl) rfl)
    have q12 := isE.out F12
    have e12 := ev12.trans q12
    have f12 := em12.trans (congrArg some q12)
    clear ev12 em12 F12
    rw [if_pos (by rfl)]
    obtain ⟨g0, g1, g2, g3, gf⟩ := (HX.out.go hA).facts
    obtain ⟨t0_, t1_, t2_, tf_⟩ := (HT.out.go hA).facts
    obtain ⟨m0, m1, m2, ma, mb, mc⟩ := (HR.out.go hA).at3 hb
    rw [vc0] at m0
    rw [vc1] at m1
    rw [vc2] at m2
    obtain ⟨o0, o1, o2, oa, ob, oc⟩ := (HR.out.go hA).at3 ha
    rw [vc0] at o0
    rw [vc1] at o1
    rw [vc2] at o2
    go_simp
    exact hK _ _ (fun _ _ _ h => h) (isE.mk rfl) ⟨(Js.nil (hA)), (Fn.neutral h.world.2 (by decide) (by decide) _)⟩
  case r4 =>
    intro listed a u h hu hd K hK
    have e3 : a.tmps.getD 3 undef = .pointer (some ⟨w.heap.size, 0, none⟩) := h.base (by kernel_rfl)
    have f3 : a.tmps[3]? = some (.pointer (some ⟨w.heap.size, 0, none⟩)) := h.old (by kernel_rfl)
    rw [if_pos (by rfl)]
    go_simp
    exact hK _ _ (fun _ _ _ h => h) (isE.mk rfl) ⟨(Js.neutral h.world.1 rfl), (Fn.neutral h.world.2 (by decide) (by decide) _)⟩
  case r5 =>
    intro listed a u h hu hd K hK
    have hA : (fun W => Below wq.heap.size wq W) u := h.world.1
    obtain ⟨v14, ev14, em14, F14⟩ := h.slot (i := 4) rfl rfl (hd _ (Array.mem_of_getElem? (i := 0) rfl) rfl)
    have q14 := isE.out F14
    have e14 := ev14.trans q14
    have f14 := em14.trans (congrArg some q14)
    clear ev14 em14 F14
    rw [if_pos (by rfl)]
    obtain ⟨g0, g1, g2, g3, gf⟩ := (HX.out.go hA).facts
    obtain ⟨t0_, t1_, t2_, tf_⟩ := (HT.out.go hA).facts
    obtain ⟨m0, m1, m2, ma, mb, mc⟩ := (HR.out.go hA).at3 hb
    rw [vc0] at m0
    rw [vc1] at m1
    rw [vc2] at m2
    obtain ⟨o0, o1, o2, oa, ob, oc⟩ := (HR.out.go hA).at3 ha
    rw [vc0] at o0
    rw [vc1] at o1
    rw [vc2] at o2
    go_simp
    exact hK _ _ (fun _ _ _ h => h) (isE.mk rfl) ⟨(Js.nil (hA)), (Fn.neutral h.world.2 (by decide) (by decide) _)⟩
  case r6 =>
    intro listed a u h hu hd K hK
    obtain ⟨v13, ev13, em13, F13⟩ := h.slot (i := 3) rfl rfl (hd _ (Array.mem_of_getElem? (i := 0) rfl) rfl)
    have q13 := isE.out F13
    have e13 := ev13.trans q13
    have f13 := em13.trans (congrArg some q13)
    clear ev13 em13 F13
    obtain ⟨v15, ev15, em15, F15⟩ := h.slot (i := 5) rfl rfl (hd _ (Array.mem_of_getElem? (i := 1) rfl) rfl)
    have q15 := isE.out F15
    have e15 := ev15.trans q15
    have f15 := em15.trans (congrArg some q15)
    clear ev15 em15 F15
    rw [if_pos (by rfl)]
    go_simp
    exact hK _ _ (fun _ _ _ h => h) (isE.mk rfl) ⟨(Js.neutral h.world.1 rfl), (Fn.neutral h.world.2 (by decide) (by decide) _)⟩
  case r7 =>
    intro listed a u h hu hd K hK
    have hA : (fun W => Below wq.heap.size wq W) u := h.world.1
    obtain ⟨v16, ev16, em16, F16⟩ := h.slot (i := 6) rfl rfl (hd _ (Array.mem_of_getElem? (i := 0) rfl) rfl)
    have q16 := isE.out F16
    have e16 := ev16.trans q16
    have f16 := em16.trans (congrArg some q16)
    clear ev16 em16 F16
    rw [if_pos (by rfl)]
    obtain ⟨g0, g1, g2, g3, gf⟩ := (HX.out.go hA).facts
    obtain ⟨t0_, t1_, t2_, tf_⟩ := (HT.out.go hA).facts
    obtain ⟨m0, m1, m2, ma, mb, mc⟩ := (HR.out.go hA).at3 hb
    rw [vc0] at m0
    rw [vc1] at m1
    rw [vc2] at m2
    obtain ⟨o0, o1, o2, oa, ob, oc⟩ := (HR.out.go hA).at3 ha
    rw [vc0] at o0
    rw [vc1] at o1
    rw [vc2] at o2
    go_simp
    exact hK _ _ (fun _ _ _ h => h) (isE.mk rfl) ⟨(Js.nil (hA)), (Fn.neutral h.world.2 (by decide) (by decide) _)⟩
  case r8 =>
    intro listed a u h hu hd K hK
    have e0 : a.tmps.getD 0 undef = .pointer (some ⟨g, 0, none⟩) := h.base (by kernel_rfl)
    have f0 : a.tmps[0]? = some (.pointer (some ⟨g, 0, none⟩)) := h.old (by kernel_rfl)
    rw [if_pos (by rfl)]
    go_simp
    exact hK _ _ (fun _ _ _ h => h) (isE.mk rfl) ⟨(Js.neutral h.world.1 rfl), (Fn.neutral h.world.2 (by decide) (by decide) _)⟩
  case r9 =>
    intro listed a u h hu hd K hK
    obtain ⟨v18, ev18, em18, F18⟩ := h.slot (i := 8) rfl rfl (hd _ (Array.mem_of_getElem? (i := 0) rfl) rfl)
    have q18 := isE.out F18
    have e18 := ev18.trans q18
    have f18 := em18.trans (congrArg some q18)
    clear ev18 em18 F18
    rw [if_pos (by rfl)]
    go_simp
    exact hK _ _ (fun _ _ _ h => h) (isE.mk rfl) ⟨(Js.neutral h.world.1 rfl), (Fn.neutral h.world.2 (by decide) (by decide) _)⟩
  case r10 =>
    intro listed a u h hu hd K hK
    obtain ⟨v19, ev19, em19, F19⟩ := h.slot (i := 9) rfl rfl (hd _ (Array.mem_of_getElem? (i := 0) rfl) rfl)
    have q19 := isE.out F19
    have e19 := ev19.trans q19
    have f19 := em19.trans (congrArg some q19)
    clear ev19 em19 F19
    rw [if_pos (by rfl)]
    go_simp
    exact hK _ _ (fun _ _ _ h => h) (isE.mk rfl) ⟨(Js.neutral h.world.1 rfl), (Fn.neutral h.world.2 (by decide) (by decide) _)⟩
  case r11 =>
    intro listed a u h hu hd K hK
    have hA : (fun W => Below wq.heap.size wq W) u := h.world.1
    obtain ⟨v20, ev20, em20, F20⟩ := h.slot (i := 10) rfl rfl (hd _ (Array.mem_of_getElem? (i := 0) rfl) rfl)
    have q20 := isE.out F20
    have e20 := ev20.trans q20
    have f20 := em20.trans (congrArg some q20)
    clear ev20 em20 F20
    rw [if_pos (by rfl)]
    obtain ⟨g0, g1, g2, g3, gf⟩ := (HX.out.go hA).facts
    obtain ⟨t0_, t1_, t2_, tf_⟩ := (HT.out.go hA).facts
    obtain ⟨m0, m1, m2, ma, mb, mc⟩ := (HR.out.go hA).at3 hb
    rw [vc0] at m0
    rw [vc1] at m1
    rw [vc2] at m2
    obtain ⟨o0, o1, o2, oa, ob, oc⟩ := (HR.out.go hA).at3 ha
    rw [vc0] at o0
    rw [vc1] at o1
    rw [vc2] at o2
    go_simp
    exact hK _ _ (fun _ _ _ h => h) (isE.mk rfl) ⟨(Js.nil (hA)), (Fn.neutral h.world.2 (by decide) (by decide) _)⟩
  case r12 =>
    intro listed a u h hu hd K hK
    have e3 : a.tmps.getD 3 undef = .pointer (some ⟨w.heap.size, 0, none⟩) := h.base (by kernel_rfl)
    have f3 : a.tmps[3]? = some (.pointer (some ⟨w.heap.size, 0, none⟩)) := h.old (by kernel_rfl)
    rw [if_pos (by rfl)]
    go_simp
    exact hK _ _ (fun _ _ _ h => h) (isE.mk rfl) ⟨(Js.neutral h.world.1 rfl), (Fn.neutral h.world.2 (by decide) (by decide) _)⟩
  case r13 =>
    intro listed a u h hu hd K hK
    have hA : (fun W => Below wq.heap.size wq W) u := h.world.1
    obtain ⟨v22, ev22, em22, F22⟩ := h.slot (i := 12) rfl rfl (hd _ (Array.mem_of_getElem? (i := 0) rfl) rfl)
    have q22 := isE.out F22
    have e22 := ev22.trans q22
    have f22 := em22.trans (congrArg some q22)
    clear ev22 em22 F22
    rw [if_pos (by rfl)]
    obtain ⟨g0, g1, g2, g3, gf⟩ := (HX.out.go hA).facts
    obtain ⟨t0_, t1_, t2_, tf_⟩ := (HT.out.go hA).facts
    obtain ⟨m0, m1, m2, ma, mb, mc⟩ := (HR.out.go hA).at3 hb
    rw [vc0] at m0
    rw [vc1] at m1
    rw [vc2] at m2
    obtain ⟨o0, o1, o2, oa, ob, oc⟩ := (HR.out.go hA).at3 ha
    rw [vc0] at o0
    rw [vc1] at o1
    rw [vc2] at o2
    go_simp
    exact hK _ _ (fun _ _ _ h => h) (isE.mk rfl) ⟨(Js.nil (hA)), (Fn.neutral h.world.2 (by decide) (by decide) _)⟩
  case r14 =>
    intro listed a u h hu hd K hK
    obtain ⟨v21, ev21, em21, F21⟩ := h.slot (i := 11) rfl rfl (hd _ (Array.mem_of_getElem? (i := 0) rfl) rfl)
    have q21 := isE.out F21
    have e21 := ev21.trans q21
    have f21 := em21.trans (congrArg some q21)
    clear ev21 em21 F21
    obtain ⟨v23, ev23, em23, F23⟩ := h.slot (i := 13) rfl rfl (hd _ (Array.mem_of_getElem? (i := 1) rfl) rfl)
    have q23 := isE.out F23
    have e23 := ev23.trans q23
    have f23 := em23.trans (congrArg some q23)
    clear ev23 em23 F23
    rw [if_pos (by rfl)]
    go_simp
    exact hK _ _ (fun _ _ _ h => h) (isE.mk rfl) ⟨(Js.neutral h.world.1 rfl), (Fn.neutral h.world.2 (by decide) (by decide) _)⟩
  case r15 =>
    intro listed a u h hu hd K hK
    have hA : (fun W => Below wq.heap.size wq W) u := h.world.1
    obtain ⟨v24, ev24, em24, F24⟩ := h.slot (i := 14) rfl rfl (hd _ (Array.mem_of_getElem? (i := 0) rfl) rfl)
    have q24 := isE.out F24
    have e24 := ev24.trans q24
    have f24 := em24.trans (congrArg some q24)
    clear ev24 em24 F24
    rw [if_pos (by rfl)]
    obtain ⟨g0, g1, g2, g3, gf⟩ := (HX.out.go hA).facts
    obtain ⟨t0_, t1_, t2_, tf_⟩ := (HT.out.go hA).facts
    obtain ⟨m0, m1, m2, ma, mb, mc⟩ := (HR.out.go hA).at3 hb
    rw [vc0] at m0
    rw [vc1] at m1
    rw [vc2] at m2
    obtain ⟨o0, o1, o2, oa, ob, oc⟩ := (HR.out.go hA).at3 ha
    rw [vc0] at o0
    rw [vc1] at o1
    rw [vc2] at o2
    go_simp
    exact hK _ _ (fun _ _ _ h => h) (isE.mk rfl) ⟨(Js.nil (hA)), (Fn.neutral h.world.2 (by decide) (by decide) _)⟩
  case r16 =>
    intro listed a u h hu hd K hK
    have hA : (fun W => Below wq.heap.size wq W) u := h.world.1
    obtain ⟨v17, ev17, em17, F17⟩ := h.slot (i := 7) rfl rfl (hd _ (Array.mem_of_getElem? (i := 0) rfl) rfl)
    have q17 := isE.out F17
    have e17 := ev17.trans q17
    have f17 := em17.trans (congrArg some q17)
    clear ev17 em17 F17
    obtain ⟨v25, ev25, em25, F25⟩ := h.slot (i := 15) rfl rfl (hd _ (Array.mem_of_getElem? (i := 1) rfl) rfl)
    have q25 := isE.out F25
    have e25 := ev25.trans q25
    have f25 := em25.trans (congrArg some q25)
    clear ev25 em25 F25
    rw [if_pos (by rfl)]
    go_simp
    refine Calls.mono (impl_LessVectors _ _ _ _ _ _ u) ?_
    rintro e u2 ⟨a0_, a1_, a2_, rfl, _, r0, r1, r2, hbb⟩
    have hR : Gw u u2 := hbb
    exact hK _ _ (fun j v hn hF => AllStX.fact0 (R := Gw) (i := 16) (by exact ⟨fun _ _ _ _ _ h => h, fun _ _ _ _ _ h => h, fun _ _ _ _ _ h => h, fun _ _ _ _ _ h => h, fun _ _ _ _ _ h => h, fun _ _ _ _ _ h => h, fun _ _ _ _ _ h => h, fun _ _ _ _ _ h => h, fun _ _ _ _ _ h => h, fun _ _ _ _ _ h => h, fun _ _ _ _ _ h => h, fun _ _ _ _ _ h => h, fun _ _ _ _ _ h => h, fun _ _ _ _ _ h => h, fun _ _ _ _ _ h => h, fun _ _ _ _ _ h => h, fun hn => absurd rfl hn, fun _ _ _ _ hW h => isP.go h hW, fun _ _ _ _ _ h => h, trivial⟩) hR j v hn hF) (isV.mk ⟨r0, r1, r2⟩) ⟨(Js.nil ((hA.trans (hbb.mono hA.size)))), (Fn.no (RI3.wait' h (getD_un hu) (T := 18) rfl (Array.mem_of_getElem? (i := 1) rfl) rfl rfl) (by decide))⟩
  case r17 =>
    intro listed a u h hu hd K hK
    have hA : (fun W => Below wq.heap.size wq W) u := h.world.1
    rw [if_pos (by rfl)]
    go_simp
    have hR : Gw u (u.alloc (.cells #[.float .f32 0, .float .f32 0, .float .f32 0] 38)) := Below.alloc (Below.refl _ _) (Nat.le_refl _) _
    exact hK _ _ (fun j v hn hF => AllStX.fact0 (R := Gw) (i := 17) (by exact ⟨fun _ _ _ _ _ h => h, fun _ _ _ _ _ h => h, fun _ _ _ _ _ h => h, fun _ _ _ _ _ h => h, fun _ _ _ _ _ h => h, fun _ _ _ _ _ h => h, fun _ _ _ _ _ h => h, fun _ _ _ _ _ h => h, fun _ _ _ _ _ h => h, fun _ _ _ _ _ h => h, fun _ _ _ _ _ h => h, fun _ _ _ _ _ h => h, fun _ _ _ _ _ h => h, fun _ _ _ _ _ h => h, fun _ _ _ _ _ h => h, fun _ _ _ _ _ h => h, fun _ _ _ _ _ h => h, fun hn => absurd rfl hn, fun _ _ _ _ _ h => h, trivial⟩) hR j v hn hF) ⟨_, _, _, _, rfl, hA.size, Tx.new_ _ _ _ _ _⟩ ⟨(Js.nil (Below.alloc hA hA.size _)), (Fn.no (RI3.wait' h (getD_un hu) (T := 18) rfl (Array.mem_of_getElem? (i := 0) rfl) rfl rfl) (by decide))⟩
  case r18 =>
    intro listed a u h hu hd K hK
    have hA : (fun W => Below wq.heap.size wq W) u := h.world.1
    obtain ⟨v4, ev4, em4, F4⟩ := h.slot (i := 17) rfl rfl (hd _ (Array.mem_of_getElem? (i := 0) rfl) rfl)
    obtain ⟨k4, xa4, xb4, xc4, q4, hk4, hx4⟩ : isP wq.heap.size v4 u := F4
    have e4 := ev4.trans q4
    have f4 := em4.trans (congrArg some q4)
    clear ev4 em4
    obtain ⟨v26, ev26, em26, F26⟩ := h.slot (i := 16) rfl rfl (hd _ (Array.mem_of_getElem? (i := 1) rfl) rfl)
    obtain ⟨x26, y26, z26, q26, s26⟩ := isV.out F26
    have e26 := ev26.trans q26
    have f26 := em26.trans (congrArg some q26)
    clear ev26 em26 F26
    rw [if_pos (by rfl)]
    obtain ⟨g0, g1, g2, g3, gf⟩ := (HX.out.go hA).facts
    obtain ⟨t0_, t1_, t2_, tf_⟩ := (HT.out.go hA).facts
    obtain ⟨m0, m1, m2, ma, mb, mc⟩ := (HR.out.go hA).at3 hb
    rw [vc0] at m0
    rw [vc1] at m1
    rw [vc2] at m2
    obtain ⟨o0, o1, o2, oa, ob, oc⟩ := (HR.out.go hA).at3 ha
    rw [vc0] at o0
    rw [vc1] at o1
    rw [vc2] at o2
    obtain ⟨y0_, y1_, y2_, yf_⟩ := hx4.facts
    have ly_ := hx4.lt
    go_simp
    have hY := hx4.setAll (.float .f32 x26) (.float .f32 y26) (.float .f32 z26)
    have hR : Pw u (((u.setCell ⟨k4, 0, none⟩ (.float .f32 x26)).setCell ⟨k4, 1, none⟩ (.float .f32 y26)).setCell ⟨k4, 2, none⟩ (.float .f32 z26)) := ⟨_, _, _, _, _, _, _, hx4, Wr.set3 u k4 0 1 2 _ _ _, hY⟩
    exact hK undef _ (fun j v hn hF => AllStX.fact0 (R := Pw) (i := 18) (by exact ⟨fun _ _ _ _ _ h => h, fun _ _ _ _ _ h => h, fun _ _ _ _ _ h => h, fun _ _ _ _ _ h => h, fun _ _ _ _ _ h => h, fun _ _ _ _ _ h => h, fun _ _ _ _ _ h => h, fun _ _ _ _ _ h => h, fun _ _ _ _ _ h => h, fun _ _ _ _ _ h => h, fun _ _ _ _ _ h => h, fun _ _ _ _ _ h => h, fun _ _ _ _ _ h => h, fun _ _ _ _ _ h => h, fun _ _ _ _ _ h => h, fun _ _ _ _ _ h => h, fun _ _ _ _ _ h => h, fun _ _ _ _ hW h => isP.st h hW, fun hn => absurd rfl hn, trivial⟩) hR j v hn hF) trivial ⟨(Js.nil ((Tx.bel hA hk4 _ _ _))), (Fn.hit f4 (⟨k4, x26, y26, z26, rfl, hk4, hY, s26⟩))⟩
  case hend =>
    intro listed a u h hall
    have hB : (fun W => Below wq.heap.size wq W) u := h.world.1
    obtain ⟨m4, hm4, hf4⟩ := h.world.2 (hall 18 (by decide))
    obtain ⟨v4, ev4, em4, F4⟩ := h.slot (i := 17) rfl rfl (hall 17 (by decide))
    obtain ⟨k4, xa4, xb4, xc4, q4, hk4, hx4⟩ : isP wq.heap.size v4 u := F4
    have f4 := em4.trans (congrArg some q4)
    clear ev4 em4
    obtain ⟨v10, ev10, em10, F10⟩ := h.slot (i := 0) rfl rfl (hall 0 (by decide))
    have q10 := isE.out F10
    have f10 := em10.trans (congrArg some q10)
    clear ev10 em10 F10
    obtain ⟨v11, ev11, em11, F11⟩ := h.slot (i := 1) rfl rfl (hall 1 (by decide))
    have q11 := isE.out F11
    have f11 := em11.trans (congrArg some q11)
    clear ev11 em11 F11
    obtain ⟨v12, ev12, em12, F12⟩ := h.slot (i := 2) rfl rfl (hall 2 (by decide))
    have q12 := isE.out F12
    have f12 := em12.trans (congrArg some q12)
    clear ev12 em12 F12
    obtain ⟨v13, ev13, em13, F13⟩ := h.slot (i := 3) rfl rfl (hall 3 (by decide))
    have q13 := isE.out F13
    have f13 := em13.trans (congrArg some q13)
    clear ev13 em13 F13
    obtain ⟨v14, ev14, em14, F14⟩ := h.slot (i := 4) rfl rfl (hall 4 (by decide))
    have q14 := isE.out F14
    have f14 := em14.trans (congrArg some q14)
    clear ev14 em14 F14
    obtain ⟨v15, ev15, em15, F15⟩ := h.slot (i := 5) rfl rfl (hall 5 (by decide))
    have q15 := isE.out F15
    have f15 := em15.trans (congrArg some q15)
    clear ev15 em15 F15
    obtain ⟨v16, ev16, em16, F16⟩ := h.slot (i := 6) rfl rfl (hall 6 (by decide))
    have q16 := isE.out F16
    have f16 := em16.trans (congrArg some q16)
    clear ev16 em16 F16
    obtain ⟨v17, ev17, em17, F17⟩ := h.slot (i := 7) rfl rfl (hall 7 (by decide))
    have q17 := isE.out F17
    have f17 := em17.trans (congrArg some q17)
    clear ev17 em17 F17
    obtain ⟨v18, ev18, em18, F18⟩ := h.slot (i := 8) rfl rfl (hall 8 (by decide))
    have q18 := isE.out F18
    have f18 := em18.trans (congrArg some q18)
    clear ev18 em18 F18
    obtain ⟨v19, ev19, em19, F19⟩ := h.slot (i := 9) rfl rfl (hall 9 (by decide))
    have q19 := isE.out F19
    have f19 := em19.trans (congrArg some q19)
    clear ev19 em19 F19
    obtain ⟨v20, ev20, em20, F20⟩ := h.slot (i := 10) rfl rfl (hall 10 (by decide))
    have q20 := isE.out F20
    have f20 := em20.trans (congrArg some q20)
    clear ev20 em20 F20
    obtain ⟨v21, ev21, em21, F21⟩ := h.slot (i := 11) rfl rfl (hall 11 (by decide))
    have q21 := isE.out F21
    have f21 := em21.trans (congrArg some q21)
    clear ev21 em21 F21
    obtain ⟨v22, ev22, em22, F22⟩ := h.slot (i := 12) rfl rfl (hall 12 (by decide))
    have q22 := isE.out F22
    have f22 := em22.trans (congrArg some q22)
    clear ev22 em22 F22
    obtain ⟨v23, ev23, em23, F23⟩ := h.slot (i := 13) rfl rfl (hall 13 (by decide))
    have q23 := isE.out F23
    have f23 := em23.trans (congrArg some q23)
    clear ev23 em23 F23
    obtain ⟨v24, ev24, em24, F24⟩ := h.slot (i := 14) rfl rfl (hall 14 (by decide))
    have q24 := isE.out F24
    have f24 := em24.trans (congrArg some q24)
    clear ev24 em24 F24
    obtain ⟨v25, ev25, em25, F25⟩ := h.slot (i := 15) rfl rfl (hall 15 (by decide))
    have q25 := isE.out F25
    have f25 := em25.trans (congrArg some q25)
    clear ev25 em25 F25
    obtain ⟨v26, ev26, em26, F26⟩ := h.slot (i := 16) rfl rfl (hall 16 (by decide))
    obtain ⟨x26, y26, z26, q26, s26⟩ := isV.out F26
    have f26 := em26.trans (congrArg some q26)
    clear ev26 em26 F26
    obtain rfl : m4 = _ := Option.some.inj (hm4.symm.trans f4)
    have ha := h.act [4, 10, 11, 12, 13, 14, 15, 16, 17, 18, 19, 20, 21, 22, 23, 24, 25, 26] [_, _, _, _, _, _, _, _, _, _, _, _, _, _, _, _, _, _] (by kernel_rfl) ⟨f4, f10, f11, f12, f13, f14, f15, f16, f17, f18, f19, f20, f21, f22, f23, f24, f25, f26, trivial⟩
    clear f4 f10 f11 f12 f13 f14 f15 f16 f17 f18 f19 f20 f21 f22 f23 f24 f25 f26
    simp only [setAll, List.setIfInBounds_toArray, List.set_cons_zero, List.set_cons_succ] at ha
    subst ha
    clear h hall
    obtain ⟨kv, v0, v1, v2, hke, hkv, hxv, hsv⟩ := hf4
    cases hke
    obtain ⟨wt, rfl⟩ : ∃ z : World, z = u := ⟨u, rfl⟩
    have HV := Lib.hid hxv
    have SV := Lib.hid hsv
    have lv := hxv.lt
    have yt := hB.size
    have HXt := Lib.hid (HX.out.go hB)
    have HOt := Lib.hid (HO.out.go hB)
    have HTt := Lib.hid (HT.out.go hB)
    have HBt := Lib.hid (HBQ.out.step hB)
    clear hxv hsv hB hw0 hm4 HX HO HT HR HBQ
    have SL := Lib.hid (show Sim .f32 (vlen ⟨v0, v1, v2⟩) (vlen (strV D pa pb)) from vlen_sim SV.out)
    have hw0 : Below wt.heap.size wt wt.drew := (Below.refl _ _).drew
    go_upto_region 2 with fail
    refine region_inv (stat [isE (.pointer (some ⟨g, 0, none⟩)), isE (.pointer (some ⟨w.heap.size, 0, none⟩)), isE (.int .i64 (pa : Int)), isF (shrF (D.W pa)), isE (.pointer (some ⟨g, 0, none⟩)), isE (.pointer (some ⟨w.heap.size, 1, none⟩)), isE (.int .i64 (pb : Int)), isF (shrF (D.W pb)), isF (shrF (D.W pa)), isF (shrF (D.W pb))]) (fun l W => Js [] (fun W => Below wt.heap.size wt W) l W) (by kernel_rfl) (by kernel_rfl) (by kernel_rfl) (Js.nil hw0) ⟨?r0, ?r1, ?r2, ?r3, ?r4, ?r5, ?r6, ?r7, ?r8, ?r9, trivial⟩ ?hend
    case r0 =>
      intro listed a u h hu hd K hK
      have e0 : a.tmps.getD 0 undef = .pointer (some ⟨g, 0, none⟩) := h.base (by kernel_rfl)
      have f0 : a.tmps[0]? = some (.pointer (some ⟨g, 0, none⟩)) := h.old (by kernel_rfl)
      rw [if_pos (by rfl)]
      go_simp
      exact hK _ _ (fact_stat _ _ _) (isE.mk rfl) (Js.neutral h.world rfl)
    case r1 =>
      intro listed a u h hu hd K hK
      have e3 : a.tmps.getD 3 undef = .pointer (some ⟨w.heap.size, 0, none⟩) := h.base (by kernel_rfl)
      have f3 : a.tmps[3]? = some (.pointer (some ⟨w.heap.size, 0, none⟩)) := h.old (by kernel_rfl)
      rw [if_pos (by rfl)]
      go_simp
      exact hK _ _ (fact_stat _ _ _) (isE.mk rfl) (Js.neutral h.world rfl)
    case r2 =>
      intro listed a u h hu hd K hK
      have hA : (fun W => Below wt.heap.size wt W) u := h.world
      obtain ⟨v28, ev28, em28, F28⟩ := h.slot (i := 1) rfl rfl (hd _ (Array.mem_of_getElem? (i := 0) rfl) rfl)
      have e28 := ev28.trans (isE.out F28)
      have f28 := em28.trans (congrArg some (isE.out F28))
      clear ev28 em28 F28
      rw [if_pos (by rfl)]
      obtain ⟨t0_, t1_, t2_, tf_⟩ := (HTt.out.go hA).facts
      go_simp
      exact hK _ _ (fact_stat _ _ _) (isE.mk rfl) (Js.nil hA)
    case r3 =>
      intro listed a u h hu hd K hK
      have hA : (fun W => Below wt.heap.size wt W) u := h.world
      obtain ⟨v27, ev27, em27, F27⟩ := h.slot (i := 0) rfl rfl (hd _ (Array.mem_of_getElem? (i := 0) rfl) rfl)
      have e27 := ev27.trans (isE.out F27)
      have f27 := em27.trans (congrArg some (isE.out F27))
      clear ev27 em27 F27
      obtain ⟨v29, ev29, em29, F29⟩ := h.slot (i := 2) rfl rfl (hd _ (Array.mem_of_getElem? (i := 1) rfl) rfl)
      have e29 := ev29.trans (isE.out F29)
      have f29 := em29.trans (congrArg some (isE.out F29))
      clear ev29 em29 F29
      rw [if_pos (by rfl)]
      go_simp
      refine Calls.mono (impl_share g pa M _ _ _ _ _ _ _ _ n m D ha u (HXt.out.go hA) (HOt.out.go hA)) ?_
      rintro e u2 ⟨r, rfl, hlt, hs, hbb⟩
      exact hK _ _ (fact_stat _ _ _) (isF.mk hlt hs) (Js.nil (hA.trans (hbb.mono hA.size)))
    case r4 =>
      intro listed a u h hu hd K hK
      have e0 : a.tmps.getD 0 undef = .pointer (some ⟨g, 0, none⟩) := h.base (by kernel_rfl)
      have f0 : a.tmps[0]? = some (.pointer (some ⟨g, 0, none⟩)) := h.old (by kernel_rfl)
      rw [if_pos (by rfl)]
      go_simp
      exact hK _ _ (fact_stat _ _ _) (isE.mk rfl) (Js.neutral h.world rfl)
    case r5 =>
      intro listed a u h hu hd K hK
      have e3 : a.tmps.getD 3 undef = .pointer (some ⟨w.heap.size, 0, none⟩) := h.base (by kernel_rfl)
      have f3 : a.tmps[3]? = some (.pointer (some ⟨w.heap.size, 0, none⟩)) := h.old (by kernel_rfl)
      rw [if_pos (by rfl)]
      go_simp
      exact hK _ _ (fact_stat _ _ _) (isE.mk rfl) (Js.neutral h.world rfl)
    case r6 =>
      intro listed a u h hu hd K hK
      have hA : (fun W => Below wt.heap.size wt W) u := h.world
      obtain ⟨v32, ev32, em32, F32⟩ := h.slot (i := 5) rfl rfl (hd _ (Array.mem_of_getElem? (i := 0) rfl) rfl)
      have e32 := ev32.trans (isE.out F32)
      have f32 := em32.trans (congrArg some (isE.out F32))
      clear ev32 em32 F32
      rw [if_pos (by rfl)]
      obtain ⟨t0_, t1_, t2_, tf_⟩ := (HTt.out.go hA).facts
      go_simp
      exact hK _ _ (fact_stat _ _ _) (isE.mk rfl) (Js.nil hA)
    case r7 =>
      intro listed a u h hu hd K hK
      have hA : (fun W => Below wt.heap.size wt W) u := h.world
      obtain ⟨v31, ev31, em31, F31⟩ := h.slot (i := 4) rfl rfl (hd _ (Array.mem_of_getElem? (i := 0) rfl) rfl)
      have e31 := ev31.trans (isE.out F31)
      have f31 := em31.trans (congrArg some (isE.out F31))
      clear ev31 em31 F31
      obtain ⟨v33, ev33, em33, F33⟩ := h.slot (i := 6) rfl rfl (hd _ (Array.mem_of_getElem? (i := 1) rfl) rfl)
      have e33 := ev33.trans (isE.out F33)
      have f33 := em33.trans (congrArg some (isE.out F33))
      clear ev33 em33 F33
      rw [if_pos (by rfl)]
      go_simp
      refine Calls.mono (impl_share g pb M _ _ _ _ _ _ _ _ n m D hb u (HXt.out.go hA) (HOt.out.go hA)) ?_
      rintro e u2 ⟨r, rfl, hlt, hs, hbb⟩
      exact hK _ _ (fact_stat _ _ _) (isF.mk hlt hs) (Js.nil (hA.trans (hbb.mono hA.size)))
    case r8 =>
      intro listed a u h hu hd K hK
      obtain ⟨v30, ev30, em30, F30⟩ := h.slot (i := 3) rfl rfl (hd _ (Array.mem_of_getElem? (i := 0) rfl) rfl)
      obtain ⟨x30, q30, l30, s30⟩ := isF.out F30
      have e30 := ev30.trans q30
      have f30 := em30.trans (congrArg some q30)
      clear ev30 em30 F30
      rw [if_pos (by rfl)]
      go_simp
      exact hK _ _ (fact_stat _ _ _) (isF.mk l30 s30) (Js.neutral h.world rfl)
    case r9 =>
      intro listed a u h hu hd K hK
      obtain ⟨v34, ev34, em34, F34⟩ := h.slot (i := 7) rfl rfl (hd _ (Array.mem_of_getElem? (i := 0) rfl) rfl)
      obtain ⟨x34, q34, l34, s34⟩ := isF.out F34
      have e34 := ev34.trans q34
      have f34 := em34.trans (congrArg some q34)
      clear ev34 em34 F34
      rw [if_pos (by rfl)]
      go_simp
      exact hK _ _ (fact_stat _ _ _) (isF.mk l34 s34) (Js.neutral h.world rfl)
    case hend =>
      intro listed a u h hall
      have hB : (fun W => Below wt.heap.size wt W) u := h.world
      obtain ⟨v5, ev5, em5, F5⟩ := h.slot (i := 8) rfl rfl (hall 8 (by decide))
      obtain ⟨x5, q5, l5, s5⟩ := isF.out F5
      have f5 := em5.trans (congrArg some q5)
      clear ev5 em5 F5
      obtain ⟨v6, ev6, em6, F6⟩ := h.slot (i := 9) rfl rfl (hall 9 (by decide))
      obtain ⟨x6, q6, l6, s6⟩ := isF.out F6
      have f6 := em6.trans (congrArg some q6)
      clear ev6 em6 F6
      obtain ⟨v27, ev27, em27, F27⟩ := h.slot (i := 0) rfl rfl (hall 0 (by decide))
      have f27 := em27.trans (congrArg some (isE.out F27))
      clear ev27 em27 F27
      obtain ⟨v28, ev28, em28, F28⟩ := h.slot (i := 1) rfl rfl (hall 1 (by decide))
      have f28 := em28.trans (congrArg some (isE.out F28))
      clear ev28 em28 F28
      obtain ⟨v29, ev29, em29, F29⟩ := h.slot (i := 2) rfl rfl (hall 2 (by decide))
      have f29 := em29.trans (congrArg some (isE.out F29))
      clear ev29 em29 F29
      obtain ⟨v30, ev30, em30, F30⟩ := h.slot (i := 3) rfl rfl (hall 3 (by decide))
      obtain ⟨x30, q30, l30, s30⟩ := isF.out F30
      have f30 := em30.trans (congrArg some q30)
      clear ev30 em30 F30
      obtain ⟨v31, ev31, em31, F31⟩ := h.slot (i := 4) rfl rfl (hall 4 (by decide))
      have f31 := em31.trans (congrArg some (isE.out F31))
      clear ev31 em31 F31
      obtain ⟨v32, ev32, em32, F32⟩ := h.slot (i := 5) rfl rfl (hall 5 (by decide))
      have f32 := em32.trans (congrArg some (isE.out F32))
      clear ev32 em32 F32
      obtain ⟨v33, ev33, em33, F33⟩ := h.slot (i := 6) rfl rfl (hall 6 (by decide))
      have f33 := em33.trans (congrArg some (isE.out F33))
      clear ev33 em33 F33
      obtain ⟨v34, ev34, em34, F34⟩ := h.slot (i := 7) rfl rfl (hall 7 (by decide))
      obtain ⟨x34, q34, l34, s34⟩ := isF.out F34
      have f34 := em34.trans (congrArg some q34)
      clear ev34 em34 F34
      have ha := h.act [5, 6, 27, 28, 29, 30, 31, 32, 33, 34] [_, _, _, _, _, _, _, _, _, _] (by kernel_rfl) ⟨f5, f6, f27, f28, f29, f30, f31, f32, f33, f34, trivial⟩
      clear f5 f6 f27 f28 f29 f30 f31 f32 f33 f34
      simp only [setAll, List.setIfInBounds_toArray, List.set_cons_zero, List.set_cons_succ] at ha
      subst ha
      clear h hall
      obtain ⟨wb, rfl⟩ : ∃ z : World, z = u := ⟨u, rfl⟩
      have BB := Lib.hid hB
      have SA := Lib.hid s5
      have SB := Lib.hid s6
      clear hB s5 s6 s30 s34 hw0
      obtain ⟨u0_, u1_, u2_, uf_⟩ := (HV.out.go BB.out).facts
      have lu_ := (HV.out.go BB.out).lt
      go_upto_region 3 with fail
      go_cut [7, 8] (fun l s wx => ∃ x y, l = .float .f32 x ∧ s = .float .f32 y ∧ Sim .f32 x (vlen (strV D pa pb)) ∧ Sim .f32 y (strS D pa pb) ∧ Below wb.heap.size wb wx)
      case first =>
        go_wp2_with fail
        refine (impl_LongOf' _ _ _ _).mono ?_
        rintro e wz ⟨rL, rfl, hlL, hsL, hbb⟩
        have SLL := Lib.hid (hsL.trans SL.out)
        have BZ := Lib.hid hbb
        clear hbb hsL u0_ u1_ u2_ uf_ lu_
        go_wp2_with fail
        go_meet
        exact ⟨_, _, rfl, rfl, SLL.out, add_sim SA.out SB.out _ _, below_dn BZ.out _⟩
      obtain ⟨xl, ys, rfl, rfl, hxl, hys, hbz⟩ := hcut
      have SXL := Lib.hid hxl
      have SYS := Lib.hid hys
      have BZ := Lib.hid (below_step BB.out hbz)
      clear hxl hys hbz u0_ u1_ u2_ uf_ lu_ BB
      rename World => wz
      have HXz := Lib.hid (HXt.out.go BZ.out)
      have HOz := Lib.hid (HOt.out.go BZ.out)
      have HTz := Lib.hid (HTt.out.go BZ.out)
      have HVz := Lib.hid (HV.out.go BZ.out)
      have HBz := Lib.hid (HBt.out.step BZ.out)
      have yz := BZ.out.size
      clear HXt HOt HTt HV HBt BZ
      have hD0 : strB D pa pb = false → SimD n n n m D (straD D pa pb rl) := fun h => by unfold straD; rw [h]; exact SimD.refl _ _ _ _ _
      cases h1 : gtZ xl
      · have h1' : (FloatKind.f32.format.order xl 0 == some .gt) = false := h1
        have hE := hD0 (by unfold strB; rw [← gtZ_sim SXL.out, h1]; rfl)
        go_wp2_with fail
        refine bodyPost_ret (results_none rfl _ _ _) rfl ?_
        have HBz := Lib.hid (show Wr (fun k => some (⟨b1, 0, none⟩ : Addr) = some ⟨k, 0, none⟩) w _ from HBz.out.mono (fun k _ e => by rw [e]))
        first | exact ⟨rfl, HBz.out, D, hE, HOz.out, HXz.out⟩ | exact ⟨rfl, HBz.out.drewN _, D, hE, HOz.out.drewN _, HXz.out.drewN _⟩
      · have h1' : (FloatKind.f32.format.order xl 0 == some .gt) = true := h1
        cases h2 : gtZ ys
        · have h2' : (FloatKind.f32.format.order ys 0 == some .gt) = false := h2
          have hE := hD0 (by unfold strB; rw [← gtZ_sim SYS.out, h2, Bool.and_false])
          go_wp2_with fail
          refine bodyPost_ret (results_none rfl _ _ _) rfl ?_
          have HBz := Lib.hid (show Wr (fun k => some (⟨b1, 0, none⟩ : Addr) = some ⟨k, 0, none⟩) w _ from HBz.out.mono (fun k _ e => by rw [e]))
          first | exact ⟨rfl, HBz.out, D, hE, HOz.out, HXz.out⟩ | exact ⟨rfl, HBz.out.drewN _, D, hE, HOz.out.drewN _, HXz.out.drewN _⟩
        · have h2' : (FloatKind.f32.format.order ys 0 == some .gt) = true := h2
          have hSB : strB D pa pb = true := by unfold strB; rw [← gtZ_sim SXL.out, ← gtZ_sim SYS.out, h1, h2]; rfl
          go_upto_region 5 with fail
          obtain ⟨t0_, t1_, t2_, tf_⟩ := HTz.out.facts
          have lt_ := HTz.out.lt
          go_cut [9] (fun s wx => ∃ x, s = .float .f32 x ∧ Sim .f32 x (strQ D pa pb rl) ∧ Below wz.heap.size wz wx)
          case first =>
            go_wp2_with fail
            go_meet
            exact ⟨_, rfl, quo_sim (sub_sim SXL.out (Sim.refl _ _) _ _) (mul_sim SXL.out SYS.out _ _) _ _, below_n _ _ _⟩
          obtain ⟨xq, rfl, hxq, hbz⟩ := hcut
          have SXQ := Lib.hid hxq
          have BZ := Lib.hid hbz
          clear hxq hbz t0_ t1_ t2_ tf_ lt_
          rename World => wz
          have HXt := HXz
          have HOt := HOz
          have HTt := HTz
          have HV := HVz
          have HBt := HBz
          have HXz := Lib.hid (HXt.out.go BZ.out)
          have HOz := Lib.hid (HOt.out.go BZ.out)
          have HTz := Lib.hid (HTt.out.go BZ.out)
          have HVz := Lib.hid (HV.out.go BZ.out)
          have HBz := Lib.hid (HBt.out.step BZ.out)
          have yz := BZ.out.size
          clear HXt HOt HTt HV HBt BZ
          have hw0 : Below wz.heap.size wz wz.drew := (Below.refl _ _).drew
          go_upto_region 6 with fail
          obtain ⟨b1', hb1', _, _, _, hr⟩ := HOz.out.s1 (by omega)
          cases hb1'
          have HR := Lib.hid hr
          clear hr
          refine region_inv (stat [isE (.pointer (some ⟨g, 0, none⟩)), isE (.pointer (some ⟨g, 0, none⟩)), isE (.pointer (some ⟨g, 0, none⟩)), isE (.slice (some ⟨b1, 0, none⟩) n c1), isE (.pointer (some ⟨w.heap.size, 0, none⟩)), isE (.int .i64 (pa : Int)), isE (.pointer (some ⟨g, 0, none⟩)), isE (.pointer (some ⟨g, 0, none⟩)), isE (.pointer (some ⟨g, 0, none⟩)), isE (.slice (some ⟨b1, 0, none⟩) n c1), isE (.pointer (some ⟨w.heap.size, 0, none⟩)), isE (.int .i64 (pa : Int)), isE (.pointer (some ⟨b1, pa * 3, none⟩)), isE (.agg #[.float .f32 (D.P pa).x, .float .f32 (D.P pa).y, .float .f32 (D.P pa).z]), isE (.agg #[.float .f32 v0, .float .f32 v1, .float .f32 v2]), isE (.float .f32 xq), isE (.float .f32 x5), isF (F.mul (strQ D pa pb rl) (shrF (D.W pa))), isV (vmul (strV D pa pb) (F.mul (strQ D pa pb rl) (shrF (D.W pa)))), isV (vadd (D.P pa) (vmul (strV D pa pb) (F.mul (strQ D pa pb rl) (shrF (D.W pa))))), isE (.pointer (some ⟨b1, pa * 3, none⟩)), fun _ => True]) (fun l W => Js [(21, fun W => ∃ W5 zz0 zz1 zz2, Below wz.heap.size wz W5 ∧ SimP ⟨zz0, zz1, zz2⟩ (vadd (D.P pa) (vmul (strV D pa pb) (F.mul (strQ D pa pb rl) (shrF (D.W pa))))) ∧ W = (((W5.setCell ⟨b1, pa * 3, none⟩ (.float .f32 zz0)).setCell ⟨b1, pa * 3 + 1, none⟩ (.float .f32 zz1)).setCell ⟨b1, pa * 3 + 2, none⟩ (.float .f32 zz2)))] (fun W => Below wz.heap.size wz W) l W) (by kernel_rfl) (by kernel_rfl) (by kernel_rfl) (Js.first hw0) ⟨?r0, ?r1, ?r2, ?r3, ?r4, ?r5, ?r6, ?r7, ?r8, ?r9, ?r10, ?r11, ?r12, ?r13, ?r14, ?r15, ?r16, ?r17, ?r18, ?r19, ?r20, ?r21, trivial⟩ ?hend
          case r0 =>
            intro listed a u h hu hd K hK
            have e0 : a.tmps.getD 0 undef = .pointer (some ⟨g, 0, none⟩) := h.base (by kernel_rfl)
            have f0 : a.tmps[0]? = some (.pointer (some ⟨g, 0, none⟩)) := h.old (by kernel_rfl)
            rw [if_pos (by rfl)]
            go_simp
            exact hK _ _ (fact_stat _ _ _) (isE.mk rfl) (Js.neutral h.world rfl)
          case r1 =>
            intro listed a u h hu hd K hK
            obtain ⟨v56, ev56, em56, F56⟩ := h.slot (i := 0) rfl rfl (hd _ (Array.mem_of_getElem? (i := 0) rfl) rfl)
            have e56 := ev56.trans (isE.out F56)
            have f56 := em56.trans (congrArg some (isE.out F56))
            clear ev56 em56 F56
            rw [if_pos (by rfl)]
            go_simp
            exact hK _ _ (fact_stat _ _ _) (isE.mk rfl) (Js.neutral h.world rfl)
          case r2 =>
            intro listed a u h hu hd K hK
            obtain ⟨v57, ev57, em57, F57⟩ := h.slot (i := 1) rfl rfl (hd _ (Array.mem_of_getElem? (i := 0) rfl) rfl)
            have e57 := ev57.trans (isE.out F57)
            have f57 := em57.trans (congrArg some (isE.out F57))
            clear ev57 em57 F57
            rw [if_pos (by rfl)]
            go_simp
            exact hK _ _ (fact_stat _ _ _) (isE.mk rfl) (Js.neutral h.world rfl)
          case r3 =>
            intro listed a u h hu hd K hK
            have hw := (RI.wait' h (getD_un hu) (T := 21) rfl (Array.mem_of_getElem? (i := 6) rfl) rfl rfl)
            have hA := Js.now h.world hw
            obtain ⟨v58, ev58, em58, F58⟩ := h.slot (i := 2) rfl rfl (hd _ (Array.mem_of_getElem? (i := 0) rfl) rfl)
            have e58 := ev58.trans (isE.out F58)
            have f58 := em58.trans (congrArg some (isE.out F58))
            clear ev58 em58 F58
            rw [if_pos (by rfl)]
            obtain ⟨g0, g1, g2, g3, gf⟩ := (HXz.out.go hA).facts
            obtain ⟨t0_, t1_, t2_, tf_⟩ := (HTz.out.go hA).facts
            obtain ⟨u0_, u1_, u2_, uf_⟩ := (HVz.out.go hA).facts
            obtain ⟨m0, m1, m2, ma, mb, mc⟩ := (HR.out.go hA).at3 ha
            rw [vc0] at m0
            rw [vc1] at m1
            rw [vc2] at m2
            have lm_ := (HR.out.go hA).lt
            go_simp
            exact hK _ _ (fact_stat _ _ _) (isE.mk rfl) (Js.stay hw (by decide) hA)
          case r4 =>
            intro listed a u h hu hd K hK
            have e3 : a.tmps.getD 3 undef = .pointer (some ⟨w.heap.size, 0, none⟩) := h.base (by kernel_rfl)
            have f3 : a.tmps[3]? = some (.pointer (some ⟨w.heap.size, 0, none⟩)) := h.old (by kernel_rfl)
            rw [if_pos (by rfl)]
            go_simp
            exact hK _ _ (fact_stat _ _ _) (isE.mk rfl) (Js.neutral h.world rfl)
          case r5 =>
            intro listed a u h hu hd K hK
            have hw := (RI.wait' h (getD_un hu) (T := 21) rfl (Array.mem_of_getElem? (i := 8) rfl) rfl rfl)
            have hA := Js.now h.world hw
            obtain ⟨v60, ev60, em60, F60⟩ := h.slot (i := 4) rfl rfl (hd _ (Array.mem_of_getElem? (i := 0) rfl) rfl)
            have e60 := ev60.trans (isE.out F60)
            have f60 := em60.trans (congrArg some (isE.out F60))
            clear ev60 em60 F60
            rw [if_pos (by rfl)]
            obtain ⟨g0, g1, g2, g3, gf⟩ := (HXz.out.go hA).facts
            obtain ⟨t0_, t1_, t2_, tf_⟩ := (HTz.out.go hA).facts
            obtain ⟨u0_, u1_, u2_, uf_⟩ := (HVz.out.go hA).facts
            obtain ⟨m0, m1, m2, ma, mb, mc⟩ := (HR.out.go hA).at3 ha
            rw [vc0] at m0
            rw [vc1] at m1
            rw [vc2] at m2
            have lm_ := (HR.out.go hA).lt
            go_simp
            exact hK _ _ (fact_stat _ _ _) (isE.mk rfl) (Js.stay hw (by decide) hA)
          case r6 =>
            intro listed a u h hu hd K hK
            have e0 : a.tmps.getD 0 undef = .pointer (some ⟨g, 0, none⟩) := h.base (by kernel_rfl)
            have f0 : a.tmps[0]? = some (.pointer (some ⟨g, 0, none⟩)) := h.old (by kernel_rfl)
            rw [if_pos (by rfl)]
            go_simp
            exact hK _ _ (fact_stat _ _ _) (isE.mk rfl) (Js.neutral h.world rfl)
          case r7 =>
            intro listed a u h hu hd K hK
            obtain ⟨v62, ev62, em62, F62⟩ := h.slot (i := 6) rfl rfl (hd _ (Array.mem_of_getElem? (i := 0) rfl) rfl)
            have e62 := ev62.trans (isE.out F62)
            have f62 := em62.trans (congrArg some (isE.out F62))
            clear ev62 em62 F62
            rw [if_pos (by rfl)]
            go_simp
            exact hK _ _ (fact_stat _ _ _) (isE.mk rfl) (Js.neutral h.world rfl)
          case r8 =>
            intro listed a u h hu hd K hK
            obtain ⟨v63, ev63, em63, F63⟩ := h.slot (i := 7) rfl rfl (hd _ (Array.mem_of_getElem? (i := 0) rfl) rfl)
            have e63 := ev63.trans (isE.out F63)
            have f63 := em63.trans (congrArg some (isE.out F63))
            clear ev63 em63 F63
            rw [if_pos (by rfl)]
            go_simp
            exact hK _ _ (fact_stat _ _ _) (isE.mk rfl) (Js.neutral h.world rfl)
          case r9 =>
            intro listed a u h hu hd K hK
            have hw := (RI.wait' h (getD_un hu) (T := 21) rfl (Array.mem_of_getElem? (i := 12) rfl) rfl rfl)
            have hA := Js.now h.world hw
            obtain ⟨v64, ev64, em64, F64⟩ := h.slot (i := 8) rfl rfl (hd _ (Array.mem_of_getElem? (i := 0) rfl) rfl)
            have e64 := ev64.trans (isE.out F64)
            have f64 := em64.trans (congrArg some (isE.out F64))
            clear ev64 em64 F64
            rw [if_pos (by rfl)]
            obtain ⟨g0, g1, g2, g3, gf⟩ := (HXz.out.go hA).facts
            obtain ⟨t0_, t1_, t2_, tf_⟩ := (HTz.out.go hA).facts
            obtain ⟨u0_, u1_, u2_, uf_⟩ := (HVz.out.go hA).facts
            obtain ⟨m0, m1, m2, ma, mb, mc⟩ := (HR.out.go hA).at3 ha
            rw [vc0] at m0
            rw [vc1] at m1
            rw [vc2] at m2
            have lm_ := (HR.out.go hA).lt
            go_simp
            exact hK _ _ (fact_stat _ _ _) (isE.mk rfl) (Js.stay hw (by decide) hA)
          case r10 =>
            intro listed a u h hu hd K hK
            have e3 : a.tmps.getD 3 undef = .pointer (some ⟨w.heap.size, 0, none⟩) := h.base (by kernel_rfl)
            have f3 : a.tmps[3]? = some (.pointer (some ⟨w.heap.size, 0, none⟩)) := h.old (by kernel_rfl)
            rw [if_pos (by rfl)]
            go_simp
            exact hK _ _ (fact_stat _ _ _) (isE.mk rfl) (Js.neutral h.world rfl)
          case r11 =>
            intro listed a u h hu hd K hK
            have hw := (RI.wait' h (getD_un hu) (T := 21) rfl (Array.mem_of_getElem? (i := 14) rfl) rfl rfl)
            have hA := Js.now h.world hw
            obtain ⟨v66, ev66, em66, F66⟩ := h.slot (i := 10) rfl rfl (hd _ (Array.mem_of_getElem? (i := 0) rfl) rfl)
            have e66 := ev66.trans (isE.out F66)
            have f66 := em66.trans (congrArg some (isE.out F66))
            clear ev66 em66 F66
            rw [if_pos (by rfl)]
            obtain ⟨g0, g1, g2, g3, gf⟩ := (HXz.out.go hA).facts
            obtain ⟨t0_, t1_, t2_, tf_⟩ := (HTz.out.go hA).facts
            obtain ⟨u0_, u1_, u2_, uf_⟩ := (HVz.out.go hA).facts
            obtain ⟨m0, m1, m2, ma, mb, mc⟩ := (HR.out.go hA).at3 ha
            rw [vc0] at m0
            rw [vc1] at m1
            rw [vc2] at m2
            have lm_ := (HR.out.go hA).lt
            go_simp
            exact hK _ _ (fact_stat _ _ _) (isE.mk rfl) (Js.stay hw (by decide) hA)
          case r12 =>
            intro listed a u h hu hd K hK
            obtain ⟨v65, ev65, em65, F65⟩ := h.slot (i := 9) rfl rfl (hd _ (Array.mem_of_getElem? (i := 0) rfl) rfl)
            have e65 := ev65.trans (isE.out F65)
            have f65 := em65.trans (congrArg some (isE.out F65))
            clear ev65 em65 F65
            obtain ⟨v67, ev67, em67, F67⟩ := h.slot (i := 11) rfl rfl (hd _ (Array.mem_of_getElem? (i := 1) rfl) rfl)
            have e67 := ev67.trans (isE.out F67)
            have f67 := em67.trans (congrArg some (isE.out F67))
            clear ev67 em67 F67
            rw [if_pos (by rfl)]
            go_simp
            exact hK _ _ (fact_stat _ _ _) (isE.mk rfl) (Js.neutral h.world rfl)
          case r13 =>
            intro listed a u h hu hd K hK
            have hw := (RI.wait' h (getD_un hu) (T := 21) rfl (Array.mem_of_getElem? (i := 16) rfl) rfl rfl)
            have hA := Js.now h.world hw
            obtain ⟨v68, ev68, em68, F68⟩ := h.slot (i := 12) rfl rfl (hd _ (Array.mem_of_getElem? (i := 0) rfl) rfl)
            have e68 := ev68.trans (isE.out F68)
            have f68 := em68.trans (congrArg some (isE.out F68))
            clear ev68 em68 F68
            rw [if_pos (by rfl)]
            obtain ⟨g0, g1, g2, g3, gf⟩ := (HXz.out.go hA).facts
            obtain ⟨t0_, t1_, t2_, tf_⟩ := (HTz.out.go hA).facts
            obtain ⟨u0_, u1_, u2_, uf_⟩ := (HVz.out.go hA).facts
            obtain ⟨m0, m1, m2, ma, mb, mc⟩ := (HR.out.go hA).at3 ha
            rw [vc0] at m0
            rw [vc1] at m1
            rw [vc2] at m2
            have lm_ := (HR.out.go hA).lt
            go_simp
            exact hK _ _ (fact_stat _ _ _) (isE.mk rfl) (Js.stay hw (by decide) hA)
          case r14 =>
            intro listed a u h hu hd K hK
            have hw := (RI.wait' h (getD_un hu) (T := 21) rfl (Array.mem_of_getElem? (i := 17) rfl) rfl rfl)
            have hA := Js.now h.world hw
            have e4 : a.tmps.getD 4 undef = .pointer (some ⟨k4, 0, none⟩) := h.base (by kernel_rfl)
            have f4 : a.tmps[4]? = some (.pointer (some ⟨k4, 0, none⟩)) := h.old (by kernel_rfl)
            rw [if_pos (by rfl)]
            obtain ⟨g0, g1, g2, g3, gf⟩ := (HXz.out.go hA).facts
            obtain ⟨t0_, t1_, t2_, tf_⟩ := (HTz.out.go hA).facts
            obtain ⟨u0_, u1_, u2_, uf_⟩ := (HVz.out.go hA).facts
            obtain ⟨m0, m1, m2, ma, mb, mc⟩ := (HR.out.go hA).at3 ha
            rw [vc0] at m0
            rw [vc1] at m1
            rw [vc2] at m2
            have lm_ := (HR.out.go hA).lt
            go_simp
            exact hK _ _ (fact_stat _ _ _) (isE.mk rfl) (Js.stay hw (by decide) hA)
          case r15 =>
            intro listed a u h hu hd K hK
            have e9 : a.tmps.getD 9 undef = .float .f32 xq := h.base (by kernel_rfl)
            have f9 : a.tmps[9]? = some (.float .f32 xq) := h.old (by kernel_rfl)
            rw [if_pos (by rfl)]
            go_simp
            exact hK _ _ (fact_stat _ _ _) (isE.mk rfl) (Js.neutral h.world rfl)
          case r16 =>
            intro listed a u h hu hd K hK
            have e5 : a.tmps.getD 5 undef = .float .f32 x5 := h.base (by kernel_rfl)
            have f5 : a.tmps[5]? = some (.float .f32 x5) := h.old (by kernel_rfl)
            rw [if_pos (by rfl)]
            go_simp
            exact hK _ _ (fact_stat _ _ _) (isE.mk rfl) (Js.neutral h.world rfl)
          case r17 =>
            intro listed a u h hu hd K hK
            have hw := (RI.wait' h (getD_un hu) (T := 21) rfl (Array.mem_of_getElem? (i := 20) rfl) rfl rfl)
            have hA := Js.now h.world hw
            obtain ⟨v71, ev71, em71, F71⟩ := h.slot (i := 15) rfl rfl (hd _ (Array.mem_of_getElem? (i := 0) rfl) rfl)
            have e71 := ev71.trans (isE.out F71)
            have f71 := em71.trans (congrArg some (isE.out F71))
            clear ev71 em71 F71
            obtain ⟨v72, ev72, em72, F72⟩ := h.slot (i := 16) rfl rfl (hd _ (Array.mem_of_getElem? (i := 1) rfl) rfl)
            have e72 := ev72.trans (isE.out F72)
            have f72 := em72.trans (congrArg some (isE.out F72))
            clear ev72 em72 F72
            rw [if_pos (by rfl)]
            go_simp
            exact hK _ _ (fact_stat _ _ _) (isF.mk (opV_lt32 _ _ _ _ _) (mul_sim SXQ.out SA.out _ _)) (Js.stay hw (by decide) (below_dn hA _))
          case r18 =>
            intro listed a u h hu hd K hK
            have hw := (RI.wait' h (getD_un hu) (T := 21) rfl (Array.mem_of_getElem? (i := 21) rfl) rfl rfl)
            have hA := Js.now h.world hw
            obtain ⟨v70, ev70, em70, F70⟩ := h.slot (i := 14) rfl rfl (hd _ (Array.mem_of_getElem? (i := 0) rfl) rfl)
            have e70 := ev70.trans (isE.out F70)
            have f70 := em70.trans (congrArg some (isE.out F70))
            clear ev70 em70 F70
            obtain ⟨v73, ev73, em73, F73⟩ := h.slot (i := 17) rfl rfl (hd _ (Array.mem_of_getElem? (i := 1) rfl) rfl)
            obtain ⟨x73, q73, l73, s73⟩ := isF.out F73
            have e73 := ev73.trans q73
            have f73 := em73.trans (congrArg some q73)
            clear ev73 em73 F73
            rw [if_pos (by rfl)]
            go_simp
            refine Calls.mono (impl_ScaleVector _ _ _ _ u) ?_
            rintro e u2 ⟨a0_, a1_, a2_, rfl, _, r0, r1, r2, hbb⟩
            exact hK _ _ (fact_stat _ _ _) (isV.mk ⟨r0.trans (fmul_sim SV.out.1 s73), r1.trans (fmul_sim SV.out.2.1 s73), r2.trans (fmul_sim SV.out.2.2 s73)⟩) (Js.stay hw (by decide) (hA.trans (hbb.mono hA.size)))
          case r19 =>
            intro listed a u h hu hd K hK
            have hw := (RI.wait' h (getD_un hu) (T := 21) rfl (Array.mem_of_getElem? (i := 1) rfl) rfl rfl)
            have hA := Js.now h.world hw
            obtain ⟨v69, ev69, em69, F69⟩ := h.slot (i := 13) rfl rfl (hd _ (Array.mem_of_getElem? (i := 0) rfl) rfl)
            have e69 := ev69.trans (isE.out F69)
            have f69 := em69.trans (congrArg some (isE.out F69))
            clear ev69 em69 F69
            obtain ⟨v74, ev74, em74, F74⟩ := h.slot (i := 18) rfl rfl (hd _ (Array.mem_of_getElem? (i := 1) rfl) rfl)
            obtain ⟨x74, y74, z74, q74, s74⟩ := isV.out F74
            have e74 := ev74.trans q74
            have f74 := em74.trans (congrArg some q74)
            clear ev74 em74 F74
            rw [if_pos (by rfl)]
            go_simp
            refine Calls.mono (impl_AddVectors _ _ _ _ _ _ u) ?_
            rintro e u2 ⟨a0_, a1_, a2_, rfl, _, r0, r1, r2, hbb⟩
            exact hK _ _ (fact_stat _ _ _) (isV.mk ⟨r0.trans (fadd_sim (Sim.refl _ _) s74.1), r1.trans (fadd_sim (Sim.refl _ _) s74.2.1), r2.trans (fadd_sim (Sim.refl _ _) s74.2.2)⟩) (Js.stay hw (by decide) (hA.trans (hbb.mono hA.size)))
          case r20 =>
            intro listed a u h hu hd K hK
            obtain ⟨v59, ev59, em59, F59⟩ := h.slot (i := 3) rfl rfl (hd _ (Array.mem_of_getElem? (i := 0) rfl) rfl)
            have e59 := ev59.trans (isE.out F59)
            have f59 := em59.trans (congrArg some (isE.out F59))
            clear ev59 em59 F59
            obtain ⟨v61, ev61, em61, F61⟩ := h.slot (i := 5) rfl rfl (hd _ (Array.mem_of_getElem? (i := 1) rfl) rfl)
            have e61 := ev61.trans (isE.out F61)
            have f61 := em61.trans (congrArg some (isE.out F61))
            clear ev61 em61 F61
            rw [if_pos (by rfl)]
            go_simp
            exact hK _ _ (fact_stat _ _ _) (isE.mk rfl) (Js.neutral h.world rfl)
          case r21 =>
            intro listed a u h hu hd K hK
            have hw := getD_un hu
            have hA := Js.now h.world hw
            obtain ⟨v76, ev76, em76, F76⟩ := h.slot (i := 20) rfl rfl (hd _ (Array.mem_of_getElem? (i := 0) rfl) rfl)
            have e76 := ev76.trans (isE.out F76)
            have f76 := em76.trans (congrArg some (isE.out F76))
            clear ev76 em76 F76
            obtain ⟨v75, ev75, em75, F75⟩ := h.slot (i := 19) rfl rfl (hd _ (Array.mem_of_getElem? (i := 1) rfl) rfl)
            obtain ⟨x75, y75, z75, q75, s75⟩ := isV.out F75
            have e75 := ev75.trans q75
            have f75 := em75.trans (congrArg some q75)
            clear ev75 em75 F75
            rw [if_pos (by rfl)]
            obtain ⟨g0, g1, g2, g3, gf⟩ := (HXz.out.go hA).facts
            obtain ⟨t0_, t1_, t2_, tf_⟩ := (HTz.out.go hA).facts
            obtain ⟨u0_, u1_, u2_, uf_⟩ := (HVz.out.go hA).facts
            obtain ⟨m0, m1, m2, ma, mb, mc⟩ := (HR.out.go hA).at3 ha
            rw [vc0] at m0
            rw [vc1] at m1
            rw [vc2] at m2
            have lm_ := (HR.out.go hA).lt
            go_simp
            exact hK undef _ (fact_stat _ _ _) trivial (Js.hit (un_lt hu) (Js.nil ⟨u, x75, y75, z75, hA, s75, rfl⟩))
          case hend =>
            intro listed a u h hall
            have hB : (fun W => ∃ W5 zz0 zz1 zz2, Below wz.heap.size wz W5 ∧ SimP ⟨zz0, zz1, zz2⟩ (vadd (D.P pa) (vmul (strV D pa pb) (F.mul (strQ D pa pb rl) (shrF (D.W pa))))) ∧ W = (((W5.setCell ⟨b1, pa * 3, none⟩ (.float .f32 zz0)).setCell ⟨b1, pa * 3 + 1, none⟩ (.float .f32 zz1)).setCell ⟨b1, pa * 3 + 2, none⟩ (.float .f32 zz2))) u := (Js.past h.world (hall 21 (by decide)))
            obtain ⟨v56, ev56, em56, F56⟩ := h.slot (i := 0) rfl rfl (hall 0 (by decide))
            have f56 := em56.trans (congrArg some (isE.out F56))
            clear ev56 em56 F56
            obtain ⟨v57, ev57, em57, F57⟩ := h.slot (i := 1) rfl rfl (hall 1 (by decide))
            have f57 := em57.trans (congrArg some (isE.out F57))
            clear ev57 em57 F57
            obtain ⟨v58, ev58, em58, F58⟩ := h.slot (i := 2) rfl rfl (hall 2 (by decide))
            have f58 := em58.trans (congrArg some (isE.out F58))
            clear ev58 em58 F58
            obtain ⟨v59, ev59, em59, F59⟩ := h.slot (i := 3) rfl rfl (hall 3 (by decide))
            have f59 := em59.trans (congrArg some (isE.out F59))
            clear ev59 em59 F59
            obtain ⟨v60, ev60, em60, F60⟩ := h.slot (i := 4) rfl rfl (hall 4 (by decide))
            have f60 := em60.trans (congrArg some (isE.out F60))
            clear ev60 em60 F60
            obtain ⟨v61, ev61, em61, F61⟩ := h.slot (i := 5) rfl rfl (hall 5 (by decide))
            have f61 := em61.trans (congrArg some (isE.out F61))
            clear ev61 em61 F61
            obtain ⟨v62, ev62, em62, F62⟩ := h.slot (i := 6) rfl rfl (hall 6 (by decide))
            have f62 := em62.trans (congrArg some (isE.out F62))
            clear ev62 em62 F62
            obtain ⟨v63, ev63, em63, F63⟩ := h.slot (i := 7) rfl rfl (hall 7 (by decide))
            have f63 := em63.trans (congrArg some (isE.out F63))
            clear ev63 em63 F63
            obtain ⟨v64, ev64, em64, F64⟩ := h.slot (i := 8) rfl rfl (hall 8 (by decide))
            have f64 := em64.trans (congrArg some (isE.out F64))
            clear ev64 em64 F64
            obtain ⟨v65, ev65, em65, F65⟩ := h.slot (i := 9) rfl rfl (hall 9 (by decide))
            have f65 := em65.trans (congrArg some (isE.out F65))
            clear ev65 em65 F65
            obtain ⟨v66, ev66, em66, F66⟩ := h.slot (i := 10) rfl rfl (hall 10 (by decide))
            have f66 := em66.trans (congrArg some (isE.out F66))
            clear ev66 em66 F66
            obtain ⟨v67, ev67, em67, F67⟩ := h.slot (i := 11) rfl rfl (hall 11 (by decide))
            have f67 := em67.trans (congrArg some (isE.out F67))
            clear ev67 em67 F67
            obtain ⟨v68, ev68, em68, F68⟩ := h.slot (i := 12) rfl rfl (hall 12 (by decide))
            have f68 := em68.trans (congrArg some (isE.out F68))
            clear ev68 em68 F68
            obtain ⟨v69, ev69, em69, F69⟩ := h.slot (i := 13) rfl rfl (hall 13 (by decide))
            have f69 := em69.trans (congrArg some (isE.out F69))
            clear ev69 em69 F69
            obtain ⟨v70, ev70, em70, F70⟩ := h.slot (i := 14) rfl rfl (hall 14 (by decide))
            have f70 := em70.trans (congrArg some (isE.out F70))
            clear ev70 em70 F70
            obtain ⟨v71, ev71, em71, F71⟩ := h.slot (i := 15) rfl rfl (hall 15 (by decide))
            have f71 := em71.trans (congrArg some (isE.out F71))
            clear ev71 em71 F71
            obtain ⟨v72, ev72, em72, F72⟩ := h.slot (i := 16) rfl rfl (hall 16 (by decide))
            have f72 := em72.trans (congrArg some (isE.out F72))
            clear ev72 em72 F72
            obtain ⟨v73, ev73, em73, F73⟩ := h.slot (i := 17) rfl rfl (hall 17 (by decide))
            obtain ⟨x73, q73, l73, s73⟩ := isF.out F73
            have f73 := em73.trans (congrArg some q73)
            clear ev73 em73 F73
            obtain ⟨v74, ev74, em74, F74⟩ := h.slot (i := 18) rfl rfl (hall 18 (by decide))
            obtain ⟨x74, y74, z74, q74, s74⟩ := isV.out F74
            have f74 := em74.trans (congrArg some q74)
            clear ev74 em74 F74
            obtain ⟨v75, ev75, em75, F75⟩ := h.slot (i := 19) rfl rfl (hall 19 (by decide))
            obtain ⟨x75, y75, z75, q75, s75⟩ := isV.out F75
            have f75 := em75.trans (congrArg some q75)
            clear ev75 em75 F75
            obtain ⟨v76, ev76, em76, F76⟩ := h.slot (i := 20) rfl rfl (hall 20 (by decide))
            have f76 := em76.trans (congrArg some (isE.out F76))
            clear ev76 em76 F76
            have ha := h.act [56, 57, 58, 59, 60, 61, 62, 63, 64, 65, 66, 67, 68, 69, 70, 71, 72, 73, 74, 75, 76] [_, _, _, _, _, _, _, _, _, _, _, _, _, _, _, _, _, _, _, _, _] (by kernel_rfl) ⟨f56, f57, f58, f59, f60, f61, f62, f63, f64, f65, f66, f67, f68, f69, f70, f71, f72, f73, f74, f75, f76, trivial⟩
            clear f56 f57 f58 f59 f60 f61 f62 f63 f64 f65 f66 f67 f68 f69 f70 f71 f72 f73 f74 f75 f76
            simp only [setAll, List.setIfInBounds_toArray, List.set_cons_zero, List.set_cons_succ] at ha
            subst ha
            clear h hall
            obtain ⟨W5, r0, r1, r2, hb5, hs5, hu5⟩ := hB
            obtain ⟨wy, rfl⟩ : ∃ z : World, z = u := ⟨u, rfl⟩
            have S5 := Lib.hid hs5
            have y5 := hb5.size
            have HXy := Lib.hid (show Bx wy g 32 (.slice (some ⟨b1, 0, none⟩) n c1) (.slice A2 n c2) (.slice A3 n c3) (.slice A4 m c4) by rw [hu5]; exact (HXz.out.go hb5).far3' hn1 _ _ _)
            have HOy := Lib.hid (show Own wy M (some ⟨b1, 0, none⟩) A2 A3 A4 c1 c2 c3 c4 n n n m (setP D pa ⟨r0, r1, r2⟩) by rw [hu5]; exact (HOz.out.go hb5).setP rfl ha r0 r1 r2)
            have HTy := Lib.hid (show Tx wy w.heap.size 91 (.int .i64 (pa : Int)) (.int .i64 (pb : Int)) (.float .f32 rl) by rw [hu5]; exact (HTz.out.go hb5).far3' (by omega) _ _ _)
            have HVy := Lib.hid (show Tx wy k4 38 (.float .f32 v0) (.float .f32 v1) (.float .f32 v2) by rw [hu5]; exact (HVz.out.go hb5).far3' (by omega) _ _ _)
            have HBy := Lib.hid (show Wr (fun k => k = b1) w wy by rw [hu5]; exact (HBz.out.step hb5).trans (Wr.set3 _ _ _ _ _ _ _ _))
            have yy : wy.heap.size = W5.heap.size := by rw [hu5]; simp [World.setCell]
            clear hu5 hb5 hs5 hw0 HXz HOz HTz HVz HBz HR
            have hw0 : Below wy.heap.size wy wy.drew := (Below.refl _ _).drew
            go_upto_region 7 with fail
            obtain ⟨b1', hb1', _, _, _, hr⟩ := HOy.out.s1 (by omega)
            cases hb1'
            have HR := Lib.hid hr
            clear hr
            refine region_inv (stat [isE (.pointer (some ⟨g, 0, none⟩)), isE (.pointer (some ⟨g, 0, none⟩)), isE (.pointer (some ⟨g, 0, none⟩)), isE (.slice (some ⟨b1, 0, none⟩) n c1), isE (.pointer (some ⟨w.heap.size, 1, none⟩)), isE (.int .i64 (pb : Int)), isE (.pointer (some ⟨g, 0, none⟩)), isE (.pointer (some ⟨g, 0, none⟩)), isE (.pointer (some ⟨g, 0, none⟩)), isE (.slice (some ⟨b1, 0, none⟩) n c1), isE (.pointer (some ⟨w.heap.size, 1, none⟩)), isE (.int .i64 (pb : Int)), isE (.pointer (some ⟨b1, pb * 3, none⟩)), isE (.agg #[.float .f32 ((setP D pa ⟨r0, r1, r2⟩).P pb).x, .float .f32 ((setP D pa ⟨r0, r1, r2⟩).P pb).y, .float .f32 ((setP D pa ⟨r0, r1, r2⟩).P pb).z]), isE (.agg #[.float .f32 v0, .float .f32 v1, .float .f32 v2]), isE (.float .f32 xq), isE (.float .f32 x6), isF (F.mul (strQ D pa pb rl) (shrF (D.W pb))), isV (vmul (strV D pa pb) (F.mul (strQ D pa pb rl) (shrF (D.W pb)))), isV (vsub ((setP D pa ⟨r0, r1, r2⟩).P pb) (vmul (strV D pa pb) (F.mul (strQ D pa pb rl) (shrF (D.W pb))))), isE (.pointer (some ⟨b1, pb * 3, none⟩)), fun _ => True]) (fun l W => Js [(21, fun W => ∃ W5 zz0 zz1 zz2, Below wy.heap.size wy W5 ∧ SimP ⟨zz0, zz1, zz2⟩ (vsub ((setP D pa ⟨r0, r1, r2⟩).P pb) (vmul (strV D pa pb) (F.mul (strQ D pa pb rl) (shrF (D.W pb))))) ∧ W = (((W5.setCell ⟨b1, pb * 3, none⟩ (.float .f32 zz0)).setCell ⟨b1, pb * 3 + 1, none⟩ (.float .f32 zz1)).setCell ⟨b1, pb * 3 + 2, none⟩ (.float .f32 zz2)))] (fun W => Below wy.heap.size wy W) l W) (by kernel_rfl) (by kernel_rfl) (by kernel_rfl) (Js.first hw0) ⟨?r0, ?r1, ?r2, ?r3, ?r4, ?r5, ?r6, ?r7, ?r8, ?r9, ?r10, ?r11, ?r12, ?r13, ?r14, ?r15, ?r16, ?r17, ?r18, ?r19, ?r20, ?r21, trivial⟩ ?hend
            case r0 =>
              intro listed a u h hu hd K hK
              have e0 : a.tmps.getD 0 undef = .pointer (some ⟨g, 0, none⟩) := h.base (by kernel_rfl)
              have f0 : a.tmps[0]? = some (.pointer (some ⟨g, 0, none⟩)) := h.old (by kernel_rfl)
              rw [if_pos (by rfl)]
              go_simp
              exact hK _ _ (fact_stat _ _ _) (isE.mk rfl) (Js.neutral h.world rfl)
            case r1 =>
              intro listed a u h hu hd K hK
              obtain ⟨v77, ev77, em77, F77⟩ := h.slot (i := 0) rfl rfl (hd _ (Array.mem_of_getElem? (i := 0) rfl) rfl)
              have e77 := ev77.trans (isE.out F77)
              have f77 := em77.trans (congrArg some (isE.out F77))
              clear ev77 em77 F77
              rw [if_pos (by rfl)]
              go_simp
              exact hK _ _ (fact_stat _ _ _) (isE.mk rfl) (Js.neutral h.world rfl)
            case r2 =>
              intro listed a u h hu hd K hK
              obtain ⟨v78, ev78, em78, F78⟩ := h.slot (i := 1) rfl rfl (hd _ (Array.mem_of_getElem? (i := 0) rfl) rfl)
              have e78 := ev78.trans (isE.out F78)
              have f78 := em78.trans (congrArg some (isE.out F78))
              clear ev78 em78 F78
              rw [if_pos (by rfl)]
              go_simp
              exact hK _ _ (fact_stat _ _ _) (isE.mk rfl) (Js.neutral h.world rfl)
            case r3 =>
              intro listed a u h hu hd K hK
              have hw := (RI.wait' h (getD_un hu) (T := 21) rfl (Array.mem_of_getElem? (i := 6) rfl) rfl rfl)
              have hA := Js.now h.world hw
              obtain ⟨v79, ev79, em79, F79⟩ := h.slot (i := 2) rfl rfl (hd _ (Array.mem_of_getElem? (i := 0) rfl) rfl)
              have e79 := ev79.trans (isE.out F79)
              have f79 := em79.trans (congrArg some (isE.out F79))
              clear ev79 em79 F79
              rw [if_pos (by rfl)]
              obtain ⟨g0, g1, g2, g3, gf⟩ := (HXy.out.go hA).facts
              obtain ⟨t0_, t1_, t2_, tf_⟩ := (HTy.out.go hA).facts
              obtain ⟨u0_, u1_, u2_, uf_⟩ := (HVy.out.go hA).facts
              obtain ⟨m0, m1, m2, ma, mb, mc⟩ := (HR.out.go hA).at3 hb
              rw [vc0] at m0
              rw [vc1] at m1
              rw [vc2] at m2
              have lm_ := (HR.out.go hA).lt
              go_simp
              exact hK _ _ (fact_stat _ _ _) (isE.mk rfl) (Js.stay hw (by decide) hA)
            case r4 =>
              intro listed a u h hu hd K hK
              have e3 : a.tmps.getD 3 undef = .pointer (some ⟨w.heap.size, 0, none⟩) := h.base (by kernel_rfl)
              have f3 : a.tmps[3]? = some (.pointer (some ⟨w.heap.size, 0, none⟩)) := h.old (by kernel_rfl)
              rw [if_pos (by rfl)]
              go_simp
              exact hK _ _ (fact_stat _ _ _) (isE.mk rfl) (Js.neutral h.world rfl)
            case r5 =>
              intro listed a u h hu hd K hK
              have hw := (RI.wait' h (getD_un hu) (T := 21) rfl (Array.mem_of_getElem? (i := 8) rfl) rfl rfl)
              have hA := Js.now h.world hw
              obtain ⟨v81, ev81, em81, F81⟩ := h.slot (i := 4) rfl rfl (hd _ (Array.mem_of_getElem? (i := 0) rfl) rfl)
              have e81 := ev81.trans (isE.out F81)
              have f81 := em81.trans (congrArg some (isE.out F81))
              clear ev81 em81 F81
              rw [if_pos (by rfl)]
              obtain ⟨g0, g1, g2, g3, gf⟩ := (HXy.out.go hA).facts
              obtain ⟨t0_, t1_, t2_, tf_⟩ := (HTy.out.go hA).facts
              obtain ⟨u0_, u1_, u2_, uf_⟩ := (HVy.out.go hA).facts
              obtain ⟨m0, m1, m2, ma, mb, mc⟩ := (HR.out.go hA).at3 hb
              rw [vc0] at m0
              rw [vc1] at m1
              rw [vc2] at m2
              have lm_ := (HR.out.go hA).lt
              go_simp
              exact hK _ _ (fact_stat _ _ _) (isE.mk rfl) (Js.stay hw (by decide) hA)
            case r6 =>
              intro listed a u h hu hd K hK
              have e0 : a.tmps.getD 0 undef = .pointer (some ⟨g, 0, none⟩) := h.base (by kernel_rfl)
              have f0 : a.tmps[0]? = some (.pointer (some ⟨g, 0, none⟩)) := h.old (by kernel_rfl)
              rw [if_pos (by rfl)]
              go_simp
              exact hK _ _ (fact_stat _ _ _) (isE.mk rfl) (Js.neutral h.world rfl)
            case r7 =>
              intro listed a u h hu hd K hK
              obtain ⟨v83, ev83, em83, F83⟩ := h.slot (i := 6) rfl rfl (hd _ (Array.mem_of_getElem? (i := 0) rfl) rfl)
              have e83 := ev83.trans (isE.out F83)
              have f83 := em83.trans (congrArg some (isE.out F83))
              clear ev83 em83 F83
              rw [if_pos (by rfl)]
              go_simp
              exact hK _ _ (fact_stat _ _ _) (isE.mk rfl) (Js.neutral h.world rfl)
            case r8 =>
              intro listed a u h hu hd K hK
              obtain ⟨v84, ev84, em84, F84⟩ := h.slot (i := 7) rfl rfl (hd _ (Array.mem_of_getElem? (i := 0) rfl) rfl)
              have e84 := ev84.trans (isE.out F84)
              have f84 := em84.trans (congrArg some (isE.out F84))
              clear ev84 em84 F84
              rw [if_pos (by rfl)]
              go_simp
              exact hK _ _ (fact_stat _ _ _) (isE.mk rfl) (Js.neutral h.world rfl)
            case r9 =>
              intro listed a u h hu hd K hK
              have hw := (RI.wait' h (getD_un hu) (T := 21) rfl (Array.mem_of_getElem? (i := 12) rfl) rfl rfl)
              have hA := Js.now h.world hw
              obtain ⟨v85, ev85, em85, F85⟩ := h.slot (i := 8) rfl rfl (hd _ (Array.mem_of_getElem? (i := 0) rfl) rfl)
              have e85 := ev85.trans (isE.out F85)
              have f85 := em85.trans (congrArg some (isE.out F85))
              clear ev85 em85 F85
              rw [if_pos (by rfl)]
              obtain ⟨g0, g1, g2, g3, gf⟩ := (HXy.out.go hA).facts
              obtain ⟨t0_, t1_, t2_, tf_⟩ := (HTy.out.go hA).facts
              obtain ⟨u0_, u1_, u2_, uf_⟩ := (HVy.out.go hA).facts
              obtain ⟨m0, m1, m2, ma, mb, mc⟩ := (HR.out.go hA).at3 hb
              rw [vc0] at m0
              rw [vc1] at m1
              rw [vc2] at m2
              have lm_ := (HR.out.go hA).lt
              go_simp
              exact hK _ _ (fact_stat _ _ _) (isE.mk rfl) (Js.stay hw (by decide) hA)
            case r10 =>
              intro listed a u h hu hd K hK
              have e3 : a.tmps.getD 3 undef = .pointer (some ⟨w.heap.size, 0, none⟩) := h.base (by kernel_rfl)
              have f3 : a.tmps[3]? = some (.pointer (some ⟨w.heap.size, 0, none⟩)) := h.old (by kernel_rfl)
              rw [if_pos (by rfl)]
              go_simp
              exact hK _ _ (fact_stat _ _ _) (isE.mk rfl) (Js.neutral h.world rfl)
            case r11 =>
              intro listed a u h hu hd K hK
              have hw := (RI.wait' h (getD_un hu) (T := 21) rfl (Array.mem_of_getElem? (i := 14) rfl) rfl rfl)
              have hA := Js.now h.world hw
              obtain ⟨v87, ev87, em87, F87⟩ := h.slot (i := 10) rfl rfl (hd _ (Array.mem_of_getElem? (i := 0) rfl) rfl)
              have e87 := ev87.trans (isE.out F87)
              have f87 := em87.trans (congrArg some (isE.out F87))
              clear ev87 em87 F87
              rw [if_pos (by rfl)]
              obtain ⟨g0, g1, g2, g3, gf⟩ := (HXy.out.go hA).facts
              obtain ⟨t0_, t1_, t2_, tf_⟩ := (HTy.out.go hA).facts
              obtain ⟨u0_, u1_, u2_, uf_⟩ := (HVy.out.go hA).facts
              obtain ⟨m0, m1, m2, ma, mb, mc⟩ := (HR.out.go hA).at3 hb
              rw [vc0] at m0
              rw [vc1] at m1
              rw [vc2] at m2
              have lm_ := (HR.out.go hA).lt
              go_simp
              exact hK _ _ (fact_stat _ _ _) (isE.mk rfl) (Js.stay hw (by decide) hA)
            case r12 =>
              intro listed a u h hu hd K hK
              obtain ⟨v86, ev86, em86, F86⟩ := h.slot (i := 9) rfl rfl (hd _ (Array.mem_of_getElem? (i := 0) rfl) rfl)
              have e86 := ev86.trans (isE.out F86)
              have f86 := em86.trans (congrArg some (isE.out F86))
              clear ev86 em86 F86
              obtain ⟨v88, ev88, em88, F88⟩ := h.slot (i := 11) rfl rfl (hd _ (Array.mem_of_getElem? (i := 1) rfl) rfl)
              have e88 := ev88.trans (isE.out F88)
              have f88 := em88.trans (congrArg some (isE.out F88))
              clear ev88 em88 F88
              rw [if_pos (by rfl)]
              go_simp
              exact hK _ _ (fact_stat _ _ _) (isE.mk rfl) (Js.neutral h.world rfl)
            case r13 =>
              intro listed a u h hu hd K hK
              have hw := (RI.wait' h (getD_un hu) (T := 21) rfl (Array.mem_of_getElem? (i := 16) rfl) rfl rfl)
              have hA := Js.now h.world hw
              obtain ⟨v89, ev89, em89, F89⟩ := h.slot (i := 12) rfl rfl (hd _ (Array.mem_of_getElem? (i := 0) rfl) rfl)
              have e89 := ev89.trans (isE.out F89)
              have f89 := em89.trans (congrArg some (isE.out F89))
              clear ev89 em89 F89
              rw [if_pos (by rfl)]
              obtain ⟨g0, g1, g2, g3, gf⟩ := (HXy.out.go hA).facts
              obtain ⟨t0_, t1_, t2_, tf_⟩ := (HTy.out.go hA).facts
              obtain ⟨u0_, u1_, u2_, uf_⟩ := (HVy.out.go hA).facts
              obtain ⟨m0, m1, m2, ma, mb, mc⟩ := (HR.out.go hA).at3 hb
              rw [vc0] at m0
              rw [vc1] at m1
              rw [vc2] at m2
              have lm_ := (HR.out.go hA).lt
              go_simp
              exact hK _ _ (fact_stat _ _ _) (isE.mk rfl) (Js.stay hw (by decide) hA)
            case r14 =>
              intro listed a u h hu hd K hK
              have hw := (RI.wait' h (getD_un hu) (T := 21) rfl (Array.mem_of_getElem? (i := 17) rfl) rfl rfl)
              have hA := Js.now h.world hw
              have e4 : a.tmps.getD 4 undef = .pointer (some ⟨k4, 0, none⟩) := h.base (by kernel_rfl)
              have f4 : a.tmps[4]? = some (.pointer (some ⟨k4, 0, none⟩)) := h.old (by kernel_rfl)
              rw [if_pos (by rfl)]
              obtain ⟨g0, g1, g2, g3, gf⟩ := (HXy.out.go hA).facts
              obtain ⟨t0_, t1_, t2_, tf_⟩ := (HTy.out.go hA).facts
              obtain ⟨u0_, u1_, u2_, uf_⟩ := (HVy.out.go hA).facts
              obtain ⟨m0, m1, m2, ma, mb, mc⟩ := (HR.out.go hA).at3 hb
              rw [vc0] at m0
              rw [vc1] at m1
              rw [vc2] at m2
              have lm_ := (HR.out.go hA).lt
              go_simp
              exact hK _ _ (fact_stat _ _ _) (isE.mk rfl) (Js.stay hw (by decide) hA)
            case r15 =>
              intro listed a u h hu hd K hK
              have e9 : a.tmps.getD 9 undef = .float .f32 xq := h.base (by kernel_rfl)
              have f9 : a.tmps[9]? = some (.float .f32 xq) := h.old (by kernel_rfl)
              rw [if_pos (by rfl)]
              go_simp
              exact hK _ _ (fact_stat _ _ _) (isE.mk rfl) (Js.neutral h.world rfl)
            case r16 =>
              intro listed a u h hu hd K hK
              have e6 : a.tmps.getD 6 undef = .float .f32 x6 := h.base (by kernel_rfl)
              have f6 : a.tmps[6]? = some (.float .f32 x6) := h.old (by kernel_rfl)
              rw [if_pos (by rfl)]
              go_simp
              exact hK _ _ (fact_stat _ _ _) (isE.mk rfl) (Js.neutral h.world rfl)
            case r17 =>
              intro listed a u h hu hd K hK
              have hw := (RI.wait' h (getD_un hu) (T := 21) rfl (Array.mem_of_getElem? (i := 20) rfl) rfl rfl)
              have hA := Js.now h.world hw
              obtain ⟨v92, ev92, em92, F92⟩ := h.slot (i := 15) rfl rfl (hd _ (Array.mem_of_getElem? (i := 0) rfl) rfl)
              have e92 := ev92.trans (isE.out F92)
              have f92 := em92.trans (congrArg some (isE.out F92))
              clear ev92 em92 F92
              obtain ⟨v93, ev93, em93, F93⟩ := h.slot (i := 16) rfl rfl (hd _ (Array.mem_of_getElem? (i := 1) rfl) rfl)
              have e93 := ev93.trans (isE.out F93)
              have f93 := em93.trans (congrArg some (isE.out F93))
              clear ev93 em93 F93
              rw [if_pos (by rfl)]
              go_simp
              exact hK _ _ (fact_stat _ _ _) (isF.mk (opV_lt32 _ _ _ _ _) (mul_sim SXQ.out SB.out _ _)) (Js.stay hw (by decide) (below_dn hA _))
            case r18 =>
              intro listed a u h hu hd K hK
              have hw := (RI.wait' h (getD_un hu) (T := 21) rfl (Array.mem_of_getElem? (i := 21) rfl) rfl rfl)
              have hA := Js.now h.world hw
              obtain ⟨v91, ev91, em91, F91⟩ := h.slot (i := 14) rfl rfl (hd _ (Array.mem_of_getElem? (i := 0) rfl) rfl)
              have e91 := ev91.trans (isE.out F91)
              have f91 := em91.trans (congrArg some (isE.out F91))
              clear ev91 em91 F91
              obtain ⟨v94, ev94, em94, F94⟩ := h.slot (i := 17) rfl rfl (hd _ (Array.mem_of_getElem? (i := 1) rfl) rfl)
              obtain ⟨x94, q94, l94, s94⟩ := isF.out F94
              have e94 := ev94.trans q94
              have f94 := em94.trans (congrArg some q94)
              clear ev94 em94 F94
              rw [if_pos (by rfl)]
              go_simp
              refine Calls.mono (impl_ScaleVector _ _ _ _ u) ?_
              rintro e u2 ⟨a0_, a1_, a2_, rfl, _, r0, r1, r2, hbb⟩
              exact hK _ _ (fact_stat _ _ _) (isV.mk ⟨r0.trans (fmul_sim SV.out.1 s94), r1.trans (fmul_sim SV.out.2.1 s94), r2.trans (fmul_sim SV.out.2.2 s94)⟩) (Js.stay hw (by decide) (hA.trans (hbb.mono hA.size)))
            case r19 =>
              intro listed a u h hu hd K hK
              have hw := (RI.wait' h (getD_un hu) (T := 21) rfl (Array.mem_of_getElem? (i := 1) rfl) rfl rfl)
              have hA := Js.now h.world hw
              obtain ⟨v90, ev90, em90, F90⟩ := h.slot (i := 13) rfl rfl (hd _ (Array.mem_of_getElem? (i := 0) rfl) rfl)
              have e90 := ev90.trans (isE.out F90)
              have f90 := em90.trans (congrArg some (isE.out F90))
              clear ev90 em90 F90
              obtain ⟨v95, ev95, em95, F95⟩ := h.slot (i := 18) rfl rfl (hd _ (Array.mem_of_getElem? (i := 1) rfl) rfl)
              obtain ⟨x95, y95, z95, q95, s95⟩ := isV.out F95
              have e95 := ev95.trans q95
              have f95 := em95.trans (congrArg some q95)
              clear ev95 em95 F95
              rw [if_pos (by rfl)]
              go_simp
              refine Calls.mono (impl_LessVectors _ _ _ _ _ _ u) ?_
              rintro e u2 ⟨a0_, a1_, a2_, rfl, _, r0, r1, r2, hbb⟩
              exact hK _ _ (fact_stat _ _ _) (isV.mk ⟨r0.trans (fsub_sim (Sim.refl _ _) s95.1), r1.trans (fsub_sim (Sim.refl _ _) s95.2.1), r2.trans (fsub_sim (Sim.refl _ _) s95.2.2)⟩) (Js.stay hw (by decide) (hA.trans (hbb.mono hA.size)))
            case r20 =>
              intro listed a u h hu hd K hK
              obtain ⟨v80, ev80, em80, F80⟩ := h.slot (i := 3) rfl rfl (hd _ (Array.mem_of_getElem? (i := 0) rfl) rfl)
              have e80 := ev80.trans (isE.out F80)
              have f80 := em80.trans (congrArg some (isE.out F80))
              clear ev80 em80 F80
              obtain ⟨v82, ev82, em82, F82⟩ := h.slot (i := 5) rfl rfl (hd _ (Array.mem_of_getElem? (i := 1) rfl) rfl)
              have e82 := ev82.trans (isE.out F82)
              have f82 := em82.trans (congrArg some (isE.out F82))
              clear ev82 em82 F82
              rw [if_pos (by rfl)]
              go_simp
              exact hK _ _ (fact_stat _ _ _) (isE.mk rfl) (Js.neutral h.world rfl)
            case r21 =>
              intro listed a u h hu hd K hK
              have hw := getD_un hu
              have hA := Js.now h.world hw
              obtain ⟨v97, ev97, em97, F97⟩ := h.slot (i := 20) rfl rfl (hd _ (Array.mem_of_getElem? (i := 0) rfl) rfl)
              have e97 := ev97.trans (isE.out F97)
              have f97 := em97.trans (congrArg some (isE.out F97))
              clear ev97 em97 F97
              obtain ⟨v96, ev96, em96, F96⟩ := h.slot (i := 19) rfl rfl (hd _ (Array.mem_of_getElem? (i := 1) rfl) rfl)
              obtain ⟨x96, y96, z96, q96, s96⟩ := isV.out F96
              have e96 := ev96.trans q96
              have f96 := em96.trans (congrArg some q96)
              clear ev96 em96 F96
              rw [if_pos (by rfl)]
              obtain ⟨g0, g1, g2, g3, gf⟩ := (HXy.out.go hA).facts
              obtain ⟨t0_, t1_, t2_, tf_⟩ := (HTy.out.go hA).facts
              obtain ⟨u0_, u1_, u2_, uf_⟩ := (HVy.out.go hA).facts
              obtain ⟨m0, m1, m2, ma, mb, mc⟩ := (HR.out.go hA).at3 hb
              rw [vc0] at m0
              rw [vc1] at m1
              rw [vc2] at m2
              have lm_ := (HR.out.go hA).lt
              go_simp
              exact hK undef _ (fact_stat _ _ _) trivial (Js.hit (un_lt hu) (Js.nil ⟨u, x96, y96, z96, hA, s96, rfl⟩))
            case hend =>
              intro listed a u h hall
              have hB : (fun W => ∃ W5 zz0 zz1 zz2, Below wy.heap.size wy W5 ∧ SimP ⟨zz0, zz1, zz2⟩ (vsub ((setP D pa ⟨r0, r1, r2⟩).P pb) (vmul (strV D pa pb) (F.mul (strQ D pa pb rl) (shrF (D.W pb))))) ∧ W = (((W5.setCell ⟨b1, pb * 3, none⟩ (.float .f32 zz0)).setCell ⟨b1, pb * 3 + 1, none⟩ (.float .f32 zz1)).setCell ⟨b1, pb * 3 + 2, none⟩ (.float .f32 zz2))) u := (Js.past h.world (hall 21 (by decide)))
              obtain ⟨v77, ev77, em77, F77⟩ := h.slot (i := 0) rfl rfl (hall 0 (by decide))
              have f77 := em77.trans (congrArg some (isE.out F77))
              clear ev77 em77 F77
              obtain ⟨v78, ev78, em78, F78⟩ := h.slot (i := 1) rfl rfl (hall 1 (by decide))
              have f78 := em78.trans (congrArg some (isE.out F78))
              clear ev78 em78 F78
              obtain ⟨v79, ev79, em79, F79⟩ := h.slot (i := 2) rfl rfl (hall 2 (by decide))
              have f79 := em79.trans (congrArg some (isE.out F79))
              clear ev79 em79 F79
              obtain ⟨v80, ev80, em80, F80⟩ := h.slot (i := 3) rfl rfl (hall 3 (by decide))
              have f80 := em80.trans (congrArg some (isE.out F80))
              clear ev80 em80 F80
              obtain ⟨v81, ev81, em81, F81⟩ := h.slot (i := 4) rfl rfl (hall 4 (by decide))
              have f81 := em81.trans (congrArg some (isE.out F81))
              clear ev81 em81 F81
              obtain ⟨v82, ev82, em82, F82⟩ := h.slot (i := 5) rfl rfl (hall 5 (by decide))
              have f82 := em82.trans (congrArg some (isE.out F82))
              clear ev82 em82 F82
              obtain ⟨v83, ev83, em83, F83⟩ := h.slot (i := 6) rfl rfl (hall 6 (by decide))
              have f83 := em83.trans (congrArg some (isE.out F83))
              clear ev83 em83 F83
              obtain ⟨v84, ev84, em84, F84⟩ := h.slot (i := 7) rfl rfl (hall 7 (by decide))
              have f84 := em84.trans (congrArg some (isE.out F84))
              clear ev84 em84 F84
              obtain ⟨v85, ev85, em85, F85⟩ := h.slot (i := 8) rfl rfl (hall 8 (by decide))
              have f85 := em85.trans (congrArg some (isE.out F85))
              clear ev85 em85 F85
              obtain ⟨v86, ev86, em86, F86⟩ := h.slot (i := 9) rfl rfl (hall 9 (by decide))
              have f86 := em86.trans (congrArg some (isE.out F86))
              clear ev86 em86 F86
              obtain ⟨v87, ev87, em87, F87⟩ := h.slot (i := 10) rfl rfl (hall 10 (by decide))
              have f87 := em87.trans (congrArg some (isE.out F87))
              clear ev87 em87 F87
              obtain ⟨v88, ev88, em88, F88⟩ := h.slot (i := 11) rfl rfl (hall 11 (by decide))
              have f88 := em88.trans (congrArg some (isE.out F88))
              clear ev88 em88 F88
              obtain ⟨v89, ev89, em89, F89⟩ := h.slot (i := 12) rfl rfl (hall 12 (by decide))
              have f89 := em89.trans (congrArg some (isE.out F89))
              clear ev89 em89 F89
              obtain ⟨v90, ev90, em90, F90⟩ := h.slot (i := 13) rfl rfl (hall 13 (by decide))
              have f90 := em90.trans (congrArg some (isE.out F90))
              clear ev90 em90 F90
              obtain ⟨v91, ev91, em91, F91⟩ := h.slot (i := 14) rfl rfl (hall 14 (by decide))
              have f91 := em91.trans (congrArg some (isE.out F91))
              clear ev91 em91 F91
              obtain ⟨v92, ev92, em92, F92⟩ := h.slot (i := 15) rfl rfl (hall 15 (by decide))
              have f92 := em92.trans (congrArg some (isE.out F92))
              clear ev92 em92 F92
              obtain ⟨v93, ev93, em93, F93⟩ := h.slot (i := 16) rfl rfl (hall 16 (by decide))
              have f93 := em93.trans (congrArg some (isE.out F93))
              clear ev93 em93 F93
              obtain ⟨v94, ev94, em94, F94⟩ := h.slot (i := 17) rfl rfl (hall 17 (by decide))
              obtain ⟨x94, q94, l94, s94⟩ := isF.out F94
              have f94 := em94.trans (congrArg some q94)
              clear ev94 em94 F94
              obtain ⟨v95, ev95, em95, F95⟩ := h.slot (i := 18) rfl rfl (hall 18 (by decide))
              obtain ⟨x95, y95, z95, q95, s95⟩ := isV.out F95
              have f95 := em95.trans (congrArg some q95)
              clear ev95 em95 F95
              obtain ⟨v96, ev96, em96, F96⟩ := h.slot (i := 19) rfl rfl (hall 19 (by decide))
              obtain ⟨x96, y96, z96, q96, s96⟩ := isV.out F96
              have f96 := em96.trans (congrArg some q96)
              clear ev96 em96 F96
              obtain ⟨v97, ev97, em97, F97⟩ := h.slot (i := 20) rfl rfl (hall 20 (by decide))
              have f97 := em97.trans (congrArg some (isE.out F97))
              clear ev97 em97 F97
              have ha := h.act [77, 78, 79, 80, 81, 82, 83, 84, 85, 86, 87, 88, 89, 90, 91, 92, 93, 94, 95, 96, 97] [_, _, _, _, _, _, _, _, _, _, _, _, _, _, _, _, _, _, _, _, _] (by kernel_rfl) ⟨f77, f78, f79, f80, f81, f82, f83, f84, f85, f86, f87, f88, f89, f90, f91, f92, f93, f94, f95, f96, f97, trivial⟩
              clear f77 f78 f79 f80 f81 f82 f83 f84 f85 f86 f87 f88 f89 f90 f91 f92 f93 f94 f95 f96 f97
              simp only [setAll, List.setIfInBounds_toArray, List.set_cons_zero, List.set_cons_succ] at ha
              subst ha
              clear h hall
              obtain ⟨W5, q0, q1, q2, hb5, hs5, hu5⟩ := hB
              obtain ⟨wx, rfl⟩ : ∃ z : World, z = u := ⟨u, rfl⟩
              have S6 := Lib.hid hs5
              have y6 := hb5.size
              have HXx := Lib.hid (show Bx wx g 32 (.slice (some ⟨b1, 0, none⟩) n c1) (.slice A2 n c2) (.slice A3 n c3) (.slice A4 m c4) by rw [hu5]; exact (HXy.out.go hb5).far3' hn1 _ _ _)
              have HOx := Lib.hid (show Own wx M (some ⟨b1, 0, none⟩) A2 A3 A4 c1 c2 c3 c4 n n n m (setP (setP D pa ⟨r0, r1, r2⟩) pb ⟨q0, q1, q2⟩) by rw [hu5]; exact (HOy.out.go hb5).setP rfl hb q0 q1 q2)
              have HBx := Lib.hid (show Wr (fun k => k = b1) w wx by rw [hu5]; exact (HBy.out.step hb5).trans (Wr.set3 _ _ _ _ _ _ _ _))
              have hA1 : SimD n n n m (setP D pa ⟨r0, r1, r2⟩) (strA D pa pb rl) := setP_sim (SimD.refl _ _ _ _ D) S5.out
              have hF : SimD n n n m (setP (setP D pa ⟨r0, r1, r2⟩) pb ⟨q0, q1, q2⟩) (straD D pa pb rl) := by
                unfold straD
                rw [hSB]
                exact setP_sim hA1 (S6.out.trans (vsub_sim (hA1.1 pb hb) (SimP.refl _)))
              have HF := Lib.hid hF
              clear hu5 hb5 hs5 hw0 HXy HOy HTy HVy HBy HR hA1 hF
              go_wp2_with fail
              refine bodyPost_end (results_none rfl _ _ _) rfl ?_
              exact ⟨rfl, HBx.out.mono (fun k _ e => by rw [e]), _, HF.out, HOx.out, HXx.out⟩
theorem impl_straighten (g M : Nat) (A1 A2 A3 A4 : Option Addr) (c1 c2 c3 c4 n m : Nat) (D : D4) (pa pb rl : Nat) (ha : pa < n) (hb : pb < n) (w : World) (hx : Bx w g 32 (.slice A1 n c1) (.slice A2 n c2) (.slice A3 n c3) (.slice A4 m c4)) (ho : Own w M A1 A2 A3 A4 c1 c2 c3 c4 n n n m D) (hM : M ≤ w.heap.size) (hn : n ≤ 24) :
    Calls Try.prog 143 #[.pointer (some ⟨g, 0, none⟩), .agg #[.int .i64 (pa : Int), .int .i64 (pb : Int), .float .f32 rl]] w (RetSt g M A1 A2 A3 A4 c1 c2 c3 c4 n n n m (straD D pa pb rl) w) := (impl_straightenW g M A1 A2 A3 A4 c1 c2 c3 c4 n m D pa pb rl ha hb w hx ho hn).mono fun _ _ h => h.st (by omega) hM
set_option maxHeartbeats 8000000 in
set_option maxRecDepth 100000 in
theorem spec_straightenW (g M : Nat) (A1 A2 A3 A4 : Option Addr) (c1 c2 c3 c4 n m : Nat) (D : D4) (pa pb rl : Nat) (i : Nat) (hi : i < m) (hra : (D.R i).a = (pa : Int)) (hrb : (D.R i).b = (pb : Int)) (hrl : (D.R i).l = rl) (ha : pa < n) (hb : pb < n) (w : World) (hx : Bx w g 32 (.slice A1 n c1) (.slice A2 n c2) (.slice A3 n c3) (.slice A4 m c4)) (ho : Own w M A1 A2 A3 A4 c1 c2 c3 c4 n n n m D) (hn : n ≤ 24) :
    Calls Try.prog 141 #[.pointer (some ⟨g, 0, none⟩), .int .i64 (i : Int)] w (RetSw g M A1 A2 A3 A4 c1 c2 c3 c4 n n n m (straD D pa pb rl) w) := by
  have HD := Lib.hid ho.bds
  obtain ⟨b1, hA1, _, _, _, hr1⟩ := ho.s1 (by omega)
  have hl1 : b1 < w.heap.size := hr1.lt
  have hn1 := Rw.ne_ hx hr1 (by decide)
  subst hA1
  have ka0 : (0 : Int) ≤ (pa : Int) := by omega
  have ka1 : (pa : Int) < (n : Int) := by omega
  have kb0 : (0 : Int) ≤ (pb : Int) := by omega
  have kb1 : (pb : Int) < (n : Int) := by omega
  obtain ⟨b4, hA4, _, _, _, hr4⟩ := ho.s4 (by omega)
  subst hA4
  obtain ⟨i0, i1, i2, _, _, _⟩ := hr4.at3 hi
  rw [rc0, hra] at i0
  rw [rc1, hrb] at i1
  rw [rc2, hrl] at i2
  have l4 := hr4.lt
  have ki0 : (0 : Int) ≤ (i : Int) := by omega
  have ki1 : (i : Int) < (m : Int) := by omega
  obtain ⟨p0, p1, p2, p3, pf⟩ := hx.facts
  have lp := hx.lt
  obtain ⟨wq, hwq⟩ : ∃ wq : World, wq = w.alloc (.cells #[.int .i64 (pa : Int), .int .i64 (pb : Int), .float .f32 rl] 91) := ⟨_, rfl⟩
  have hBq : Below w.heap.size w wq := by rw [hwq]; exact Below.alloc (Below.refl _ _) (Nat.le_refl _) _
  have hzq : wq.heap.size = w.heap.size + 1 := by rw [hwq]; simp
  have HX := Lib.hid (hx.go hBq)
  have HO := Lib.hid (ho.go hBq)
  have HR := Lib.hid (hr1.go hBq)
  have HT := Lib.hid (show Tx wq w.heap.size 91 (.int .i64 (pa : Int)) (.int .i64 (pb : Int)) (.float .f32 rl) by rw [hwq]; exact Tx.new_ _ _ _ _ _)
  have HBQ := Lib.hid (Wr.of_go hBq (fun k => k = b1))
  have hw0 : Below wq.heap.size wq wq.drew := (Below.refl _ _).drew
  clear hx ho hr1 hBq hr4
  go_enter Try.func141, Try.ntmps141
  go_upto_region 1 with fail
  rw [← hwq]
  clear hwq i0 i1 i2 l4 p0 p1 p2 p3 pf lp
  refine region_inv3 [fun v _ => isE (.pointer (some ⟨g, 0, none⟩)) v, fun v _ => isE (.pointer (some ⟨g, 0, none⟩)) v, fun v _ => isE (.pointer (some ⟨g, 0, none⟩)) v, fun v _ => isE (.slice (some ⟨b1, 0, none⟩) n c1) v, fun v _ => isE (.pointer (some ⟨w.heap.size, 1, none⟩)) v, fun v _ => isE (.int .i64 (pb : Int)) v, fun v _ => isE (.pointer (some ⟨b1, pb * 3, none⟩)) v, fun v _ => isE (.agg #[.float .f32 (D.P pb).x, .float .f32 (D.P pb).y, .float .f32 (D.P pb).z]) v, fun v _ => isE (.pointer (some ⟨g, 0, none⟩)) v, fun v _ => isE (.pointer (some ⟨g, 0, none⟩)) v, fun v _ => isE (.pointer (some ⟨g, 0, none⟩)) v, fun v _ => isE (.slice (some ⟨b1, 0, none⟩) n c1) v, fun v _ => isE (.pointer (some ⟨w.heap.size, 0, none⟩)) v, fun v _ => isE (.int .i64 (pa : Int)) v, fun v _ => isE (.pointer (some ⟨b1, pa * 3, none⟩)) v, fun v _ => isE (.agg #[.float .f32 (D.P pa).x, .float .f32 (D.P pa).y, .float .f32 (D.P pa).z]) v, fun v _ => isV (strV D pa pb) v, isP wq.heap.size, fun _ _ => True] (fun l a W => Js [] (fun W => Below wq.heap.size wq W) l W ∧ Fn 18 5 (isPV wq.heap.size (strV D pa pb)) l a W) (by kernel_rfl) (by kernel_rfl) (by kernel_rfl) ⟨Js.nil hw0, Fn.first⟩ ⟨?r0, ?r1, ?r2, ?r3, ?r4, ?r5, ?r6, ?r7, ?r8, ?r9, ?r10, ?r11, ?r12, ?r13, ?r14, ?r15, ?r16, ?r17, ?r18, trivial⟩ ?hend
  case r0 =>
    intro listed a u h hu hd K hK
    have e0 : a.tmps.getD 0 undef = .pointer (some ⟨g, 0, none⟩) := h.base (by kernel_rfl)
    have f0 : a.tmps[0]? = some (.pointer (some ⟨g, 0, none⟩)) := h.old (by kernel_rfl)
    rw [if_pos (by rfl)]
    go_simp
    exact hK _ _ (fun _ _ _ h => h) (isE.mk rfl) ⟨(Js.neutral h.world.1 rfl), (Fn.neutral h.world.2 (by decide) (by decide) _)⟩
  case r1 =>
    intro listed a u h hu hd K hK
    obtain ⟨v18, ev18, em18, F18⟩ := h.slot (i := 0) rfl rfl (hd _ (Array.mem_of_getElem? (i := 0) rfl) rfl)
    have q18 := isE.out F18
    have e18 := ev18.trans q18
    have f18 := em18.trans (congrArg some q18)
    clear ev18 em18 F18
    rw [if_pos (by rfl)]
    go_simp
    exact hK _ _ (fun _ _ _ h => h) (isE.mk rfl) ⟨(Js.neutral h.world.1 rfl), (Fn.neutral h.world.2 (by decide) (by decide) _)⟩
  case r2 =>
    intro listed a u h hu hd K hK
    obtain ⟨v19, ev19, em19, F19⟩ := h.slot (i := 1) rfl rfl (hd _ (Array.mem_of_getElem? (i := 0) rfl) rfl)
    have q19 := isE.out F19
    have e19 := ev19.trans q19
    have f19 := em19.trans (congrArg some q19)
    clear ev19 em19 F19
    rw [if_pos (by rfl)]
    go_simp
    exact hK _ _ (fun _ _ _ h => h) (isE.mk rfl) ⟨(Js.neutral h.world.1 rfl), (Fn.neutral h.world.2 (by decide) (by decide) _)⟩
  case r3 =>
    intro listed a u h hu hd K hK
    have hA : (fun W => Below wq.heap.size wq W) u := h.world.1
    obtain ⟨v20, ev20, em20, F20⟩ := h.slot (i := 2) rfl rfl (hd _ (Array.mem_of_getElem? (i := 0) rfl) rfl)
    have q20 := isE.out F20
    have e20 := ev20.trans q20
    have f20 := em20.trans (congrArg some q20)
    clear ev20 em20 F20
    rw [if_pos (by rfl)]
    obtain ⟨g0, g1, g2, g3, gf⟩ := (HX.out.go hA).facts
    obtain ⟨t0_, t1_, t2_, tf_⟩ := (HT.out.go hA).facts
    obtain ⟨m0, m1, m2, ma, mb, mc⟩ := (HR.out.go hA).at3 hb
    rw [vc0] at m0
    rw [vc1] at m1
    rw [vc2] at m2
    obtain ⟨o0, o1, o2, oa, ob, oc⟩ := (HR.out.go hA).at3 ha
    rw [vc0] at o0
    rw [vc1] at o1
    rw [vc2] at o2
    go_simp
    exact hK _ _ (fun _ _ _ h => h) (isE.mk rfl) ⟨(Js.nil (hA)), (Fn.neutral h.world.2 (by decide) (by decide) _)⟩
  case r4 =>
    intro listed a u h hu hd K hK
    have e4 : a.tmps.getD 4 undef = .pointer (some ⟨w.heap.size, 0, none⟩) := h.base (by kernel_rfl)
    have f4 : a.tmps[4]? = some (.pointer (some ⟨w.heap.size, 0, none⟩)) := h.old (by kernel_rfl)
    rw [if_pos (by rfl)]
    go_simp
    exact hK _ _ (fun _ _ _ h => h) (isE.mk rfl) ⟨(Js.neutral h.world.1 rfl), (Fn.neutral h.world.2 (by decide) (by decide) _)⟩
  case r5 =>
    intro listed a u h hu hd K hK
    have hA : (fun W => Below wq.heap.size wq W) u := h.world.1
    obtain ⟨v22, ev22, em22, F22⟩ := h.slot (i := 4) rfl rfl (hd _ (Array.mem_of_getElem? (i := 0) rfl) rfl)
    have q22 := isE.out F22
    have e22 := ev22.trans q22
    have f22 := em22.trans (congrArg some q22)
    clear ev22 em22 F22
    rw [if_pos (by rfl)]
    obtain ⟨g0, g1, g2, g3, gf⟩ := (HX.out.go hA).facts
    obtain ⟨t0_, t1_, t2_, tf_⟩ := (HT.out.go hA).facts
    obtain ⟨m0, m1, m2, ma, mb, mc⟩ := (HR.out.go hA).at3 hb
    rw [vc0] at m0
    rw [vc1] at m1
    rw [vc2] at m2
    obtain ⟨o0, o1, o2, oa, ob, oc⟩ := (HR.out.go hA).at3 ha
    rw [vc0] at o0
    rw [vc1] at o1
    rw [vc2] at o2
    go_simp
    exact hK _ _ (fun _ _ _ h => h) (isE.mk rfl) ⟨(Js.nil (hA)), (Fn.neutral h.world.2 (by decide) (by decide) _)⟩
  case r6 =>
    intro listed a u h hu hd K hK
    obtain ⟨v21, ev21, em21, F21⟩ := h.slot (i := 3) rfl rfl (hd _ (Array.mem_of_getElem? (i := 0) rfl) rfl)
    have q21 := isE.out F21
    have e21 := ev21.trans q21
    have f21 := em21.trans (congrArg some q21)
    clear ev21 em21 F21
    obtain ⟨v23, ev23, em23, F23⟩ := h.slot (i := 5) rfl rfl (hd _ (Array.mem_of_getElem? (i := 1) rfl) rfl)
    have q23 := isE.out F23
    have e23 := ev23.trans q23
    have f23 := em23.trans (congrArg some q23)
    clear ev23 em23 F23
    rw [if_pos (by rfl)]
    go_simp
    exact hK _ _ (fun _ _ _ h => h) (isE.mk rfl) ⟨(Js.neutral h.world.1 rfl), (Fn.neutral h.world.2 (by decide) (by decide) _)⟩
  case r7 =>
    intro listed a u h hu hd K hK
    have hA : (fun W => Below wq.heap.size wq W) u := h.world.1
    obtain ⟨v24, ev24, em24, F24⟩ := h.slot (i := 6) rfl rfl (hd _ (Array.mem_of_getElem? (i := 0) rfl) rfl)
    have q24 := isE.out F24
    have e24 := ev24.trans q24
    have f24 := em24.trans (congrArg some q24)
    clear ev24 em24 F24
    rw [if_pos (by rfl)]
    obtain ⟨g0, g1, g2, g3, gf⟩ := (HX.out.go hA).facts
    obtain ⟨t0_, t1_, t2_, tf_⟩ := (HT.out.go hA).facts
    obtain ⟨m0, m1, m2, ma, mb, mc⟩ := (HR.out.go hA).at3 hb
    rw [vc0] at m0
    rw [vc1] at m1
    rw [vc2] at m2
    obtain ⟨o0, o1, o2, oa, ob, oc⟩ := (HR.out.go hA).at3 ha
    rw [vc0] at o0
    rw [vc1] at o1
    rw [vc2] at o2
    go_simp
    exact hK _ _ (fun _ _ _ h => h) (isE.mk rfl) ⟨(Js.nil (hA)), (Fn.neutral h.world.2 (by decide) (by decide) _)⟩
  case r8 =>
    intro listed a u h hu hd K hK
    have e0 : a.tmps.getD 0 undef = .pointer (some ⟨g, 0, none⟩) := h.base (by kernel_rfl)
    have f0 : a.tmps[0]? = some (.pointer (some ⟨g, 0, none⟩)) := h.old (by kernel_rfl)
    rw [if_pos (by rfl)]
    go_simp
    exact hK _ _ (fun _ _ _ h => h) (isE.mk rfl) ⟨(Js.neutral h.world.1 rfl), (Fn.neutral h.world.2 (by decide) (by decide) _)⟩
  case r9 =>
    intro listed a u h hu hd K hK
    obtain ⟨v26, ev26, em26, F26⟩ := h.slot (i := 8) rfl rfl (hd _ (Array.mem_of_getElem? (i := 0) rfl) rfl)
    have q26 := isE.out F26
    have e26 := ev26.trans q26
    have f26 := em26.trans (congrArg some q26)
    clear ev26 em26 F26
    rw [if_pos (by rfl)]
    go_simp
    exact hK _ _ (fun _ _ _ h => h) (isE.mk rfl) ⟨(Js.neutral h.world.1 rfl), (Fn.neutral h.world.2 (by decide) (by decide) _)⟩
  case r10 =>
    intro listed a u h hu hd K hK
    obtain ⟨v27, ev27, em27, F27⟩ := h.slot (i := 9) rfl rfl (hd _ (Array.mem_of_getElem? (i := 0) rfl) rfl)
    have q27 := isE.out F27
    have e27 := ev27.trans q27
    have f27 := em27.trans (congrArg some q27)
    clear ev27 em27 F27
    rw [if_pos (by rfl)]
    go_simp
    exact hK _ _ (fun _ _ _ h => h) (isE.mk rfl) ⟨(Js.neutral h.world.1 rfl), (Fn.neutral h.world.2 (by decide) (by decide) _)⟩
  case r11 =>
    intro listed a u h hu hd K hK
    have hA : (fun W => Below wq.heap.size wq W) u := h.world.1
    obtain ⟨v28, ev28, em28, F28⟩ := h.slot (i := 10) rfl rfl (hd _ (Array.mem_of_getElem? (i := 0) rfl) rfl)
    have q28 := isE.out F28
    have e28 := ev28.trans q28
    have f28 := em28.trans (congrArg some q28)
    clear ev28 em28 F28
    rw [if_pos (by rfl)]
    obtain ⟨g0, g1, g2, g3, gf⟩ := (HX.out.go hA).facts
    obtain ⟨t0_, t1_, t2_, tf_⟩ := (HT.out.go hA).facts
    obtain ⟨m0, m1, m2, ma, mb, mc⟩ := (HR.out.go hA).at3 hb
    rw [vc0] at m0
    rw [vc1] at m1
    rw [vc2] at m2
    obtain ⟨o0, o1, o2, oa, ob, oc⟩ := (HR.out.go hA).at3 ha
    rw [vc0] at o0
    rw [vc1] at o1
    rw [vc2] at o2
    go_simp
    exact hK _ _ (fun _ _ _ h => h) (isE.mk rfl) ⟨(Js.nil (hA)), (Fn.neutral h.world.2 (by decide) (by decide) _)⟩
  case r12 =>
    intro listed a u h hu hd K hK
    have e4 : a.tmps.getD 4 undef = .pointer (some ⟨w.heap.size, 0, none⟩) := h.base (by kernel_rfl)
    have f4 : a.tmps[4]? = some (.pointer (some ⟨w.heap.size, 0, none⟩)) := h.old (by kernel_rfl)
    rw [if_pos (by rfl)]
    go_simp
    exact hK _ _ (fun _ _ _ h => h) (isE.mk rfl) ⟨(Js.neutral h.world.1 rfl), (Fn.neutral h.world.2 (by decide) (by decide) _)⟩
  case r13 =>
    intro listed a u h hu hd K hK
    have hA : (fun W => Below wq.heap.size wq W) u := h.world.1
    obtain ⟨v30, ev30, em30, F30⟩ := h.slot (i := 12) rfl rfl (hd _ (Array.mem_of_getElem? (i := 0) rfl) rfl)
    have q30 := isE.out F30
    have e30 := ev30.trans q30
    have f30 := em30.trans (congrArg some q30)
    clear ev30 em30 F30
    rw [if_pos (by rfl)]
    obtain ⟨g0, g1, g2, g3, gf⟩ := (HX.out.go hA).facts
    obtain ⟨t0_, t1_, t2_, tf_⟩ := (HT.out.go hA).facts
    obtain ⟨m0, m1, m2, ma, mb, mc⟩ := (HR.out.go hA).at3 hb
    rw [vc0] at m0
    rw [vc1] at m1
    rw [vc2] at m2
    obtain ⟨o0, o1, o2, oa, ob, oc⟩ := (HR.out.go hA).at3 ha
    rw [vc0] at o0
    rw [vc1] at o1
    rw [vc2] at o2
    go_simp
    exact hK _ _ (fun _ _ _ h => h) (isE.mk rfl) ⟨(Js.nil (hA)), (Fn.neutral h.world.2 (by decide) (by decide) _)⟩
  case r14 =>
    intro listed a u h hu hd K hK
    obtain ⟨v29, ev29, em29, F29⟩ := h.slot (i := 11) rfl rfl (hd _ (Array.mem_of_getElem? (i := 0) rfl) rfl)
    have q29 := isE.out F29
    have e29 := ev29.trans q29
    have f29 := em29.trans (congrArg some q29)
    clear ev29 em29 F29
    obtain ⟨v31, ev31, em31, F31⟩ := h.slot (i := 13) rfl rfl (hd _ (Array.mem_of_getElem? (i := 1) rfl) rfl)
    have q31 := isE.out F31
    have e31 := ev31.trans q31
    have f31 := em31.trans (congrArg some q31)
    clear ev31 em31 F31
    rw [if_pos (by rfl)]
    go_simp
    exact hK _ _ (fun _ _ _ h => h) (isE.mk rfl) ⟨(Js.neutral h.world.1 rfl), (Fn.neutral h.world.2 (by decide) (by decide) _)⟩
  case r15 =>
    intro listed a u h hu hd K hK
    have hA : (fun W => Below wq.heap.size wq W) u := h.world.1
    obtain ⟨v32, ev32, em32, F32⟩ := h.slot (i := 14) rfl rfl (hd _ (Array.mem_of_getElem? (i := 0) rfl) rfl)
    have q32 := isE.out F32
    have e32 := ev32.trans q32
    have f32 := em32.trans (congrArg some q32)
    clear ev32 em32 F32
    rw [if_pos (by rfl)]
    obtain ⟨g0, g1, g2, g3, gf⟩ := (HX.out.go hA).facts
    obtain ⟨t0_, t1_, t2_, tf_⟩ := (HT.out.go hA).facts
    obtain ⟨m0, m1, m2, ma, mb, mc⟩ := (HR.out.go hA).at3 hb
    rw [vc0] at m0
    rw [vc1] at m1
    rw [vc2] at m2
    obtain ⟨o0, o1, o2, oa, ob, oc⟩ := (HR.out.go hA).at3 ha
    rw [vc0] at o0
    rw [vc1] at o1
    rw [vc2] at o2
    go_simp
    exact hK _ _ (fun _ _ _ h => h) (isE.mk rfl) ⟨(Js.nil (hA)), (Fn.neutral h.world.2 (by decide) (by decide) _)⟩
  case r16 =>
    intro listed a u h hu hd K hK
    have hA : (fun W => Below wq.heap.size wq W) u := h.world.1
    obtain ⟨v25, ev25, em25, F25⟩ := h.slot (i := 7) rfl rfl (hd _ (Array.mem_of_getElem? (i := 0) rfl) rfl)
    have q25 := isE.out F25
    have e25 := ev25.trans q25
    have f25 := em25.trans (congrArg some q25)
    clear ev25 em25 F25
    obtain ⟨v33, ev33, em33, F33⟩ := h.slot (i := 15) rfl rfl (hd _ (Array.mem_of_getElem? (i := 1) rfl) rfl)
    have q33 := isE.out F33
    have e33 := ev33.trans q33
    have f33 := em33.trans (congrArg some q33)
    clear ev33 em33 F33
    rw [if_pos (by rfl)]
    go_simp
    refine Calls.mono (spec_l01Less _ _ _ _ _ _ u) ?_
    rintro e u2 ⟨a0_, a1_, a2_, rfl, _, r0, r1, r2, hbb⟩
    have hR : Gw u u2 := hbb
    exact hK _ _ (fun j v hn hF => AllStX.fact0 (R := Gw) (i := 16) (by exact ⟨fun _ _ _ _ _ h => h, fun _ _ _ _ _ h => h, fun _ _ _ _ _ h => h, fun _ _ _ _ _ h => h, fun _ _ _ _ _ h => h, fun _ _ _ _ _ h => h, fun _ _ _ _ _ h => h, fun _ _ _ _ _ h => h, fun _ _ _ _ _ h => h, fun _ _ _ _ _ h => h, fun _ _ _ _ _ h => h, fun _ _ _ _ _ h => h, fun _ _ _ _ _ h => h, fun _ _ _ _ _ h => h, fun _ _ _ _ _ h => h, fun _ _ _ _ _ h => h, fun hn => absurd rfl hn, fun _ _ _ _ hW h => isP.go h hW, fun _ _ _ _ _ h => h, trivial⟩) hR j v hn hF) (isV.mk ⟨r0, r1, r2⟩) ⟨(Js.nil ((hA.trans (hbb.mono hA.size)))), (Fn.no (RI3.wait' h (getD_un hu) (T := 18) rfl (Array.mem_of_getElem? (i := 1) rfl) rfl rfl) (by decide))⟩
  case r17 =>
    intro listed a u h hu hd K hK
    have hA : (fun W => Below wq.heap.size wq W) u := h.world.1
    rw [if_pos (by rfl)]
    go_simp
    have hR : Gw u (u.alloc (.cells #[.float .f32 0, .float .f32 0, .float .f32 0] 38)) := Below.alloc (Below.refl _ _) (Nat.le_refl _) _
    exact hK _ _ (fun j v hn hF => AllStX.fact0 (R := Gw) (i := 17) (by exact ⟨fun _ _ _ _ _ h => h, fun _ _ _ _ _ h => h, fun _ _ _ _ _ h => h, fun _ _ _ _ _ h => h, fun _ _ _ _ _ h => h, fun _ _ _ _ _ h => h, fun _ _ _ _ _ h => h, fun _ _ _ _ _ h => h, fun _ _ _ _ _ h => h, fun _ _ _ _ _ h => h, fun _ _ _ _ _ h => h, fun _ _ _ _ _ h => h, fun _ _ _ _ _ h => h, fun _ _ _ _ _ h => h, fun _ _ _ _ _ h => h, fun _ _ _ _ _ h => h, fun _ _ _ _ _ h => h, fun hn => absurd rfl hn, fun _ _ _ _ _ h => h, trivial⟩) hR j v hn hF) ⟨_, _, _, _, rfl, hA.size, Tx.new_ _ _ _ _ _⟩ ⟨(Js.nil (Below.alloc hA hA.size _)), (Fn.no (RI3.wait' h (getD_un hu) (T := 18) rfl (Array.mem_of_getElem? (i := 0) rfl) rfl rfl) (by decide))⟩
  case r18 =>
    intro listed a u h hu hd K hK
    have hA : (fun W => Below wq.heap.size wq W) u := h.world.1
    obtain ⟨v5, ev5, em5, F5⟩ := h.slot (i := 17) rfl rfl (hd _ (Array.mem_of_getElem? (i := 0) rfl) rfl)
    obtain ⟨k5, xa5, xb5, xc5, q5, hk5, hx5⟩ : isP wq.heap.size v5 u := F5
    have e5 := ev5.trans q5
    have f5 := em5.trans (congrArg some q5)
    clear ev5 em5
    obtain ⟨v34, ev34, em34, F34⟩ := h.slot (i := 16) rfl rfl (hd _ (Array.mem_of_getElem? (i := 1) rfl) rfl)
    obtain ⟨x34, y34, z34, q34, s34⟩ := isV.out F34
    have e34 := ev34.trans q34
    have f34 := em34.trans (congrArg some q34)
    clear ev34 em34 F34
    rw [if_pos (by rfl)]
    obtain ⟨g0, g1, g2, g3, gf⟩ := (HX.out.go hA).facts
    obtain ⟨t0_, t1_, t2_, tf_⟩ := (HT.out.go hA).facts
    obtain ⟨m0, m1, m2, ma, mb, mc⟩ := (HR.out.go hA).at3 hb
    rw [vc0] at m0
    rw [vc1] at m1
    rw [vc2] at m2
    obtain ⟨o0, o1, o2, oa, ob, oc⟩ := (HR.out.go hA).at3 ha
    rw [vc0] at o0
    rw [vc1] at o1
    rw [vc2] at o2
    obtain ⟨y0_, y1_, y2_, yf_⟩ := hx5.facts
    have ly_ := hx5.lt
    go_simp
    have hY := hx5.setAll (.float .f32 x34) (.float .f32 y34) (.float .f32 z34)
    have hR : Pw u (((u.setCell ⟨k5, 0, none⟩ (.float .f32 x34)).setCell ⟨k5, 1, none⟩ (.float .f32 y34)).setCell ⟨k5, 2, none⟩ (.float .f32 z34)) := ⟨_, _, _, _, _, _, _, hx5, Wr.set3 u k5 0 1 2 _ _ _, hY⟩
    exact hK undef _ (fun j v hn hF => AllStX.fact0 (R := Pw) (i := 18) (by exact ⟨fun _ _ _ _ _ h => h, fun _ _ _ _ _ h => h, fun _ _ _ _ _ h => h, fun _ _ _ _ _ h => h, fun _ _ _ _ _ h => h, fun _ _ _ _ _ h => h, fun _ _ _ _ _ h => h, fun _ _ _ _ _ h => h, fun _ _ _ _ _ h => h, fun _ _ _ _ _ h => h, fun _ _ _ _ _ h => h, fun _ _ _ _ _ h => h, fun _ _ _ _ _ h => h, fun _ _ _ _ _ h => h, fun _ _ _ _ _ h => h, fun _ _ _ _ _ h => h, fun _ _ _ _ _ h => h, fun _ _ _ _ hW h => isP.st h hW, fun hn => absurd rfl hn, trivial⟩) hR j v hn hF) trivial ⟨(Js.nil ((Tx.bel hA hk5 _ _ _))), (Fn.hit f5 (⟨k5, x34, y34, z34, rfl, hk5, hY, s34⟩))⟩
  case hend =>
    intro listed a u h hall
    have hB : (fun W => Below wq.heap.size wq W) u := h.world.1
    obtain ⟨m5, hm5, hf5⟩ := h.world.2 (hall 18 (by decide))
    obtain ⟨v5, ev5, em5, F5⟩ := h.slot (i := 17) rfl rfl (hall 17 (by decide))
    obtain ⟨k5, xa5, xb5, xc5, q5, hk5, hx5⟩ : isP wq.heap.size v5 u := F5
    have f5 := em5.trans (congrArg some q5)
    clear ev5 em5
    obtain ⟨v18, ev18, em18, F18⟩ := h.slot (i := 0) rfl rfl (hall 0 (by decide))
    have q18 := isE.out F18
    have f18 := em18.trans (congrArg some q18)
    clear ev18 em18 F18
    obtain ⟨v19, ev19, em19, F19⟩ := h.slot (i := 1) rfl rfl (hall 1 (by decide))
    have q19 := isE.out F19
    have f19 := em19.trans (congrArg some q19)
    clear ev19 em19 F19
    obtain ⟨v20, ev20, em20, F20⟩ := h.slot (i := 2) rfl rfl (hall 2 (by decide))
    have q20 := isE.out F20
    have f20 := em20.trans (congrArg some q20)
    clear ev20 em20 F20
    obtain ⟨v21, ev21, em21, F21⟩ := h.slot (i := 3) rfl rfl (hall 3 (by decide))
    have q21 := isE.out F21
    have f21 := em21.trans (congrArg some q21)
    clear ev21 em21 F21
    obtain ⟨v22, ev22, em22, F22⟩ := h.slot (i := 4) rfl rfl (hall 4 (by decide))
    have q22 := isE.out F22
    have f22 := em22.trans (congrArg some q22)
    clear ev22 em22 F22
    obtain ⟨v23, ev23, em23, F23⟩ := h.slot (i := 5) rfl rfl (hall 5 (by decide))
    have q23 := isE.out F23
    have f23 := em23.trans (congrArg some q23)
    clear ev23 em23 F23
    obtain ⟨v24, ev24, em24, F24⟩ := h.slot (i := 6) rfl rfl (hall 6 (by decide))
    have q24 := isE.out F24
    have f24 := em24.trans (congrArg some q24)
    clear ev24 em24 F24
    obtain ⟨v25, ev25, em25, F25⟩ := h.slot (i := 7) rfl rfl (hall 7 (by decide))
    have q25 := isE.out F25
    have f25 := em25.trans (congrArg some q25)
    clear ev25 em25 F25
    obtain ⟨v26, ev26, em26, F26⟩ := h.slot (i := 8) rfl rfl (hall 8 (by decide))
    have q26 := isE.out F26
    have f26 := em26.trans (congrArg some q26)
    clear ev26 em26 F26
    obtain ⟨v27, ev27, em27, F27⟩ := h.slot (i := 9) rfl rfl (hall 9 (by decide))
    have q27 := isE.out F27
    have f27 := em27.trans (congrArg some q27)
    clear ev27 em27 F27
    obtain ⟨v28, ev28, em28, F28⟩ := h.slot (i := 10) rfl rfl (hall 10 (by decide))
    have q28 := isE.out F28
    have f28 := em28.trans (congrArg some q28)
    clear ev28 em28 F28
    obtain ⟨v29, ev29, em29, F29⟩ := h.slot (i := 11) rfl rfl (hall 11 (by decide))
    have q29 := isE.out F29
    have f29 := em29.trans (congrArg some q29)
    clear ev29 em29 F29
    obtain ⟨v30, ev30, em30, F30⟩ := h.slot (i := 12) rfl rfl (hall 12 (by decide))
    have q30 := isE.out F30
    have f30 := em30.trans (congrArg some q30)
    clear ev30 em30 F30
    obtain ⟨v31, ev31, em31, F31⟩ := h.slot (i := 13) rfl rfl (hall 13 (by decide))
    have q31 := isE.out F31
    have f31 := em31.trans (congrArg some q31)
    clear ev31 em31 F31
    obtain ⟨v32, ev32, em32, F32⟩ := h.slot (i := 14) rfl rfl (hall 14 (by decide))
    have q32 := isE.out F32
    have f32 := em32.trans (congrArg some q32)
    clear ev32 em32 F32
    obtain ⟨v33, ev33, em33, F33⟩ := h.slot (i := 15) rfl rfl (hall 15 (by decide))
    have q33 := isE.out F33
    have f33 := em33.trans (congrArg some q33)
    clear ev33 em33 F33
    obtain ⟨v34, ev34, em34, F34⟩ := h.slot (i := 16) rfl rfl (hall 16 (by decide))
    obtain ⟨x34, y34, z34, q34, s34⟩ := isV.out F34
    have f34 := em34.trans (congrArg some q34)
    clear ev34 em34 F34
    obtain rfl : m5 = _ := Option.some.inj (hm5.symm.trans f5)
    have ha := h.act [5, 18, 19, 20, 21, 22, 23, 24, 25, 26, 27, 28, 29, 30, 31, 32, 33, 34] [_, _, _, _, _, _, _, _, _, _, _, _, _, _, _, _, _, _] (by kernel_rfl) ⟨f5, f18, f19, f20, f21, f22, f23, f24, f25, f26, f27, f28, f29, f30, f31, f32, f33, f34, trivial⟩
    clear f5 f18 f19 f20 f21 f22 f23 f24 f25 f26 f27 f28 f29 f30 f31 f32 f33 f34
    simp only [setAll, List.setIfInBounds_toArray, List.set_cons_zero, List.set_cons_succ] at ha
    subst ha
    clear h hall
    obtain ⟨kv, v0, v1, v2, hke, hkv, hxv, hsv⟩ := hf5
    cases hke
    obtain ⟨wt, rfl⟩ : ∃ z : World, z = u := ⟨u, rfl⟩
    have HV := Lib.hid hxv
    have SV := Lib.hid hsv
    have lv := hxv.lt
    have yt := hB.size
    have HXt := Lib.hid (HX.out.go hB)
    have HOt := Lib.hid (HO.out.go hB)
    have HTt := Lib.hid (HT.out.go hB)
    have HBt := Lib.hid (HBQ.out.step hB)
    clear hxv hsv hB hw0 hm5 HX HO HT HR HBQ
    have SL := Lib.hid (show Sim .f32 (vlen ⟨v0, v1, v2⟩) (vlen (strV D pa pb)) from vlen_sim SV.out)
    obtain ⟨g0, g1, g2, g3, gf⟩ := HXt.out.facts
    have lg := HXt.out.lt
    obtain ⟨t0_, t1_, t2_, tf_⟩ := HTt.out.facts
    have lt_ := HTt.out.lt
    obtain ⟨u0_, u1_, u2_, uf_⟩ := HV.out.facts
    go_wp2_with fail
    refine (spec_l01Long _ _ _ _).mono ?_
    rintro e wa ⟨rL, rfl, hlL, hsL, hba⟩
    have BA := Lib.hid hba
    have SLL := Lib.hid (hsL.trans SL.out)
    clear hba hsL t0_ t1_ t2_ tf_ lt_ u0_ u1_ u2_ uf_ g0 g1 g2 g3 gf lg
    obtain ⟨t0_, t1_, t2_, tf_⟩ := (HTt.out.go BA.out).facts
    have lt_ := (HTt.out.go BA.out).lt
    go_wp2_with fail
    refine (spec_share g pa M _ _ _ _ _ _ _ _ n m D ha _ (HXt.out.go BA.out) (HOt.out.go BA.out)).mono ?_
    rintro e wb ⟨rA, rfl, hlA, hsA, hbb⟩
    have BB := Lib.hid (below_step BA.out hbb)
    have SA := Lib.hid hsA
    clear hbb hsA t0_ t1_ t2_ tf_ lt_ BA
    obtain ⟨t0_, t1_, t2_, tf_⟩ := (HTt.out.go BB.out).facts
    have lt_ := (HTt.out.go BB.out).lt
    go_wp2_with fail
    refine (spec_share g pb M _ _ _ _ _ _ _ _ n m D hb _ (HXt.out.go BB.out) (HOt.out.go BB.out)).mono ?_
    rintro e wz ⟨rB, rfl, hlB, hsB, hbb⟩
    have BZ := Lib.hid (below_step BB.out hbb)
    have SB := Lib.hid hsB
    clear hbb hsB t0_ t1_ t2_ tf_ lt_ BB
    obtain ⟨xl, hxl0⟩ : ∃ z : Nat, z = rL := ⟨rL, rfl⟩
    subst hxl0
    have SXL := SLL
    clear SLL
    go_upto_region 5 with fail
    go_cut [9] (fun s wx => ∃ y, s = .float .f32 y ∧ Sim .f32 y (strS D pa pb) ∧ Below wz.heap.size wz wx)
    case first =>
      go_wp2_with fail
      go_meet
      exact ⟨_, rfl, add_sim SA.out SB.out _ _, below_n _ _ _⟩
    obtain ⟨ys, rfl, hys, hbz⟩ := hcut
    have SYS := Lib.hid hys
    have BZ := Lib.hid (below_step BZ.out hbz)
    clear hys hbz
    rename World => wz
    have HXz := Lib.hid (HXt.out.go BZ.out)
    have HOz := Lib.hid (HOt.out.go BZ.out)
    have HTz := Lib.hid (HTt.out.go BZ.out)
    have HVz := Lib.hid (HV.out.go BZ.out)
    have HBz := Lib.hid (HBt.out.step BZ.out)
    have yz := BZ.out.size
    clear HXt HOt HTt HV HBt BZ
    have hD0 : strB D pa pb = false → SimD n n n m D (straD D pa pb rl) := fun h => by unfold straD; rw [h]; exact SimD.refl _ _ _ _ _
    cases h1 : gtZ xl
    · have h1' : (FloatKind.f32.format.order xl 0 == some .gt) = false := h1
      have hE := hD0 (by unfold strB; rw [← gtZ_sim SXL.out, h1]; rfl)
      go_wp2_with fail
      refine bodyPost_ret (results_none rfl _ _ _) rfl ?_
      have HBz := Lib.hid (show Wr (fun k => some (⟨b1, 0, none⟩ : Addr) = some ⟨k, 0, none⟩) w _ from HBz.out.mono (fun k _ e => by rw [e]))
      first | exact ⟨rfl, HBz.out, D, hE, HOz.out, HXz.out⟩ | exact ⟨rfl, HBz.out.drewN _, D, hE, HOz.out.drewN _, HXz.out.drewN _⟩
    · have h1' : (FloatKind.f32.format.order xl 0 == some .gt) = true := h1
      cases h2 : gtZ ys
      · have h2' : (FloatKind.f32.format.order ys 0 == some .gt) = false := h2
        have hE := hD0 (by unfold strB; rw [← gtZ_sim SYS.out, h2, Bool.and_false])
        go_wp2_with fail
        refine bodyPost_ret (results_none rfl _ _ _) rfl ?_
        have HBz := Lib.hid (show Wr (fun k => some (⟨b1, 0, none⟩ : Addr) = some ⟨k, 0, none⟩) w _ from HBz.out.mono (fun k _ e => by rw [e]))
        first | exact ⟨rfl, HBz.out, D, hE, HOz.out, HXz.out⟩ | exact ⟨rfl, HBz.out.drewN _, D, hE, HOz.out.drewN _, HXz.out.drewN _⟩
      · have h2' : (FloatKind.f32.format.order ys 0 == some .gt) = true := h2
        have hSB : strB D pa pb = true := by unfold strB; rw [← gtZ_sim SXL.out, ← gtZ_sim SYS.out, h1, h2]; rfl
        go_upto_region 7 with fail
        obtain ⟨t0_, t1_, t2_, tf_⟩ := HTz.out.facts
        have lt_ := HTz.out.lt
        go_cut [10] (fun s wx => ∃ x, s = .float .f32 x ∧ Sim .f32 x (strQ D pa pb rl) ∧ Below wz.heap.size wz wx)
        case first =>
          go_wp2_with fail
          go_meet
          exact ⟨_, rfl, quo_sim (sub_sim SXL.out (Sim.refl _ _) _ _) (mul_sim SXL.out SYS.out _ _) _ _, below_n _ _ _⟩
        obtain ⟨xq, rfl, hxq, hbz⟩ := hcut
        have SXQ := Lib.hid hxq
        have BZ := Lib.hid hbz
        clear hxq hbz t0_ t1_ t2_ tf_ lt_
        rename World => wz
        have HXt := HXz
        have HOt := HOz
        have HTt := HTz
        have HV := HVz
        have HBt := HBz
        have HXz := Lib.hid (HXt.out.go BZ.out)
        have HOz := Lib.hid (HOt.out.go BZ.out)
        have HTz := Lib.hid (HTt.out.go BZ.out)
        have HVz := Lib.hid (HV.out.go BZ.out)
        have HBz := Lib.hid (HBt.out.step BZ.out)
        have yz := BZ.out.size
        clear HXt HOt HTt HV HBt BZ
        have hw0 : Below wz.heap.size wz wz.drew := (Below.refl _ _).drew
        go_upto_region 8 with fail
        obtain ⟨b1', hb1', _, _, _, hr⟩ := HOz.out.s1 (by omega)
        cases hb1'
        have HR := Lib.hid hr
        clear hr
        refine region_inv (stat [isE (.pointer (some ⟨g, 0, none⟩)), isE (.pointer (some ⟨g, 0, none⟩)), isE (.pointer (some ⟨g, 0, none⟩)), isE (.slice (some ⟨b1, 0, none⟩) n c1), isE (.pointer (some ⟨w.heap.size, 0, none⟩)), isE (.int .i64 (pa : Int)), isE (.pointer (some ⟨g, 0, none⟩)), isE (.pointer (some ⟨g, 0, none⟩)), isE (.pointer (some ⟨g, 0, none⟩)), isE (.slice (some ⟨b1, 0, none⟩) n c1), isE (.pointer (some ⟨w.heap.size, 0, none⟩)), isE (.int .i64 (pa : Int)), isE (.pointer (some ⟨b1, pa * 3, none⟩)), isE (.agg #[.float .f32 (D.P pa).x, .float .f32 (D.P pa).y, .float .f32 (D.P pa).z]), isE (.agg #[.float .f32 v0, .float .f32 v1, .float .f32 v2]), isE (.float .f32 xq), isE (.float .f32 rA), isF (F.mul (strQ D pa pb rl) (shrF (D.W pa))), isV (vmul (strV D pa pb) (F.mul (strQ D pa pb rl) (shrF (D.W pa)))), isV (vadd (D.P pa) (vmul (strV D pa pb) (F.mul (strQ D pa pb rl) (shrF (D.W pa))))), isE (.pointer (some ⟨b1, pa * 3, none⟩)), fun _ => True]) (fun l W => Js [(21, fun W => ∃ W5 zz0 zz1 zz2, Below wz.heap.size wz W5 ∧ SimP ⟨zz0, zz1, zz2⟩ (vadd (D.P pa) (vmul (strV D pa pb) (F.mul (strQ D pa pb rl) (shrF (D.W pa))))) ∧ W = (((W5.setCell ⟨b1, pa * 3, none⟩ (.float .f32 zz0)).setCell ⟨b1, pa * 3 + 1, none⟩ (.float .f32 zz1)).setCell ⟨b1, pa * 3 + 2, none⟩ (.float .f32 zz2)))] (fun W => Below wz.heap.size wz W) l W) (by kernel_rfl) (by kernel_rfl) (by kernel_rfl) (Js.first hw0) ⟨?r0, ?r1, ?r2, ?r3, ?r4, ?r5, ?r6, ?r7, ?r8, ?r9, ?r10, ?r11, ?r12, ?r13, ?r14, ?r15, ?r16, ?r17, ?r18, ?r19, ?r20, ?r21, trivial⟩ ?hend
        case r0 =>
          intro listed a u h hu hd K hK
          have e0 : a.tmps.getD 0 undef = .pointer (some ⟨g, 0, none⟩) := h.base (by kernel_rfl)
          have f0 : a.tmps[0]? = some (.pointer (some ⟨g, 0, none⟩)) := h.old (by kernel_rfl)
          rw [if_pos (by rfl)]
          go_simp
          exact hK _ _ (fact_stat _ _ _) (isE.mk rfl) (Js.neutral h.world rfl)
        case r1 =>
          intro listed a u h hu hd K hK
          obtain ⟨v64, ev64, em64, F64⟩ := h.slot (i := 0) rfl rfl (hd _ (Array.mem_of_getElem? (i := 0) rfl) rfl)
          have e64 := ev64.trans (isE.out F64)
          have f64 := em64.trans (congrArg some (isE.out F64))
          clear ev64 em64 F64
          rw [if_pos (by rfl)]
          go_simp
          exact hK _ _ (fact_stat _ _ _) (isE.mk rfl) (Js.neutral h.world rfl)
        case r2 =>
          intro listed a u h hu hd K hK
          obtain ⟨v65, ev65, em65, F65⟩ := h.slot (i := 1) rfl rfl (hd _ (Array.mem_of_getElem? (i := 0) rfl) rfl)
          have e65 := ev65.trans (isE.out F65)
          have f65 := em65.trans (congrArg some (isE.out F65))
          clear ev65 em65 F65
          rw [if_pos (by rfl)]
          go_simp
          exact hK _ _ (fact_stat _ _ _) (isE.mk rfl) (Js.neutral h.world rfl)
        case r3 =>
          intro listed a u h hu hd K hK
          have hw := (RI.wait' h (getD_un hu) (T := 21) rfl (Array.mem_of_getElem? (i := 6) rfl) rfl rfl)
          have hA := Js.now h.world hw
          obtain ⟨v66, ev66, em66, F66⟩ := h.slot (i := 2) rfl rfl (hd _ (Array.mem_of_getElem? (i := 0) rfl) rfl)
          have e66 := ev66.trans (isE.out F66)
          have f66 := em66.trans (congrArg some (isE.out F66))
          clear ev66 em66 F66
          rw [if_pos (by rfl)]
          obtain ⟨g0, g1, g2, g3, gf⟩ := (HXz.out.go hA).facts
          obtain ⟨t0_, t1_, t2_, tf_⟩ := (HTz.out.go hA).facts
          obtain ⟨u0_, u1_, u2_, uf_⟩ := (HVz.out.go hA).facts
          obtain ⟨m0, m1, m2, ma, mb, mc⟩ := (HR.out.go hA).at3 ha
          rw [vc0] at m0
          rw [vc1] at m1
          rw [vc2] at m2
          have lm_ := (HR.out.go hA).lt
          go_simp
          exact hK _ _ (fact_stat _ _ _) (isE.mk rfl) (Js.stay hw (by decide) hA)
        case r4 =>
          intro listed a u h hu hd K hK
          have e4 : a.tmps.getD 4 undef = .pointer (some ⟨w.heap.size, 0, none⟩) := h.base (by kernel_rfl)
          have f4 : a.tmps[4]? = some (.pointer (some ⟨w.heap.size, 0, none⟩)) := h.old (by kernel_rfl)
          rw [if_pos (by rfl)]
          go_simp
          exact hK _ _ (fact_stat _ _ _) (isE.mk rfl) (Js.neutral h.world rfl)
        case r5 =>
          intro listed a u h hu hd K hK
          have hw := (RI.wait' h (getD_un hu) (T := 21) rfl (Array.mem_of_getElem? (i := 8) rfl) rfl rfl)
          have hA := Js.now h.world hw
          obtain ⟨v68, ev68, em68, F68⟩ := h.slot (i := 4) rfl rfl (hd _ (Array.mem_of_getElem? (i := 0) rfl) rfl)
          have e68 := ev68.trans (isE.out F68)
          have f68 := em68.trans (congrArg some (isE.out F68))
          clear ev68 em68 F68
          rw [if_pos (by rfl)]
          obtain ⟨g0, g1, g2, g3, gf⟩ := (HXz.out.go hA).facts
          obtain ⟨t0_, t1_, t2_, tf_⟩ := (HTz.out.go hA).facts
          obtain ⟨u0_, u1_, u2_, uf_⟩ := (HVz.out.go hA).facts
          obtain ⟨m0, m1, m2, ma, mb, mc⟩ := (HR.out.go hA).at3 ha
          rw [vc0] at m0
          rw [vc1] at m1
          rw [vc2] at m2
          have lm_ := (HR.out.go hA).lt
          go_simp
          exact hK _ _ (fact_stat _ _ _) (isE.mk rfl) (Js.stay hw (by decide) hA)
        case r6 =>
          intro listed a u h hu hd K hK
          have e0 : a.tmps.getD 0 undef = .pointer (some ⟨g, 0, none⟩) := h.base (by kernel_rfl)
          have f0 : a.tmps[0]? = some (.pointer (some ⟨g, 0, none⟩)) := h.old (by kernel_rfl)
          rw [if_pos (by rfl)]
          go_simp
          exact hK _ _ (fact_stat _ _ _) (isE.mk rfl) (Js.neutral h.world rfl)
        case r7 =>
          intro listed a u h hu hd K hK
          obtain ⟨v70, ev70, em70, F70⟩ := h.slot (i := 6) rfl rfl (hd _ (Array.mem_of_getElem? (i := 0) rfl) rfl)
          have e70 := ev70.trans (isE.out F70)
          have f70 := em70.trans (congrArg some (isE.out F70))
          clear ev70 em70 F70
          rw [if_pos (by rfl)]
          go_simp
          exact hK _ _ (fact_stat _ _ _) (isE.mk rfl) (Js.neutral h.world rfl)
        case r8 =>
          intro listed a u h hu hd K hK
          obtain ⟨v71, ev71, em71, F71⟩ := h.slot (i := 7) rfl rfl (hd _ (Array.mem_of_getElem? (i := 0) rfl) rfl)
          have e71 := ev71.trans (isE.out F71)
          have f71 := em71.trans (congrArg some (isE.out F71))
          clear ev71 em71 F71
          rw [if_pos (by rfl)]
          go_simp
          exact hK _ _ (fact_stat _ _ _) (isE.mk rfl) (Js.neutral h.world rfl)
        case r9 =>
          intro listed a u h hu hd K hK
          have hw := (RI.wait' h (getD_un hu) (T := 21) rfl (Array.mem_of_getElem? (i := 12) rfl) rfl rfl)
          have hA := Js.now h.world hw
          obtain ⟨v72, ev72, em72, F72⟩ := h.slot (i := 8) rfl rfl (hd _ (Array.mem_of_getElem? (i := 0) rfl) rfl)
          have e72 := ev72.trans (isE.out F72)
          have f72 := em72.trans (congrArg some (isE.out F72))
          clear ev72 em72 F72
          rw [if_pos (by rfl)]
          obtain ⟨g0, g1, g2, g3, gf⟩ := (HXz.out.go hA).facts
          obtain ⟨t0_, t1_, t2_, tf_⟩ := (HTz.out.go hA).facts
          obtain ⟨u0_, u1_, u2_, uf_⟩ := (HVz.out.go hA).facts
          obtain ⟨m0, m1, m2, ma, mb, mc⟩ := (HR.out.go hA).at3 ha
          rw [vc0] at m0
          rw [vc1] at m1
          rw [vc2] at m2
          have lm_ := (HR.out.go hA).lt
          go_simp
          exact hK _ _ (fact_stat _ _ _) (isE.mk rfl) (Js.stay hw (by decide) hA)
        case r10 =>
          intro listed a u h hu hd K hK
          have e4 : a.tmps.getD 4 undef = .pointer (some ⟨w.heap.size, 0, none⟩) := h.base (by kernel_rfl)
          have f4 : a.tmps[4]? = some (.pointer (some ⟨w.heap.size, 0, none⟩)) := h.old (by kernel_rfl)
          rw [if_pos (by rfl)]
          go_simp
          exact hK _ _ (fact_stat _ _ _) (isE.mk rfl) (Js.neutral h.world rfl)
        case r11 =>
          intro listed a u h hu hd K hK
          have hw := (RI.wait' h (getD_un hu) (T := 21) rfl (Array.mem_of_getElem? (i := 14) rfl) rfl rfl)
          have hA := Js.now h.world hw
          obtain ⟨v74, ev74, em74, F74⟩ := h.slot (i := 10) rfl rfl (hd _ (Array.mem_of_getElem? (i := 0) rfl) rfl)
          have e74 := ev74.trans (isE.out F74)
          have f74 := em74.trans (congrArg some (isE.out F74))
          clear ev74 em74 F74
          rw [if_pos (by rfl)]
          obtain ⟨g0, g1, g2, g3, gf⟩ := (HXz.out.go hA).facts
          obtain ⟨t0_, t1_, t2_, tf_⟩ := (HTz.out.go hA).facts
          obtain ⟨u0_, u1_, u2_, uf_⟩ := (HVz.out.go hA).facts
          obtain ⟨m0, m1, m2, ma, mb, mc⟩ := (HR.out.go hA).at3 ha
          rw [vc0] at m0
          rw [vc1] at m1
          rw [vc2] at m2
          have lm_ := (HR.out.go hA).lt
          go_simp
          exact hK _ _ (fact_stat _ _ _) (isE.mk rfl) (Js.stay hw (by decide) hA)
        case r12 =>
          intro listed a u h hu hd K hK
          obtain ⟨v73, ev73, em73, F73⟩ := h.slot (i := 9) rfl rfl (hd _ (Array.mem_of_getElem? (i := 0) rfl) rfl)
          have e73 := ev73.trans (isE.out F73)
          have f73 := em73.trans (congrArg some (isE.out F73))
          clear ev73 em73 F73
          obtain ⟨v75, ev75, em75, F75⟩ := h.slot (i := 11) rfl rfl (hd _ (Array.mem_of_getElem? (i := 1) rfl) rfl)
          have e75 := ev75.trans (isE.out F75)
          have f75 := em75.trans (congrArg some (isE.out F75))
          clear ev75 em75 F75
          rw [if_pos (by rfl)]
          go_simp
          exact hK _ _ (fact_stat _ _ _) (isE.mk rfl) (Js.neutral h.world rfl)
        case r13 =>
          intro listed a u h hu hd K hK
          have hw := (RI.wait' h (getD_un hu) (T := 21) rfl (Array.mem_of_getElem? (i := 16) rfl) rfl rfl)
          have hA := Js.now h.world hw
          obtain ⟨v76, ev76, em76, F76⟩ := h.slot (i := 12) rfl rfl (hd _ (Array.mem_of_getElem? (i := 0) rfl) rfl)
          have e76 := ev76.trans (isE.out F76)
          have f76 := em76.trans (congrArg some (isE.out F76))
          clear ev76 em76 F76
          rw [if_pos (by rfl)]
          obtain ⟨g0, g1, g2, g3, gf⟩ := (HXz.out.go hA).facts
          obtain ⟨t0_, t1_, t2_, tf_⟩ := (HTz.out.go hA).facts
          obtain ⟨u0_, u1_, u2_, uf_⟩ := (HVz.out.go hA).facts
          obtain ⟨m0, m1, m2, ma, mb, mc⟩ := (HR.out.go hA).at3 ha
          rw [vc0] at m0
          rw [vc1] at m1
          rw [vc2] at m2
          have lm_ := (HR.out.go hA).lt
          go_simp
          exact hK _ _ (fact_stat _ _ _) (isE.mk rfl) (Js.stay hw (by decide) hA)
        case r14 =>
          intro listed a u h hu hd K hK
          have hw := (RI.wait' h (getD_un hu) (T := 21) rfl (Array.mem_of_getElem? (i := 17) rfl) rfl rfl)
          have hA := Js.now h.world hw
          have e5 : a.tmps.getD 5 undef = .pointer (some ⟨k5, 0, none⟩) := h.base (by kernel_rfl)
          have f5 : a.tmps[5]? = some (.pointer (some ⟨k5, 0, none⟩)) := h.old (by kernel_rfl)
          rw [if_pos (by rfl)]
          obtain ⟨g0, g1, g2, g3, gf⟩ := (HXz.out.go hA).facts
          obtain ⟨t0_, t1_, t2_, tf_⟩ := (HTz.out.go hA).facts
          obtain ⟨u0_, u1_, u2_, uf_⟩ := (HVz.out.go hA).facts
          obtain ⟨m0, m1, m2, ma, mb, mc⟩ := (HR.out.go hA).at3 ha
          rw [vc0] at m0
          rw [vc1] at m1
          rw [vc2] at m2
          have lm_ := (HR.out.go hA).lt
          go_simp
          exact hK _ _ (fact_stat _ _ _) (isE.mk rfl) (Js.stay hw (by decide) hA)
        case r15 =>
          intro listed a u h hu hd K hK
          have e10 : a.tmps.getD 10 undef = .float .f32 xq := h.base (by kernel_rfl)
          have f10 : a.tmps[10]? = some (.float .f32 xq) := h.old (by kernel_rfl)
          rw [if_pos (by rfl)]
          go_simp
          exact hK _ _ (fact_stat _ _ _) (isE.mk rfl) (Js.neutral h.world rfl)
        case r16 =>
          intro listed a u h hu hd K hK
          have e7 : a.tmps.getD 7 undef = .float .f32 rA := h.base (by kernel_rfl)
          have f7 : a.tmps[7]? = some (.float .f32 rA) := h.old (by kernel_rfl)
          rw [if_pos (by rfl)]
          go_simp
          exact hK _ _ (fact_stat _ _ _) (isE.mk rfl) (Js.neutral h.world rfl)
        case r17 =>
          intro listed a u h hu hd K hK
          have hw := (RI.wait' h (getD_un hu) (T := 21) rfl (Array.mem_of_getElem? (i := 20) rfl) rfl rfl)
          have hA := Js.now h.world hw
          obtain ⟨v79, ev79, em79, F79⟩ := h.slot (i := 15) rfl rfl (hd _ (Array.mem_of_getElem? (i := 0) rfl) rfl)
          have e79 := ev79.trans (isE.out F79)
          have f79 := em79.trans (congrArg some (isE.out F79))
          clear ev79 em79 F79
          obtain ⟨v80, ev80, em80, F80⟩ := h.slot (i := 16) rfl rfl (hd _ (Array.mem_of_getElem? (i := 1) rfl) rfl)
          have e80 := ev80.trans (isE.out F80)
          have f80 := em80.trans (congrArg some (isE.out F80))
          clear ev80 em80 F80
          rw [if_pos (by rfl)]
          go_simp
          exact hK _ _ (fact_stat _ _ _) (isF.mk (opV_lt32 _ _ _ _ _) (mul_sim SXQ.out SA.out _ _)) (Js.stay hw (by decide) (below_dn hA _))
        case r18 =>
          intro listed a u h hu hd K hK
          have hw := (RI.wait' h (getD_un hu) (T := 21) rfl (Array.mem_of_getElem? (i := 21) rfl) rfl rfl)
          have hA := Js.now h.world hw
          obtain ⟨v78, ev78, em78, F78⟩ := h.slot (i := 14) rfl rfl (hd _ (Array.mem_of_getElem? (i := 0) rfl) rfl)
          have e78 := ev78.trans (isE.out F78)
          have f78 := em78.trans (congrArg some (isE.out F78))
          clear ev78 em78 F78
          obtain ⟨v81, ev81, em81, F81⟩ := h.slot (i := 17) rfl rfl (hd _ (Array.mem_of_getElem? (i := 1) rfl) rfl)
          obtain ⟨x81, q81, l81, s81⟩ := isF.out F81
          have e81 := ev81.trans q81
          have f81 := em81.trans (congrArg some q81)
          clear ev81 em81 F81
          rw [if_pos (by rfl)]
          go_simp
          refine Calls.mono (spec_l01Scale _ _ _ _ u) ?_
          rintro e u2 ⟨a0_, a1_, a2_, rfl, _, r0, r1, r2, hbb⟩
          exact hK _ _ (fact_stat _ _ _) (isV.mk ⟨r0.trans (fmul_sim SV.out.1 s81), r1.trans (fmul_sim SV.out.2.1 s81), r2.trans (fmul_sim SV.out.2.2 s81)⟩) (Js.stay hw (by decide) (hA.trans (hbb.mono hA.size)))
        case r19 =>
          intro listed a u h hu hd K hK
          have hw := (RI.wait' h (getD_un hu) (T := 21) rfl (Array.mem_of_getElem? (i := 1) rfl) rfl rfl)
          have hA := Js.now h.world hw
          obtain ⟨v77, ev77, em77, F77⟩ := h.slot (i := 13) rfl rfl (hd _ (Array.mem_of_getElem? (i := 0) rfl) rfl)
          have e77 := ev77.trans (isE.out F77)
          have f77 := em77.trans (congrArg some (isE.out F77))
          clear ev77 em77 F77
          obtain ⟨v82, ev82, em82, F82⟩ := h.slot (i := 18) rfl rfl (hd _ (Array.mem_of_getElem? (i := 1) rfl) rfl)
          obtain ⟨x82, y82, z82, q82, s82⟩ := isV.out F82
          have e82 := ev82.trans q82
          have f82 := em82.trans (congrArg some q82)
          clear ev82 em82 F82
          rw [if_pos (by rfl)]
          go_simp
          refine Calls.mono (spec_l01Add _ _ _ _ _ _ u) ?_
          rintro e u2 ⟨a0_, a1_, a2_, rfl, _, r0, r1, r2, hbb⟩
          exact hK _ _ (fact_stat _ _ _) (isV.mk ⟨r0.trans (fadd_sim (Sim.refl _ _) s82.1), r1.trans (fadd_sim (Sim.refl _ _) s82.2.1), r2.trans (fadd_sim (Sim.refl _ _) s82.2.2)⟩) (Js.stay hw (by decide) (hA.trans (hbb.mono hA.size)))
        case r20 =>
          intro listed a u h hu hd K hK
          obtain ⟨v67, ev67, em67, F67⟩ := h.slot (i := 3) rfl rfl (hd _ (Array.mem_of_getElem? (i := 0) rfl) rfl)
          have e67 := ev67.trans (isE.out F67)
          have f67 := em67.trans (congrArg some (isE.out F67))
          clear ev67 em67 F67
          obtain ⟨v69, ev69, em69, F69⟩ := h.slot (i := 5) rfl rfl (hd _ (Array.mem_of_getElem? (i := 1) rfl) rfl)
          have e69 := ev69.trans (isE.out F69)
          have f69 := em69.trans (congrArg some (isE.out F69))
          clear ev69 em69 F69
          rw [if_pos (by rfl)]
          go_simp
          exact hK _ _ (fact_stat _ _ _) (isE.mk rfl) (Js.neutral h.world rfl)
        case r21 =>
          intro listed a u h hu hd K hK
          have hw := getD_un hu
          have hA := Js.now h.world hw
          obtain ⟨v84, ev84, em84, F84⟩ := h.slot (i := 20) rfl rfl (hd _ (Array.mem_of_getElem? (i := 0) rfl) rfl)
          have e84 := ev84.trans (isE.out F84)
          have f84 := em84.trans (congrArg some (isE.out F84))
          clear ev84 em84 F84
          obtain ⟨v83, ev83, em83, F83⟩ := h.slot (i := 19) rfl rfl (hd _ (Array.mem_of_getElem? (i := 1) rfl) rfl)
          obtain ⟨x83, y83, z83, q83, s83⟩ := isV.out F83
          have e83 := ev83.trans q83
          have f83 := em83.trans (congrArg some q83)
          clear ev83 em83 F83
          rw [if_pos (by rfl)]
          obtain ⟨g0, g1, g2, g3, gf⟩ := (HXz.out.go hA).facts
          obtain ⟨t0_, t1_, t2_, tf_⟩ := (HTz.out.go hA).facts
          obtain ⟨u0_, u1_, u2_, uf_⟩ := (HVz.out.go hA).facts
          obtain ⟨m0, m1, m2, ma, mb, mc⟩ := (HR.out.go hA).at3 ha
          rw [vc0] at m0
          rw [vc1] at m1
          rw [vc2] at m2
          have lm_ := (HR.out.go hA).lt
          go_simp
          exact hK undef _ (fact_stat _ _ _) trivial (Js.hit (un_lt hu) (Js.nil ⟨u, x83, y83, z83, hA, s83, rfl⟩))
        case hend =>
          intro listed a u h hall
          have hB : (fun W => ∃ W5 zz0 zz1 zz2, Below wz.heap.size wz W5 ∧ SimP ⟨zz0, zz1, zz2⟩ (vadd (D.P pa) (vmul (strV D pa pb) (F.mul (strQ D pa pb rl) (shrF (D.W pa))))) ∧ W = (((W5.setCell ⟨b1, pa * 3, none⟩ (.float .f32 zz0)).setCell ⟨b1, pa * 3 + 1, none⟩ (.float .f32 zz1)).setCell ⟨b1, pa * 3 + 2, none⟩ (.float .f32 zz2))) u := (Js.past h.world (hall 21 (by decide)))
          obtain ⟨v64, ev64, em64, F64⟩ := h.slot (i := 0) rfl rfl (hall 0 (by decide))
          have f64 := em64.trans (congrArg some (isE.out F64))
          clear ev64 em64 F64
          obtain ⟨v65, ev65, em65, F65⟩ := h.slot (i := 1) rfl rfl (hall 1 (by decide))
          have f65 := em65.trans (congrArg some (isE.out F65))
          clear ev65 em65 F65
          obtain ⟨v66, ev66, em66, F66⟩ := h.slot (i := 2) rfl rfl (hall 2 (by decide))
          have f66 := em66.trans (congrArg some (isE.out F66))
          clear ev66 em66 F66
          obtain ⟨v67, ev67, em67, F67⟩ := h.slot (i := 3) rfl rfl (hall 3 (by decide))
          have f67 := em67.trans (congrArg some (isE.out F67))
          clear ev67 em67 F67
          obtain ⟨v68, ev68, em68, F68⟩ := h.slot (i := 4) rfl rfl (hall 4 (by decide))
          have f68 := em68.trans (congrArg some (isE.out F68))
          clear ev68 em68 F68
          obtain ⟨v69, ev69, em69, F69⟩ := h.slot (i := 5) rfl rfl (hall 5 (by decide))
          have f69 := em69.trans (congrArg some (isE.out F69))
          clear ev69 em69 F69
          obtain ⟨v70, ev70, em70, F70⟩ := h.slot (i := 6) rfl rfl (hall 6 (by decide))
          have f70 := em70.trans (congrArg some (isE.out F70))
          clear ev70 em70 F70
          obtain ⟨v71, ev71, em71, F71⟩ := h.slot (i := 7) rfl rfl (hall 7 (by decide))
          have f71 := em71.trans (congrArg some (isE.out F71))
          clear ev71 em71 F71
          obtain ⟨v72, ev72, em72, F72⟩ := h.slot (i := 8) rfl rfl (hall 8 (by decide))
          have f72 := em72.trans (congrArg some (isE.out F72))
          clear ev72 em72 F72
          obtain ⟨v73, ev73, em73, F73⟩ := h.slot (i := 9) rfl rfl (hall 9 (by decide))
          have f73 := em73.trans (congrArg some (isE.out F73))
          clear ev73 em73 F73
          obtain ⟨v74, ev74, em74, F74⟩ := h.slot (i := 10) rfl rfl (hall 10 (by decide))
          have f74 := em74.trans (congrArg some (isE.out F74))
          clear ev74 em74 F74
          obtain ⟨v75, ev75, em75, F75⟩ := h.slot (i := 11) rfl rfl (hall 11 (by decide))
          have f75 := em75.trans (congrArg some (isE.out F75))
          clear ev75 em75 F75
          obtain ⟨v76, ev76, em76, F76⟩ := h.slot (i := 12) rfl rfl (hall 12 (by decide))
          have f76 := em76.trans (congrArg some (isE.out F76))
          clear ev76 em76 F76
          obtain ⟨v77, ev77, em77, F77⟩ := h.slot (i := 13) rfl rfl (hall 13 (by decide))
          have f77 := em77.trans (congrArg some (isE.out F77))
          clear ev77 em77 F77
          obtain ⟨v78, ev78, em78, F78⟩ := h.slot (i := 14) rfl rfl (hall 14 (by decide))
          have f78 := em78.trans (congrArg some (isE.out F78))
          clear ev78 em78 F78
          obtain ⟨v79, ev79, em79, F79⟩ := h.slot (i := 15) rfl rfl (hall 15 (by decide))
          have f79 := em79.trans (congrArg some (isE.out F79))
          clear ev79 em79 F79
          obtain ⟨v80, ev80, em80, F80⟩ := h.slot (i := 16) rfl rfl (hall 16 (by decide))
          have f80 := em80.trans (congrArg some (isE.out F80))
          clear ev80 em80 F80
          obtain ⟨v81, ev81, em81, F81⟩ := h.slot (i := 17) rfl rfl (hall 17 (by decide))
          obtain ⟨x81, q81, l81, s81⟩ := isF.out F81
          have f81 := em81.trans (congrArg some q81)
          clear ev81 em81 F81
          obtain ⟨v82, ev82, em82, F82⟩ := h.slot (i := 18) rfl rfl (hall 18 (by decide))
          obtain ⟨x82, y82, z82, q82, s82⟩ := isV.out F82
          have f82 := em82.trans (congrArg some q82)
          clear ev82 em82 F82
          obtain ⟨v83, ev83, em83, F83⟩ := h.slot (i := 19) rfl rfl (hall 19 (by decide))
          obtain ⟨x83, y83, z83, q83, s83⟩ := isV.out F83
          have f83 := em83.trans (congrArg some q83)
          clear ev83 em83 F83
          obtain ⟨v84, ev84, em84, F84⟩ := h.slot (i := 20) rfl rfl (hall 20 (by decide))
          have f84 := em84.trans (congrArg some (isE.out F84))
          clear ev84 em84 F84
          have ha := h.act [64, 65, 66, 67, 68, 69, 70, 71, 72, 73, 74, 75, 76, 77, 78, 79, 80, 81, 82, 83, 84] [_, _, _, _, _, _, _, _, _, _, _, _, _, _, _, _, _, _, _, _, _] (by kernel_rfl) ⟨f64, f65, f66, f67, f68, f69, f70, f71, f72, f73, f74, f75, f76, f77, f78, f79, f80, f81, f82, f83, f84, trivial⟩
          clear f64 f65 f66 f67 f68 f69 f70 f71 f72 f73 f74 f75 f76 f77 f78 f79 f80 f81 f82 f83 f84
          simp only [setAll, List.setIfInBounds_toArray, List.set_cons_zero, List.set_cons_succ] at ha
          subst ha
          clear h hall
          obtain ⟨W5, r0, r1, r2, hb5, hs5, hu5⟩ := hB
          obtain ⟨wy, rfl⟩ : ∃ z : World, z = u := ⟨u, rfl⟩
          have S5 := Lib.hid hs5
          have y5 := hb5.size
          have HXy := Lib.hid (show Bx wy g 32 (.slice (some ⟨b1, 0, none⟩) n c1) (.slice A2 n c2) (.slice A3 n c3) (.slice (some ⟨b4, 0, none⟩) m c4) by rw [hu5]; exact (HXz.out.go hb5).far3' hn1 _ _ _)
          have HOy := Lib.hid (show Own wy M (some ⟨b1, 0, none⟩) A2 A3 (some ⟨b4, 0, none⟩) c1 c2 c3 c4 n n n m (setP D pa ⟨r0, r1, r2⟩) by rw [hu5]; exact (HOz.out.go hb5).setP rfl ha r0 r1 r2)
          have HTy := Lib.hid (show Tx wy w.heap.size 91 (.int .i64 (pa : Int)) (.int .i64 (pb : Int)) (.float .f32 rl) by rw [hu5]; exact (HTz.out.go hb5).far3' (by omega) _ _ _)
          have HVy := Lib.hid (show Tx wy k5 38 (.float .f32 v0) (.float .f32 v1) (.float .f32 v2) by rw [hu5]; exact (HVz.out.go hb5).far3' (by omega) _ _ _)
          have HBy := Lib.hid (show Wr (fun k => k = b1) w wy by rw [hu5]; exact (HBz.out.step hb5).trans (Wr.set3 _ _ _ _ _ _ _ _))
          have yy : wy.heap.size = W5.heap.size := by rw [hu5]; simp [World.setCell]
          clear hu5 hb5 hs5 hw0 HXz HOz HTz HVz HBz HR
          have hw0 : Below wy.heap.size wy wy.drew := (Below.refl _ _).drew
          go_upto_region 9 with fail
          obtain ⟨b1', hb1', _, _, _, hr⟩ := HOy.out.s1 (by omega)
          cases hb1'
          have HR := Lib.hid hr
          clear hr
          refine region_inv (stat [isE (.pointer (some ⟨g, 0, none⟩)), isE (.pointer (some ⟨g, 0, none⟩)), isE (.pointer (some ⟨g, 0, none⟩)), isE (.slice (some ⟨b1, 0, none⟩) n c1), isE (.pointer (some ⟨w.heap.size, 1, none⟩)), isE (.int .i64 (pb : Int)), isE (.pointer (some ⟨g, 0, none⟩)), isE (.pointer (some ⟨g, 0, none⟩)), isE (.pointer (some ⟨g, 0, none⟩)), isE (.slice (some ⟨b1, 0, none⟩) n c1), isE (.pointer (some ⟨w.heap.size, 1, none⟩)), isE (.int .i64 (pb : Int)), isE (.pointer (some ⟨b1, pb * 3, none⟩)), isE (.agg #[.float .f32 ((setP D pa ⟨r0, r1, r2⟩).P pb).x, .float .f32 ((setP D pa ⟨r0, r1, r2⟩).P pb).y, .float .f32 ((setP D pa ⟨r0, r1, r2⟩).P pb).z]), isE (.agg #[.float .f32 v0, .float .f32 v1, .float .f32 v2]), isE (.float .f32 xq), isE (.float .f32 rB), isF (F.mul (strQ D pa pb rl) (shrF (D.W pb))), isV (vmul (strV D pa pb) (F.mul (strQ D pa pb rl) (shrF (D.W pb)))), isV (vsub ((setP D pa ⟨r0, r1, r2⟩).P pb) (vmul (strV D pa pb) (F.mul (strQ D pa pb rl) (shrF (D.W pb))))), isE (.pointer (some ⟨b1, pb * 3, none⟩)), fun _ => True]) (fun l W => Js [(21, fun W => ∃ W5 zz0 zz1 zz2, Below wy.heap.size wy W5 ∧ SimP ⟨zz0, zz1, zz2⟩ (vsub ((setP D pa ⟨r0, r1, r2⟩).P pb) (vmul (strV D pa pb) (F.mul (strQ D pa pb rl) (shrF (D.W pb))))) ∧ W = (((W5.setCell ⟨b1, pb * 3, none⟩ (.float .f32 zz0)).setCell ⟨b1, pb * 3 + 1, none⟩ (.float .f32 zz1)).setCell ⟨b1, pb * 3 + 2, none⟩ (.float .f32 zz2)))] (fun W => Below wy.heap.size wy W) l W) (by kernel_rfl) (by kernel_rfl) (by kernel_rfl) (Js.first hw0) ⟨?r0, ?r1, ?r2, ?r3, ?r4, ?r5, ?r6, ?r7, ?r8, ?r9, ?r10, ?r11, ?r12, ?r13, ?r14, ?r15, ?r16, ?r17, ?r18, ?r19, ?r20, ?r21, trivial⟩ ?hend
          case r0 =>
            intro listed a u h hu hd K hK
            have e0 : a.tmps.getD 0 undef = .pointer (some ⟨g, 0, none⟩) := h.base (by kernel_rfl)
            have f0 : a.tmps[0]? = some (.pointer (some ⟨g, 0, none⟩)) := h.old (by kernel_rfl)
            rw [if_pos (by rfl)]
            go_simp
            exact hK _ _ (fact_stat _ _ _) (isE.mk rfl) (Js.neutral h.world rfl)
          case r1 =>
            intro listed a u h hu hd K hK
            obtain ⟨v85, ev85, em85, F85⟩ := h.slot (i := 0) rfl rfl (hd _ (Array.mem_of_getElem? (i := 0) rfl) rfl)
            have e85 := ev85.trans (isE.out F85)
            have f85 := em85.trans (congrArg some (isE.out F85))
            clear ev85 em85 F85
            rw [if_pos (by rfl)]
            go_simp
            exact hK _ _ (fact_stat _ _ _) (isE.mk rfl) (Js.neutral h.world rfl)
          case r2 =>
            intro listed a u h hu hd K hK
            obtain ⟨v86, ev86, em86, F86⟩ := h.slot (i := 1) rfl rfl (hd _ (Array.mem_of_getElem? (i := 0) rfl) rfl)
            have e86 := ev86.trans (isE.out F86)
            have f86 := em86.trans (congrArg some (isE.out F86))
            clear ev86 em86 F86
            rw [if_pos (by rfl)]
            go_simp
            exact hK _ _ (fact_stat _ _ _) (isE.mk rfl) (Js.neutral h.world rfl)
          case r3 =>
            intro listed a u h hu hd K hK
            have hw := (RI.wait' h (getD_un hu) (T := 21) rfl (Array.mem_of_getElem? (i := 6) rfl) rfl rfl)
            have hA := Js.now h.world hw
            obtain ⟨v87, ev87, em87, F87⟩ := h.slot (i := 2) rfl rfl (hd _ (Array.mem_of_getElem? (i := 0) rfl) rfl)
            have e87 := ev87.trans (isE.out F87)
            have f87 := em87.trans (congrArg some (isE.out F87))
            clear ev87 em87 F87
            rw [if_pos (by rfl)]
            obtain ⟨g0, g1, g2, g3, gf⟩ := (HXy.out.go hA).facts
            obtain ⟨t0_, t1_, t2_, tf_⟩ := (HTy.out.go hA).facts
            obtain ⟨u0_, u1_, u2_, uf_⟩ := (HVy.out.go hA).facts
            obtain ⟨m0, m1, m2, ma, mb, mc⟩ := (HR.out.go hA).at3 hb
            rw [vc0] at m0
            rw [vc1] at m1
            rw [vc2] at m2
            have lm_ := (HR.out.go hA).lt
            go_simp
            exact hK _ _ (fact_stat _ _ _) (isE.mk rfl) (Js.stay hw (by decide) hA)
          case r4 =>
            intro listed a u h hu hd K hK
            have e4 : a.tmps.getD 4 undef = .pointer (some ⟨w.heap.size, 0, none⟩) := h.base (by kernel_rfl)
            have f4 : a.tmps[4]? = some (.pointer (some ⟨w.heap.size, 0, none⟩)) := h.old (by kernel_rfl)
            rw [if_pos (by rfl)]
            go_simp
            exact hK _ _ (fact_stat _ _ _) (isE.mk rfl) (Js.neutral h.world rfl)
          case r5 =>
            intro listed a u h hu hd K hK
            have hw := (RI.wait' h (getD_un hu) (T := 21) rfl (Array.mem_of_getElem? (i := 8) rfl) rfl rfl)
            have hA := Js.now h.world hw
            obtain ⟨v89, ev89, em89, F89⟩ := h.slot (i := 4) rfl rfl (hd _ (Array.mem_of_getElem? (i := 0) rfl) rfl)
            have e89 := ev89.trans (isE.out F89)
            have f89 := em89.trans (congrArg some (isE.out F89))
            clear ev89 em89 F89
            rw [if_pos (by rfl)]
            obtain ⟨g0, g1, g2, g3, gf⟩ := (HXy.out.go hA).facts
            obtain ⟨t0_, t1_, t2_, tf_⟩ := (HTy.out.go hA).facts
            obtain ⟨u0_, u1_, u2_, uf_⟩ := (HVy.out.go hA).facts
            obtain ⟨m0, m1, m2, ma, mb, mc⟩ := (HR.out.go hA).at3 hb
            rw [vc0] at m0
            rw [vc1] at m1
            rw [vc2] at m2
            have lm_ := (HR.out.go hA).lt
            go_simp
            exact hK _ _ (fact_stat _ _ _) (isE.mk rfl) (Js.stay hw (by decide) hA)
          case r6 =>
            intro listed a u h hu hd K hK
            have e0 : a.tmps.getD 0 undef = .pointer (some ⟨g, 0, none⟩) := h.base (by kernel_rfl)
            have f0 : a.tmps[0]? = some (.pointer (some ⟨g, 0, none⟩)) := h.old (by kernel_rfl)
            rw [if_pos (by rfl)]
            go_simp
            exact hK _ _ (fact_stat _ _ _) (isE.mk rfl) (Js.neutral h.world rfl)
          case r7 =>
            intro listed a u h hu hd K hK
            obtain ⟨v91, ev91, em91, F91⟩ := h.slot (i := 6) rfl rfl (hd _ (Array.mem_of_getElem? (i := 0) rfl) rfl)
            have e91 := ev91.trans (isE.out F91)
            have f91 := em91.trans (congrArg some (isE.out F91))
            clear ev91 em91 F91
            rw [if_pos (by rfl)]
            go_simp
            exact hK _ _ (fact_stat _ _ _) (isE.mk rfl) (Js.neutral h.world rfl)
          case r8 =>
            intro listed a u h hu hd K hK
            obtain ⟨v92, ev92, em92, F92⟩ := h.slot (i := 7) rfl rfl (hd _ (Array.mem_of_getElem? (i := 0) rfl) rfl)
            have e92 := ev92.trans (isE.out F92)
            have f92 := em92.trans (congrArg some (isE.out F92))
            clear ev92 em92 F92
            rw [if_pos (by rfl)]
            go_simp
            exact hK _ _ (fact_stat _ _ _) (isE.mk rfl) (Js.neutral h.world rfl)
          case r9 =>
            intro listed a u h hu hd K hK
            have hw := (RI.wait' h (getD_un hu) (T := 21) rfl (Array.mem_of_getElem? (i := 12) rfl) rfl rfl)
            have hA := Js.now h.world hw
            obtain ⟨v93, ev93, em93, F93⟩ := h.slot (i := 8) rfl rfl (hd _ (Array.mem_of_getElem? (i := 0) rfl) rfl)
            have e93 := ev93.trans (isE.out F93)
            have f93 := em93.trans (congrArg some (isE.out F93))
            clear ev93 em93 F93
            rw [if_pos (by rfl)]
            obtain ⟨g0, g1, g2, g3, gf⟩ := (HXy.out.go hA).facts
            obtain ⟨t0_, t1_, t2_, tf_⟩ := (HTy.out.go hA).facts
            obtain ⟨u0_, u1_, u2_, uf_⟩ := (HVy.out.go hA).facts
            obtain ⟨m0, m1, m2, ma, mb, mc⟩ := (HR.out.go hA).at3 hb
            rw [vc0] at m0
            rw [vc1] at m1
            rw [vc2] at m2
            have lm_ := (HR.out.go hA).lt
            go_simp
            exact hK _ _ (fact_stat _ _ _) (isE.mk rfl) (Js.stay hw (by decide) hA)
          case r10 =>
            intro listed a u h hu hd K hK
            have e4 : a.tmps.getD 4 undef = .pointer (some ⟨w.heap.size, 0, none⟩) := h.base (by kernel_rfl)
            have f4 : a.tmps[4]? = some (.pointer (some ⟨w.heap.size, 0, none⟩)) := h.old (by kernel_rfl)
            rw [if_pos (by rfl)]
            go_simp
            exact hK _ _ (fact_stat _ _ _) (isE.mk rfl) (Js.neutral h.world rfl)
          case r11 =>
            intro listed a u h hu hd K hK
            have hw := (RI.wait' h (getD_un hu) (T := 21) rfl (Array.mem_of_getElem? (i := 14) rfl) rfl rfl)
            have hA := Js.now h.world hw
            obtain ⟨v95, ev95, em95, F95⟩ := h.slot (i := 10) rfl rfl (hd _ (Array.mem_of_getElem? (i := 0) rfl) rfl)
            have e95 := ev95.trans (isE.out F95)
            have f95 := em95.trans (congrArg some (isE.out F95))
            clear ev95 em95 F95
            rw [if_pos (by rfl)]
            obtain ⟨g0, g1, g2, g3, gf⟩ := (HXy.out.go hA).facts
            obtain ⟨t0_, t1_, t2_, tf_⟩ := (HTy.out.go hA).facts
            obtain ⟨u0_, u1_, u2_, uf_⟩ := (HVy.out.go hA).facts
            obtain ⟨m0, m1, m2, ma, mb, mc⟩ := (HR.out.go hA).at3 hb
            rw [vc0] at m0
            rw [vc1] at m1
            rw [vc2] at m2
            have lm_ := (HR.out.go hA).lt
            go_simp
            exact hK _ _ (fact_stat _ _ _) (isE.mk rfl) (Js.stay hw (by decide) hA)
          case r12 =>
            intro listed a u h hu hd K hK
            obtain ⟨v94, ev94, em94, F94⟩ := h.slot (i := 9) rfl rfl (hd _ (Array.mem_of_getElem? (i := 0) rfl) rfl)
            have e94 := ev94.trans (isE.out F94)
            have f94 := em94.trans (congrArg some (isE.out F94))
            clear ev94 em94 F94
            obtain ⟨v96, ev96, em96, F96⟩ := h.slot (i := 11) rfl rfl (hd _ (Array.mem_of_getElem? (i := 1) rfl) rfl)
            have e96 := ev96.trans (isE.out F96)
            have f96 := em96.trans (congrArg some (isE.out F96))
            clear ev96 em96 F96
            rw [if_pos (by rfl)]
            go_simp
            exact hK _ _ (fact_stat _ _ _) (isE.mk rfl) (Js.neutral h.world rfl)
          case r13 =>
            intro listed a u h hu hd K hK
            have hw := (RI.wait' h (getD_un hu) (T := 21) rfl (Array.mem_of_getElem? (i := 16) rfl) rfl rfl)
            have hA := Js.now h.world hw
            obtain ⟨v97, ev97, em97, F97⟩ := h.slot (i := 12) rfl rfl (hd _ (Array.mem_of_getElem? (i := 0) rfl) rfl)
            have e97 := ev97.trans (isE.out F97)
            have f97 := em97.trans (congrArg some (isE.out F97))
            clear ev97 em97 F97
            rw [if_pos (by rfl)]
            obtain ⟨g0, g1, g2, g3, gf⟩ := (HXy.out.go hA).facts
            obtain ⟨t0_, t1_, t2_, tf_⟩ := (HTy.out.go hA).facts
            obtain ⟨u0_, u1_, u2_, uf_⟩ := (HVy.out.go hA).facts
            obtain ⟨m0, m1, m2, ma, mb, mc⟩ := (HR.out.go hA).at3 hb
            rw [vc0] at m0
            rw [vc1] at m1
            rw [vc2] at m2
            have lm_ := (HR.out.go hA).lt
            go_simp
            exact hK _ _ (fact_stat _ _ _) (isE.mk rfl) (Js.stay hw (by decide) hA)
          case r14 =>
            intro listed a u h hu hd K hK
            have hw := (RI.wait' h (getD_un hu) (T := 21) rfl (Array.mem_of_getElem? (i := 17) rfl) rfl rfl)
            have hA := Js.now h.world hw
            have e5 : a.tmps.getD 5 undef = .pointer (some ⟨k5, 0, none⟩) := h.base (by kernel_rfl)
            have f5 : a.tmps[5]? = some (.pointer (some ⟨k5, 0, none⟩)) := h.old (by kernel_rfl)
            rw [if_pos (by rfl)]
            obtain ⟨g0, g1, g2, g3, gf⟩ := (HXy.out.go hA).facts
            obtain ⟨t0_, t1_, t2_, tf_⟩ := (HTy.out.go hA).facts
            obtain ⟨u0_, u1_, u2_, uf_⟩ := (HVy.out.go hA).facts
            obtain ⟨m0, m1, m2, ma, mb, mc⟩ := (HR.out.go hA).at3 hb
            rw [vc0] at m0
            rw [vc1] at m1
            rw [vc2] at m2
            have lm_ := (HR.out.go hA).lt
            go_simp
            exact hK _ _ (fact_stat _ _ _) (isE.mk rfl) (Js.stay hw (by decide) hA)
          case r15 =>
            intro listed a u h hu hd K hK
            have e10 : a.tmps.getD 10 undef = .float .f32 xq := h.base (by kernel_rfl)
            have f10 : a.tmps[10]? = some (.float .f32 xq) := h.old (by kernel_rfl)
            rw [if_pos (by rfl)]
            go_simp
            exact hK _ _ (fact_stat _ _ _) (isE.mk rfl) (Js.neutral h.world rfl)
          case r16 =>
            intro listed a u h hu hd K hK
            have e8 : a.tmps.getD 8 undef = .float .f32 rB := h.base (by kernel_rfl)
            have f8 : a.tmps[8]? = some (.float .f32 rB) := h.old (by kernel_rfl)
            rw [if_pos (by rfl)]
            go_simp
            exact hK _ _ (fact_stat _ _ _) (isE.mk rfl) (Js.neutral h.world rfl)
          case r17 =>
            intro listed a u h hu hd K hK
            have hw := (RI.wait' h (getD_un hu) (T := 21) rfl (Array.mem_of_getElem? (i := 20) rfl) rfl rfl)
            have hA := Js.now h.world hw
            obtain ⟨v100, ev100, em100, F100⟩ := h.slot (i := 15) rfl rfl (hd _ (Array.mem_of_getElem? (i := 0) rfl) rfl)
            have e100 := ev100.trans (isE.out F100)
            have f100 := em100.trans (congrArg some (isE.out F100))
            clear ev100 em100 F100
            obtain ⟨v101, ev101, em101, F101⟩ := h.slot (i := 16) rfl rfl (hd _ (Array.mem_of_getElem? (i := 1) rfl) rfl)
            have e101 := ev101.trans (isE.out F101)
            have f101 := em101.trans (congrArg some (isE.out F101))
            clear ev101 em101 F101
            rw [if_pos (by rfl)]
            go_simp
            exact hK _ _ (fact_stat _ _ _) (isF.mk (opV_lt32 _ _ _ _ _) (mul_sim SXQ.out SB.out _ _)) (Js.stay hw (by decide) (below_dn hA _))
          case r18 =>
            intro listed a u h hu hd K hK
            have hw := (RI.wait' h (getD_un hu) (T := 21) rfl (Array.mem_of_getElem? (i := 21) rfl) rfl rfl)
            have hA := Js.now h.world hw
            obtain ⟨v99, ev99, em99, F99⟩ := h.slot (i := 14) rfl rfl (hd _ (Array.mem_of_getElem? (i := 0) rfl) rfl)
            have e99 := ev99.trans (isE.out F99)
            have f99 := em99.trans (congrArg some (isE.out F99))
            clear ev99 em99 F99
            obtain ⟨v102, ev102, em102, F102⟩ := h.slot (i := 17) rfl rfl (hd _ (Array.mem_of_getElem? (i := 1) rfl) rfl)
            obtain ⟨x102, q102, l102, s102⟩ := isF.out F102
            have e102 := ev102.trans q102
            have f102 := em102.trans (congrArg some q102)
            clear ev102 em102 F102
            rw [if_pos (by rfl)]
            go_simp
            refine Calls.mono (spec_l01Scale _ _ _ _ u) ?_
            rintro e u2 ⟨a0_, a1_, a2_, rfl, _, r0, r1, r2, hbb⟩
            exact hK _ _ (fact_stat _ _ _) (isV.mk ⟨r0.trans (fmul_sim SV.out.1 s102), r1.trans (fmul_sim SV.out.2.1 s102), r2.trans (fmul_sim SV.out.2.2 s102)⟩) (Js.stay hw (by decide) (hA.trans (hbb.mono hA.size)))
          case r19 =>
            intro listed a u h hu hd K hK
            have hw := (RI.wait' h (getD_un hu) (T := 21) rfl (Array.mem_of_getElem? (i := 1) rfl) rfl rfl)
            have hA := Js.now h.world hw
            obtain ⟨v98, ev98, em98, F98⟩ := h.slot (i := 13) rfl rfl (hd _ (Array.mem_of_getElem? (i := 0) rfl) rfl)
            have e98 := ev98.trans (isE.out F98)
            have f98 := em98.trans (congrArg some (isE.out F98))
            clear ev98 em98 F98
            obtain ⟨v103, ev103, em103, F103⟩ := h.slot (i := 18) rfl rfl (hd _ (Array.mem_of_getElem? (i := 1) rfl) rfl)
            obtain ⟨x103, y103, z103, q103, s103⟩ := isV.out F103
            have e103 := ev103.trans q103
            have f103 := em103.trans (congrArg some q103)
            clear ev103 em103 F103
            rw [if_pos (by rfl)]
            go_simp
            refine Calls.mono (spec_l01Less _ _ _ _ _ _ u) ?_
            rintro e u2 ⟨a0_, a1_, a2_, rfl, _, r0, r1, r2, hbb⟩
            exact hK _ _ (fact_stat _ _ _) (isV.mk ⟨r0.trans (fsub_sim (Sim.refl _ _) s103.1), r1.trans (fsub_sim (Sim.refl _ _) s103.2.1), r2.trans (fsub_sim (Sim.refl _ _) s103.2.2)⟩) (Js.stay hw (by decide) (hA.trans (hbb.mono hA.size)))
          case r20 =>
            intro listed a u h hu hd K hK
            obtain ⟨v88, ev88, em88, F88⟩ := h.slot (i := 3) rfl rfl (hd _ (Array.mem_of_getElem? (i := 0) rfl) rfl)
            have e88 := ev88.trans (isE.out F88)
            have f88 := em88.trans (congrArg some (isE.out F88))
            clear ev88 em88 F88
            obtain ⟨v90, ev90, em90, F90⟩ := h.slot (i := 5) rfl rfl (hd _ (Array.mem_of_getElem? (i := 1) rfl) rfl)
            have e90 := ev90.trans (isE.out F90)
            have f90 := em90.trans (congrArg some (isE.out F90))
            clear ev90 em90 F90
            rw [if_pos (by rfl)]
            go_simp
            exact hK _ _ (fact_stat _ _ _) (isE.mk rfl) (Js.neutral h.world rfl)
          case r21 =>
            intro listed a u h hu hd K hK
            have hw := getD_un hu
            have hA := Js.now h.world hw
            obtain ⟨v105, ev105, em105, F105⟩ := h.slot (i := 20) rfl rfl (hd _ (Array.mem_of_getElem? (i := 0) rfl) rfl)
            have e105 := ev105.trans (isE.out F105)
            have f105 := em105.trans (congrArg some (isE.out F105))
            clear ev105 em105 F105
            obtain ⟨v104, ev104, em104, F104⟩ := h.slot (i := 19) rfl rfl (hd _ (Array.mem_of_getElem? (i := 1) rfl) rfl)
            obtain ⟨x104, y104, z104, q104, s104⟩ := isV.out F104
            have e104 := ev104.trans q104
            have f104 := em104.trans (congrArg some q104)
            clear ev104 em104 F104
            rw [if_pos (by rfl)]
            obtain ⟨g0, g1, g2, g3, gf⟩ := (HXy.out.go hA).facts
            obtain ⟨t0_, t1_, t2_, tf_⟩ := (HTy.out.go hA).facts
            obtain ⟨u0_, u1_, u2_, uf_⟩ := (HVy.out.go hA).facts
            obtain ⟨m0, m1, m2, ma, mb, mc⟩ := (HR.out.go hA).at3 hb
            rw [vc0] at m0
            rw [vc1] at m1
            rw [vc2] at m2
            have lm_ := (HR.out.go hA).lt
            go_simp
            exact hK undef _ (fact_stat _ _ _) trivial (Js.hit (un_lt hu) (Js.nil ⟨u, x104, y104, z104, hA, s104, rfl⟩))
          case hend =>
            intro listed a u h hall
            have hB : (fun W => ∃ W5 zz0 zz1 zz2, Below wy.heap.size wy W5 ∧ SimP ⟨zz0, zz1, zz2⟩ (vsub ((setP D pa ⟨r0, r1, r2⟩).P pb) (vmul (strV D pa pb) (F.mul (strQ D pa pb rl) (shrF (D.W pb))))) ∧ W = (((W5.setCell ⟨b1, pb * 3, none⟩ (.float .f32 zz0)).setCell ⟨b1, pb * 3 + 1, none⟩ (.float .f32 zz1)).setCell ⟨b1, pb * 3 + 2, none⟩ (.float .f32 zz2))) u := (Js.past h.world (hall 21 (by decide)))
            obtain ⟨v85, ev85, em85, F85⟩ := h.slot (i := 0) rfl rfl (hall 0 (by decide))
            have f85 := em85.trans (congrArg some (isE.out F85))
            clear ev85 em85 F85
            obtain ⟨v86, ev86, em86, F86⟩ := h.slot (i := 1) rfl rfl (hall 1 (by decide))
            have f86 := em86.trans (congrArg some (isE.out F86))
            clear ev86 em86 F86
            obtain ⟨v87, ev87, em87, F87⟩ := h.slot (i := 2) rfl rfl (hall 2 (by decide))
            have f87 := em87.trans (congrArg some (isE.out F87))
            clear ev87 em87 F87
            obtain ⟨v88, ev88, em88, F88⟩ := h.slot (i := 3) rfl rfl (hall 3 (by decide))
            have f88 := em88.trans (congrArg some (isE.out F88))
            clear ev88 em88 F88
            obtain ⟨v89, ev89, em89, F89⟩ := h.slot (i := 4) rfl rfl (hall 4 (by decide))
            have f89 := em89.trans (congrArg some (isE.out F89))
            clear ev89 em89 F89
            obtain ⟨v90, ev90, em90, F90⟩ := h.slot (i := 5) rfl rfl (hall 5 (by decide))
            have f90 := em90.trans (congrArg some (isE.out F90))
            clear ev90 em90 F90
            obtain ⟨v91, ev91, em91, F91⟩ := h.slot (i := 6) rfl rfl (hall 6 (by decide))
            have f91 := em91.trans (congrArg some (isE.out F91))
            clear ev91 em91 F91
            obtain ⟨v92, ev92, em92, F92⟩ := h.slot (i := 7) rfl rfl (hall 7 (by decide))
            have f92 := em92.trans (congrArg some (isE.out F92))
            clear ev92 em92 F92
            obtain ⟨v93, ev93, em93, F93⟩ := h.slot (i := 8) rfl rfl (hall 8 (by decide))
            have f93 := em93.trans (congrArg some (isE.out F93))
            clear ev93 em93 F93
            obtain ⟨v94, ev94, em94, F94⟩ := h.slot (i := 9) rfl rfl (hall 9 (by decide))
            have f94 := em94.trans (congrArg some (isE.out F94))
            clear ev94 em94 F94
            obtain ⟨v95, ev95, em95, F95⟩ := h.slot (i := 10) rfl rfl (hall 10 (by decide))
            have f95 := em95.trans (congrArg some (isE.out F95))
            clear ev95 em95 F95
            obtain ⟨v96, ev96, em96, F96⟩ := h.slot (i := 11) rfl rfl (hall 11 (by decide))
            have f96 := em96.trans (congrArg some (isE.out F96))
            clear ev96 em96 F96
            obtain ⟨v97, ev97, em97, F97⟩ := h.slot (i := 12) rfl rfl (hall 12 (by decide))
            have f97 := em97.trans (congrArg some (isE.out F97))
            clear ev97 em97 F97
            obtain ⟨v98, ev98, em98, F98⟩ := h.slot (i := 13) rfl rfl (hall 13 (by decide))
            have f98 := em98.trans (congrArg some (isE.out F98))
            clear ev98 em98 F98
            obtain ⟨v99, ev99, em99, F99⟩ := h.slot (i := 14) rfl rfl (hall 14 (by decide))
            have f99 := em99.trans (congrArg some (isE.out F99))
            clear ev99 em99 F99
            obtain ⟨v100, ev100, em100, F100⟩ := h.slot (i := 15) rfl rfl (hall 15 (by decide))
            have f100 := em100.trans (congrArg some (isE.out F100))
            clear ev100 em100 F100
            obtain ⟨v101, ev101, em101, F101⟩ := h.slot (i := 16) rfl rfl (hall 16 (by decide))
            have f101 := em101.trans (congrArg some (isE.out F101))
            clear ev101 em101 F101
            obtain ⟨v102, ev102, em102, F102⟩ := h.slot (i := 17) rfl rfl (hall 17 (by decide))
            obtain ⟨x102, q102, l102, s102⟩ := isF.out F102
            have f102 := em102.trans (congrArg some q102)
            clear ev102 em102 F102
            obtain ⟨v103, ev103, em103, F103⟩ := h.slot (i := 18) rfl rfl (hall 18 (by decide))
            obtain ⟨x103, y103, z103, q103, s103⟩ := isV.out F103
            have f103 := em103.trans (congrArg some q103)
            clear ev103 em103 F103
            obtain ⟨v104, ev104, em104, F104⟩ := h.slot (i := 19) rfl rfl (hall 19 (by decide))
            obtain ⟨x104, y104, z104, q104, s104⟩ := isV.out F104
            have f104 := em104.trans (congrArg some q104)
            clear ev104 em104 F104
            obtain ⟨v105, ev105, em105, F105⟩ := h.slot (i := 20) rfl rfl (hall 20 (by decide))
            have f105 := em105.trans (congrArg some (isE.out F105))
            clear ev105 em105 F105
            have ha := h.act [85, 86, 87, 88, 89, 90, 91, 92, 93, 94, 95, 96, 97, 98, 99, 100, 101, 102, 103, 104, 105] [_, _, _, _, _, _, _, _, _, _, _, _, _, _, _, _, _, _, _, _, _] (by kernel_rfl) ⟨f85, f86, f87, f88, f89, f90, f91, f92, f93, f94, f95, f96, f97, f98, f99, f100, f101, f102, f103, f104, f105, trivial⟩
            clear f85 f86 f87 f88 f89 f90 f91 f92 f93 f94 f95 f96 f97 f98 f99 f100 f101 f102 f103 f104 f105
            simp only [setAll, List.setIfInBounds_toArray, List.set_cons_zero, List.set_cons_succ] at ha
            subst ha
            clear h hall
            obtain ⟨W5, q0, q1, q2, hb5, hs5, hu5⟩ := hB
            obtain ⟨wx, rfl⟩ : ∃ z : World, z = u := ⟨u, rfl⟩
            have S6 := Lib.hid hs5
            have y6 := hb5.size
            have HXx := Lib.hid (show Bx wx g 32 (.slice (some ⟨b1, 0, none⟩) n c1) (.slice A2 n c2) (.slice A3 n c3) (.slice (some ⟨b4, 0, none⟩) m c4) by rw [hu5]; exact (HXy.out.go hb5).far3' hn1 _ _ _)
            have HOx := Lib.hid (show Own wx M (some ⟨b1, 0, none⟩) A2 A3 (some ⟨b4, 0, none⟩) c1 c2 c3 c4 n n n m (setP (setP D pa ⟨r0, r1, r2⟩) pb ⟨q0, q1, q2⟩) by rw [hu5]; exact (HOy.out.go hb5).setP rfl hb q0 q1 q2)
            have HBx := Lib.hid (show Wr (fun k => k = b1) w wx by rw [hu5]; exact (HBy.out.step hb5).trans (Wr.set3 _ _ _ _ _ _ _ _))
            have hA1 : SimD n n n m (setP D pa ⟨r0, r1, r2⟩) (strA D pa pb rl) := setP_sim (SimD.refl _ _ _ _ D) S5.out
            have hF : SimD n n n m (setP (setP D pa ⟨r0, r1, r2⟩) pb ⟨q0, q1, q2⟩) (straD D pa pb rl) := by
              unfold straD
              rw [hSB]
              exact setP_sim hA1 (S6.out.trans (vsub_sim (hA1.1 pb hb) (SimP.refl _)))
            have HF := Lib.hid hF
            clear hu5 hb5 hs5 hw0 HXy HOy HTy HVy HBy HR hA1 hF
            go_wp2_with fail
            refine bodyPost_end (results_none rfl _ _ _) rfl ?_
            exact ⟨rfl, HBx.out.mono (fun k _ e => by rw [e]), _, HF.out, HOx.out, HXx.out⟩
theorem spec_straighten (g M : Nat) (A1 A2 A3 A4 : Option Addr) (c1 c2 c3 c4 n m : Nat) (D : D4) (pa pb rl : Nat) (i : Nat) (hi : i < m) (hra : (D.R i).a = (pa : Int)) (hrb : (D.R i).b = (pb : Int)) (hrl : (D.R i).l = rl) (ha : pa < n) (hb : pb < n) (w : World) (hx : Bx w g 32 (.slice A1 n c1) (.slice A2 n c2) (.slice A3 n c3) (.slice A4 m c4)) (ho : Own w M A1 A2 A3 A4 c1 c2 c3 c4 n n n m D) (hM : M ≤ w.heap.size) (hn : n ≤ 24) :
    Calls Try.prog 141 #[.pointer (some ⟨g, 0, none⟩), .int .i64 (i : Int)] w (RetSt g M A1 A2 A3 A4 c1 c2 c3 c4 n n n m (straD D pa pb rl) w) := (spec_straightenW g M A1 A2 A3 A4 c1 c2 c3 c4 n m D pa pb rl i hi hra hrb hrl ha hb w hx ho hn).mono fun _ _ h => h.st (by omega) hM
end Go.Proofs.Ytlhgaihfghobmaa
