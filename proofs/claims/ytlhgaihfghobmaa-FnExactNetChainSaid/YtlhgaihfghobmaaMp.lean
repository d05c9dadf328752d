/- A place more: (*impl.Chain).add, spec.l03Put. -/
import Derived.Test.YtlhgaihfghobmaaMb
import Derived.Test.YtlhgaihfghobmaaRl
import Derived.Test.YtlhgaihfghobmaaDg
namespace Go.Proofs.Ytlhgaihfghobmaa
open Go.ChangeShapes Go.WideShapes Go.ChangeAt Go.RowKit Go.Deep

def putD (D : D4) (n1 n2 n3 : Nat) (p : V3) (x : Nat) : D4 := ⟨upd D.P n1 p, upd D.B n2 p, upd D.W n3 x, D.R⟩
/-- a place more in the chain of block g, whose slices lie from block M on. -/
def RetPut (g M : Nat) (A4 : Option Addr) (c4 n1 n2 n3 n4 : Nat) (E : D4) (w : World) (e : Ending) (w' : World) : Prop :=
  e = .returned (.tuple #[]) ∧ Below M w w' ∧ ∃ A1 A2 A3 c1 c2 c3, Bx w' g 32 (.slice A1 n1 c1) (.slice A2 n2 c2) (.slice A3 n3 c3) (.slice A4 n4 c4) ∧ Own w' M A1 A2 A3 A4 c1 c2 c3 c4 n1 n2 n3 n4 E
section
variable {w w' : World} {M : Nat} {A1 A2 A3 A4 A5 : Option Addr} {c1 c2 c3 c4 c5 n1 n2 n3 n4 : Nat} {D : D4}
theorem Own.app1 {p : V3} (h : Own w M A1 A2 A3 A4 c1 c2 c3 c4 n1 n2 n3 n4 D) (hw : Wr (fun k => 0 < n1 ∧ A1 = some ⟨k, 0, none⟩) w w')
    (hs : Sl w' M 38 3 A5 (n1 + 1) c5 (vc (upd D.P n1 p))) (hl : ∀ k, A5 = some ⟨k, 0, none⟩ → (0 < n1 ∧ A1 = some ⟨k, 0, none⟩) ∨ w.heap.size ≤ k) : Own w' M A5 A2 A3 A4 c5 c2 c3 c4 (n1 + 1) n2 n3 n4 ⟨upd D.P n1 p, D.B, D.W, D.R⟩ :=
  ⟨hs, h.s2.wr hw (fun g e h0 x => h.ne g x.2 e x.1 h0), h.s3.wr hw (fun g e h0 x => h.s1.ne_ h.s3 (by decide) x.2 e x.1 h0), h.s4.wr hw (fun g e h0 x => h.s1.ne_ h.s4 (by decide) x.2 e x.1 h0),
    fun g e1 e2 _ m2 => (hl g e1).elim (fun x => h.ne g x.2 e2 x.1 m2) (fun x => by have := (h.s2.bd g e2 m2).2; omega)⟩
theorem Own.app2 {p : V3} (h : Own w M A1 A2 A3 A4 c1 c2 c3 c4 n1 n2 n3 n4 D) (hw : Wr (fun k => 0 < n2 ∧ A2 = some ⟨k, 0, none⟩) w w')
    (hs : Sl w' M 38 3 A5 (n2 + 1) c5 (vc (upd D.B n2 p))) (hl : ∀ k, A5 = some ⟨k, 0, none⟩ → (0 < n2 ∧ A2 = some ⟨k, 0, none⟩) ∨ w.heap.size ≤ k) : Own w' M A1 A5 A3 A4 c1 c5 c3 c4 n1 (n2 + 1) n3 n4 ⟨D.P, upd D.B n2 p, D.W, D.R⟩ :=
  ⟨h.s1.wr hw (fun g e h0 x => h.ne g e x.2 h0 x.1), hs, h.s3.wr hw (fun g e h0 x => h.s2.ne_ h.s3 (by decide) x.2 e x.1 h0), h.s4.wr hw (fun g e h0 x => h.s2.ne_ h.s4 (by decide) x.2 e x.1 h0),
    fun g e1 e2 m1 _ => (hl g e2).elim (fun x => h.ne g e1 x.2 m1 x.1) (fun x => by have := (h.s1.bd g e1 m1).2; omega)⟩
theorem Own.app3 {p : Nat} (h : Own w M A1 A2 A3 A4 c1 c2 c3 c4 n1 n2 n3 n4 D) (hw : Wr (fun k => 0 < n3 ∧ A3 = some ⟨k, 0, none⟩) w w')
    (hs : Sl w' M 36 1 A5 (n3 + 1) c5 (fc (upd D.W n3 p))) : Own w' M A1 A2 A5 A4 c1 c2 c5 c4 n1 n2 (n3 + 1) n4 ⟨D.P, D.B, upd D.W n3 p, D.R⟩ :=
  ⟨h.s1.wr hw (fun g e h0 x => h.s1.ne_ h.s3 (by decide) e x.2 h0 x.1), h.s2.wr hw (fun g e h0 x => h.s2.ne_ h.s3 (by decide) e x.2 h0 x.1), hs, h.s4.wr hw (fun g e h0 x => h.s4.ne_ h.s3 (by decide) e x.2 h0 x.1),
    h.ne⟩
end
set_option maxHeartbeats 8000000 in
set_option maxRecDepth 100000 in
theorem impl_add (g M : Nat) (A1 A2 A3 A4 : Option Addr) (c1 c2 c3 c4 n1 n2 n3 n4 : Nat) (D : D4) (p : V3) (x : Nat) (w : World) (hx : Bx w g 32 (.slice A1 n1 c1) (.slice A2 n2 c2) (.slice A3 n3 c3) (.slice A4 n4 c4)) (ho : Own w M A1 A2 A3 A4 c1 c2 c3 c4 n1 n2 n3 n4 D) (hz : Zc c1 c2 c3 c4 n1 n2 n3 n4) (hg : M ≤ g) (hM : M ≤ w.heap.size) (k1 : n1 ≤ 1048576) (k2 : n2 ≤ 1048576) (k3 : n3 ≤ 1048576) :
    Calls Try.prog 108 #[.pointer (some ⟨g, 0, none⟩), .agg #[.float .f32 p.x, .float .f32 p.y, .float .f32 p.z], .float .f32 x] w (RetPut g M A4 c4 (n1 + 1) (n2 + 1) (n3 + 1) n4 (putD D n1 n2 n3 p x) w) := by
  have HZ := Lib.hid hz
  clear hz
  obtain ⟨wq, hwq⟩ : ∃ wq : World, wq = w.alloc (.cells #[.float .f32 p.x, .float .f32 p.y, .float .f32 p.z] 38) := ⟨_, rfl⟩
  have hBq : Below w.heap.size w wq := by rw [hwq]; exact Below.alloc (Below.refl _ _) (Nat.le_refl _) _
  have hzq : wq.heap.size = w.heap.size + 1 := by rw [hwq]; simp
  have HX := Lib.hid (hx.go hBq)
  have HO := Lib.hid (ho.go hBq)
  have HT := Lib.hid (show Tx wq w.heap.size 38 (.float .f32 p.x) (.float .f32 p.y) (.float .f32 p.z) by rw [hwq]; exact Tx.new_ _ _ _ _ _)
  have HBQ := Lib.hid hBq
  have HG := Lib.hid (show ¬ (fun k => (0 < n1 ∧ A1 = some ⟨k, 0, none⟩) ∨ (0 < n2 ∧ A2 = some ⟨k, 0, none⟩) ∨ (0 < n3 ∧ A3 = some ⟨k, 0, none⟩)) g from fun y => by
    rcases y with y | y | y
    · exact HO.out.s1.chain HX.out (by decide) y
    · exact HO.out.s2.chain HX.out (by decide) y
    · exact HO.out.s3.chain HX.out (by decide) y)
  have HB := Lib.hid (show ¬ (fun k => (0 < n1 ∧ A1 = some ⟨k, 0, none⟩) ∨ (0 < n2 ∧ A2 = some ⟨k, 0, none⟩) ∨ (0 < n3 ∧ A3 = some ⟨k, 0, none⟩)) w.heap.size from fun y => by
    rcases y with y | y | y
    · have := (ho.s1.bd _ y.2 y.1).2
      omega
    · have := (ho.s2.bd _ y.2 y.1).2
      omega
    · have := (ho.s3.bd _ y.2 y.1).2
      omega)
  have hw0 : Below wq.heap.size wq wq.drew := (Below.refl _ _).drew
  have hc0 : Wr (fun k => (0 < n1 ∧ A1 = some ⟨k, 0, none⟩) ∨ (0 < n2 ∧ A2 = some ⟨k, 0, none⟩) ∨ (0 < n3 ∧ A3 = some ⟨k, 0, none⟩)) wq wq.drew := (Wr.refl _ _).drewN 1
  clear hx ho hBq
  go_enter Try.func108, Try.ntmps108
  go_upto_region 1 with fail
  rw [← hwq]
  clear hwq
  refine region_inv3 [fun v _ => isE (.pointer (some ⟨g, 0, none⟩)) v, fun v _ => isE (.pointer (some ⟨g, 0, none⟩)) v, fun v _ => isE (.pointer (some ⟨g, 0, none⟩)) v, fun v _ => isE (.pointer (some ⟨g, 0, none⟩)) v, fun v _ => isE (.pointer (some ⟨g, 0, none⟩)) v, fun v _ => isE (.pointer (some ⟨g, 0, none⟩)) v, fun v _ => isE (.slice A1 n1 c1) v, fun v _ => isE (.agg #[.float .f32 p.x, .float .f32 p.y, .float .f32 p.z]) v, isN3 wq.heap.size 38 (.float .f32 p.x) (.float .f32 p.y) (.float .f32 p.z), isLoc wq.heap.size M A1 n1 38 3 (n1 + 1) (vc (upd D.P n1 p)), fun v _ => isE (.pointer (some ⟨g, 0, none⟩)) v, fun v _ => isE (.pointer (some ⟨g, 0, none⟩)) v, fun v _ => isE (.pointer (some ⟨g, 1, none⟩)) v, fun v _ => isE (.slice A2 n2 c2) v, fun v _ => isE (.agg #[.float .f32 p.x, .float .f32 p.y, .float .f32 p.z]) v, isN3 wq.heap.size 38 (.float .f32 p.x) (.float .f32 p.y) (.float .f32 p.z), isLoc wq.heap.size M A2 n2 38 3 (n2 + 1) (vc (upd D.B n2 p)), fun v _ => isE (.pointer (some ⟨g, 0, none⟩)) v, fun v _ => isE (.pointer (some ⟨g, 0, none⟩)) v, fun v _ => isE (.pointer (some ⟨g, 2, none⟩)) v, fun v _ => isE (.slice A3 n3 c3) v, fun v _ => isE (.float .f32 x) v, isN1 wq.heap.size 36 (.float .f32 x), isLoc wq.heap.size M A3 n3 36 1 (n3 + 1) (fc (upd D.W n3 x)), fun v _ => isE (.pointer (some ⟨g, 0, none⟩)) v, fun v _ => isE (.pointer (some ⟨g, 0, none⟩)) v, fun _ _ => True, fun v _ => isE (.pointer (some ⟨g, 0, none⟩)) v, fun v _ => isE (.pointer (some ⟨g, 1, none⟩)) v, fun _ _ => True, fun v _ => isE (.pointer (some ⟨g, 0, none⟩)) v, fun v _ => isE (.pointer (some ⟨g, 2, none⟩)) v, fun _ _ => True] (fun l a W => Jt 26 (fun W => Wr (fun k => (0 < n1 ∧ A1 = some ⟨k, 0, none⟩) ∨ (0 < n2 ∧ A2 = some ⟨k, 0, none⟩) ∨ (0 < n3 ∧ A3 = some ⟨k, 0, none⟩)) wq W) (fun _ => True) l W ∧ Js [(9, fun W => Wr (fun k => 0 < n1 ∧ A1 = some ⟨k, 0, none⟩) wq W), (16, fun W => Wr (fun k => (0 < n1 ∧ A1 = some ⟨k, 0, none⟩) ∨ (0 < n2 ∧ A2 = some ⟨k, 0, none⟩)) wq W), (23, fun W => Wr (fun k => (0 < n1 ∧ A1 = some ⟨k, 0, none⟩) ∨ (0 < n2 ∧ A2 = some ⟨k, 0, none⟩) ∨ (0 < n3 ∧ A3 = some ⟨k, 0, none⟩)) wq W), (26, fun W => ∃ x0 x1 x2, Bx W g 32 x0 x1 x2 (.slice A4 n4 c4) ∧ Wr (fun k => (0 < n1 ∧ A1 = some ⟨k, 0, none⟩) ∨ (0 < n2 ∧ A2 = some ⟨k, 0, none⟩) ∨ (0 < n3 ∧ A3 = some ⟨k, 0, none⟩) ∨ k = g) wq W), (29, fun W => ∃ x0 x1 x2, Bx W g 32 x0 x1 x2 (.slice A4 n4 c4) ∧ Wr (fun k => (0 < n1 ∧ A1 = some ⟨k, 0, none⟩) ∨ (0 < n2 ∧ A2 = some ⟨k, 0, none⟩) ∨ (0 < n3 ∧ A3 = some ⟨k, 0, none⟩) ∨ k = g) wq W), (32, fun W => ∃ x0 x1 x2, Bx W g 32 x0 x1 x2 (.slice A4 n4 c4) ∧ Wr (fun k => (0 < n1 ∧ A1 = some ⟨k, 0, none⟩) ∨ (0 < n2 ∧ A2 = some ⟨k, 0, none⟩) ∨ (0 < n3 ∧ A3 = some ⟨k, 0, none⟩) ∨ k = g) wq W)] (fun W => Below wq.heap.size wq W) l W ∧ (l.getD 16 false = true → Dif 15 22 (n1 + 1) (n2 + 1) a) ∧ Lk 26 15 ⟨g, 0, none⟩ l a W ∧ Lk 29 22 ⟨g, 1, none⟩ l a W ∧ Lk 32 29 ⟨g, 2, none⟩ l a W) (by kernel_rfl) (by kernel_rfl) (by kernel_rfl) ⟨Jt.first hc0, Js.first hw0, (fun hl => absurd hl (by rw [getD_rep]; exact Bool.false_ne_true)), Lk.first, Lk.first, Lk.first⟩ ⟨?r0, ?r1, ?r2, ?r3, ?r4, ?r5, ?r6, ?r7, ?r8, ?r9, ?r10, ?r11, ?r12, ?r13, ?r14, ?r15, ?r16, ?r17, ?r18, ?r19, ?r20, ?r21, ?r22, ?r23, ?r24, ?r25, ?r26, ?r27, ?r28, ?r29, ?r30, ?r31, ?r32, trivial⟩ ?hend
  case r0 =>
    intro listed a u h hu hd K hK
    have e0 : a.tmps.getD 0 undef = .pointer (some ⟨g, 0, none⟩) := h.base (by kernel_rfl)
    have f0 : a.tmps[0]? = some (.pointer (some ⟨g, 0, none⟩)) := h.old (by kernel_rfl)
    rw [if_pos (by rfl)]
    go_simp
    exact hK _ _ (fun _ _ _ h => h) (isE.mk rfl) ⟨(Jt.neutral h.world.1 (by decide)), (Js.neutral h.world.2.1 rfl), (fun hl => Dif.put (by decide) (by decide) (h.world.2.2.1 (by rw [getD_set_ne false (by decide)] at hl; exact hl))), (Lk.neutral h.world.2.2.2.1 (by decide) (by decide) _), (Lk.neutral h.world.2.2.2.2.1 (by decide) (by decide) _), (Lk.neutral h.world.2.2.2.2.2 (by decide) (by decide) _)⟩
  case r1 =>
    intro listed a u h hu hd K hK
    have e0 : a.tmps.getD 0 undef = .pointer (some ⟨g, 0, none⟩) := h.base (by kernel_rfl)
    have f0 : a.tmps[0]? = some (.pointer (some ⟨g, 0, none⟩)) := h.old (by kernel_rfl)
    rw [if_pos (by rfl)]
    go_simp
    exact hK _ _ (fun _ _ _ h => h) (isE.mk rfl) ⟨(Jt.neutral h.world.1 (by decide)), (Js.neutral h.world.2.1 rfl), (fun hl => Dif.put (by decide) (by decide) (h.world.2.2.1 (by rw [getD_set_ne false (by decide)] at hl; exact hl))), (Lk.neutral h.world.2.2.2.1 (by decide) (by decide) _), (Lk.neutral h.world.2.2.2.2.1 (by decide) (by decide) _), (Lk.neutral h.world.2.2.2.2.2 (by decide) (by decide) _)⟩
  case r2 =>
    intro listed a u h hu hd K hK
    have e0 : a.tmps.getD 0 undef = .pointer (some ⟨g, 0, none⟩) := h.base (by kernel_rfl)
    have f0 : a.tmps[0]? = some (.pointer (some ⟨g, 0, none⟩)) := h.old (by kernel_rfl)
    rw [if_pos (by rfl)]
    go_simp
    exact hK _ _ (fun _ _ _ h => h) (isE.mk rfl) ⟨(Jt.neutral h.world.1 (by decide)), (Js.neutral h.world.2.1 rfl), (fun hl => Dif.put (by decide) (by decide) (h.world.2.2.1 (by rw [getD_set_ne false (by decide)] at hl; exact hl))), (Lk.neutral h.world.2.2.2.1 (by decide) (by decide) _), (Lk.neutral h.world.2.2.2.2.1 (by decide) (by decide) _), (Lk.neutral h.world.2.2.2.2.2 (by decide) (by decide) _)⟩
  case r3 =>
    intro listed a u h hu hd K hK
    have e0 : a.tmps.getD 0 undef = .pointer (some ⟨g, 0, none⟩) := h.base (by kernel_rfl)
    have f0 : a.tmps[0]? = some (.pointer (some ⟨g, 0, none⟩)) := h.old (by kernel_rfl)
    rw [if_pos (by rfl)]
    go_simp
    exact hK _ _ (fun _ _ _ h => h) (isE.mk rfl) ⟨(Jt.neutral h.world.1 (by decide)), (Js.neutral h.world.2.1 rfl), (fun hl => Dif.put (by decide) (by decide) (h.world.2.2.1 (by rw [getD_set_ne false (by decide)] at hl; exact hl))), (Lk.neutral h.world.2.2.2.1 (by decide) (by decide) _), (Lk.neutral h.world.2.2.2.2.1 (by decide) (by decide) _), (Lk.neutral h.world.2.2.2.2.2 (by decide) (by decide) _)⟩
  case r4 =>
    intro listed a u h hu hd K hK
    obtain ⟨v9, ev9, em9, F9⟩ := h.slot (i := 3) rfl rfl (hd _ (Array.mem_of_getElem? (i := 0) rfl) rfl)
    have q9 := isE.out F9
    have e9 := ev9.trans q9
    have f9 := em9.trans (congrArg some q9)
    clear ev9 em9 F9
    rw [if_pos (by rfl)]
    go_simp
    exact hK _ _ (fun _ _ _ h => h) (isE.mk rfl) ⟨(Jt.neutral h.world.1 (by decide)), (Js.neutral h.world.2.1 rfl), (fun hl => Dif.put (by decide) (by decide) (h.world.2.2.1 (by rw [getD_set_ne false (by decide)] at hl; exact hl))), (Lk.neutral h.world.2.2.2.1 (by decide) (by decide) _), (Lk.neutral h.world.2.2.2.2.1 (by decide) (by decide) _), (Lk.neutral h.world.2.2.2.2.2 (by decide) (by decide) _)⟩
  case r5 =>
    intro listed a u h hu hd K hK
    obtain ⟨v10, ev10, em10, F10⟩ := h.slot (i := 4) rfl rfl (hd _ (Array.mem_of_getElem? (i := 0) rfl) rfl)
    have q10 := isE.out F10
    have e10 := ev10.trans q10
    have f10 := em10.trans (congrArg some q10)
    clear ev10 em10 F10
    rw [if_pos (by rfl)]
    go_simp
    exact hK _ _ (fun _ _ _ h => h) (isE.mk rfl) ⟨(Jt.neutral h.world.1 (by decide)), (Js.neutral h.world.2.1 rfl), (fun hl => Dif.put (by decide) (by decide) (h.world.2.2.1 (by rw [getD_set_ne false (by decide)] at hl; exact hl))), (Lk.neutral h.world.2.2.2.1 (by decide) (by decide) _), (Lk.neutral h.world.2.2.2.2.1 (by decide) (by decide) _), (Lk.neutral h.world.2.2.2.2.2 (by decide) (by decide) _)⟩
  case r6 =>
    intro listed a u h hu hd K hK
    have hw := (RI3.wait' h (getD_un hu) (T := 9) rfl (Array.mem_of_getElem? (i := 0) rfl) rfl rfl)
    have hA := Js.now h.world.2.1 hw
    have hwc := (RI3.wait' h (getD_un hu) (T := 26) rfl (Array.mem_of_getElem? (i := 9) rfl) rfl rfl)
    have hC := h.world.1.1 hwc
    obtain ⟨v11, ev11, em11, F11⟩ := h.slot (i := 5) rfl rfl (hd _ (Array.mem_of_getElem? (i := 0) rfl) rfl)
    have q11 := isE.out F11
    have e11 := ev11.trans q11
    have f11 := em11.trans (congrArg some q11)
    clear ev11 em11 F11
    rw [if_pos (by rfl)]
    obtain ⟨g0, g1, g2, g3, gf⟩ := (HX.out.wr hC HG.out).facts
    obtain ⟨t0_, t1_, t2_, tf_⟩ := (HT.out.wr hC HB.out).facts
    go_simp
    exact hK _ _ (fun _ _ _ h => h) (isE.mk rfl) ⟨(Jt.neutral h.world.1 (by decide)), (Js.stay hw (by decide) (hA)), (fun hl => Dif.put (by decide) (by decide) (h.world.2.2.1 (by rw [getD_set_ne false (by decide)] at hl; exact hl))), (Lk.neutral h.world.2.2.2.1 (by decide) (by decide) _), (Lk.neutral h.world.2.2.2.2.1 (by decide) (by decide) _), (Lk.neutral h.world.2.2.2.2.2 (by decide) (by decide) _)⟩
  case r7 =>
    intro listed a u h hu hd K hK
    have hw := (RI3.wait' h (RI3.wait' h (getD_un hu) (T := 8) rfl (Array.mem_of_getElem? (i := 0) rfl) rfl rfl) (T := 9) rfl (Array.mem_of_getElem? (i := 1) rfl) rfl rfl)
    have hA := Js.now h.world.2.1 hw
    have hwc := (RI3.wait' h (getD_un hu) (T := 26) rfl (Array.mem_of_getElem? (i := 10) rfl) rfl rfl)
    have hC := h.world.1.1 hwc
    have e4 : a.tmps.getD 4 undef = .pointer (some ⟨w.heap.size, 0, none⟩) := h.base (by kernel_rfl)
    have f4 : a.tmps[4]? = some (.pointer (some ⟨w.heap.size, 0, none⟩)) := h.old (by kernel_rfl)
    rw [if_pos (by rfl)]
    obtain ⟨g0, g1, g2, g3, gf⟩ := (HX.out.wr hC HG.out).facts
    obtain ⟨t0_, t1_, t2_, tf_⟩ := (HT.out.wr hC HB.out).facts
    go_simp
    exact hK _ _ (fun _ _ _ h => h) (isE.mk rfl) ⟨(Jt.neutral h.world.1 (by decide)), (Js.stay hw (by decide) (hA)), (fun hl => Dif.put (by decide) (by decide) (h.world.2.2.1 (by rw [getD_set_ne false (by decide)] at hl; exact hl))), (Lk.neutral h.world.2.2.2.1 (by decide) (by decide) _), (Lk.neutral h.world.2.2.2.2.1 (by decide) (by decide) _), (Lk.neutral h.world.2.2.2.2.2 (by decide) (by decide) _)⟩
  case r8 =>
    intro listed a u h hu hd K hK
    have hw := (RI3.wait' h (getD_un hu) (T := 9) rfl (Array.mem_of_getElem? (i := 1) rfl) rfl rfl)
    have hA := Js.now h.world.2.1 hw
    have hwc := (RI3.wait' h (getD_un hu) (T := 26) rfl (Array.mem_of_getElem? (i := 11) rfl) rfl rfl)
    have hC := h.world.1.1 hwc
    obtain ⟨v13, ev13, em13, F13⟩ := h.slot (i := 7) rfl rfl (hd _ (Array.mem_of_getElem? (i := 0) rfl) rfl)
    have q13 := isE.out F13
    have e13 := ev13.trans q13
    have f13 := em13.trans (congrArg some q13)
    clear ev13 em13 F13
    rw [if_pos (by rfl)]
    go_simp
    have hR : Wr (fun _ => False) u (u.alloc (.cells #[.float .f32 p.x, .float .f32 p.y, .float .f32 p.z] 38)) := (Wr.refl _ _).alloc _
    exact hK _ _ (fun j v hn hF => AllStX.fact0 (R := fun W W2 => Wr (fun _ => False) W W2) (i := 8) (by exact ⟨fun _ _ _ _ _ h => h, fun _ _ _ _ _ h => h, fun _ _ _ _ _ h => h, fun _ _ _ _ _ h => h, fun _ _ _ _ _ h => h, fun _ _ _ _ _ h => h, fun _ _ _ _ _ h => h, fun _ _ _ _ _ h => h, fun hn => absurd rfl hn, fun _ _ _ _ hW h => isLoc.wr h hW (fun _ h => h.elim) (fun _ _ _ h => h), fun _ _ _ _ _ h => h, fun _ _ _ _ _ h => h, fun _ _ _ _ _ h => h, fun _ _ _ _ _ h => h, fun _ _ _ _ _ h => h, fun _ _ _ _ hW h => isN3.wr h hW (fun _ h => h.elim), fun _ _ _ _ hW h => isLoc.wr h hW (fun _ h => h.elim) (fun _ _ _ h => h), fun _ _ _ _ _ h => h, fun _ _ _ _ _ h => h, fun _ _ _ _ _ h => h, fun _ _ _ _ _ h => h, fun _ _ _ _ _ h => h, fun _ _ _ _ hW h => isN1.wr h hW (fun _ h => h.elim), fun _ _ _ _ hW h => isLoc.wr h hW (fun _ h => h.elim) (fun _ _ _ h => h), fun _ _ _ _ _ h => h, fun _ _ _ _ _ h => h, fun _ _ _ _ _ h => h, fun _ _ _ _ _ h => h, fun _ _ _ _ _ h => h, fun _ _ _ _ _ h => h, fun _ _ _ _ _ h => h, fun _ _ _ _ _ h => h, fun _ _ _ _ _ h => h, trivial⟩) hR j v hn hF) ⟨_, rfl, hC.size, Tx.new_ _ _ _ _ _⟩ ⟨(Jt.next hwc (by decide) (hC.alloc _)), (Js.stay hw (by decide) (Below.alloc hA hA.size _)), (fun hl => Dif.put (by decide) (by decide) (h.world.2.2.1 (by rw [getD_set_ne false (by decide)] at hl; exact hl))), (Lk.no (RI3.wait' h (getD_un hu) (T := 26) rfl (Array.mem_of_getElem? (i := 11) rfl) rfl rfl) (by decide)), (Lk.no (RI3.wait' h (getD_un hu) (T := 29) rfl (Array.mem_of_getElem? (i := 11) rfl) rfl rfl) (by decide)), (Lk.no (RI3.wait' h (getD_un hu) (T := 32) rfl (Array.mem_of_getElem? (i := 11) rfl) rfl rfl) (by decide))⟩
  case r9 =>
    intro listed a u h hu hd K hK
    have hw := getD_un hu
    have hA := Js.now h.world.2.1 hw
    have hwc := (RI3.wait' h (getD_un hu) (T := 26) rfl (Array.mem_of_getElem? (i := 1) rfl) rfl rfl)
    have hC := h.world.1.1 hwc
    obtain ⟨v12, ev12, em12, F12⟩ := h.slot (i := 6) rfl rfl (hd _ (Array.mem_of_getElem? (i := 0) rfl) rfl)
    have q12 := isE.out F12
    have e12 := ev12.trans q12
    have f12 := em12.trans (congrArg some q12)
    clear ev12 em12 F12
    obtain ⟨v14, ev14, em14, F14⟩ := h.slot (i := 8) rfl rfl (hd _ (Array.mem_of_getElem? (i := 1) rfl) rfl)
    obtain ⟨k14, q14, hk14, hT14⟩ : isN3 wq.heap.size 38 (.float .f32 p.x) (.float .f32 p.y) (.float .f32 p.z) v14 u := F14
    have e14 := ev14.trans q14
    have f14 := em14.trans (congrArg some q14)
    clear ev14 em14
    rw [if_pos (by rfl)]
    have hw2 := (RI3.wait' h (getD_un hu) (T := 16) rfl (Array.mem_of_getElem? (i := 2) rfl) rfl rfl)
    obtain ⟨i0, hi, hz0, hz1, hz2⟩ := info_parts infoV
    refine wp_app (.tmp 12) (.tmp 14) 29 rfl 38 i0 _ 3 12 Try.underlying29 hi hz0 hz1 hz2 rfl (by decide) A1 n1 c1 M (vc D.P) e12 (HO.out.s1.go hA) HZ.out.1 (Nat.le_trans (by omega) hA.size) ⟨k14, 0, none⟩ 1 1 (vc (fun _ => p)) e14 (new3_vc _ _ 38 p hT14) (vc_one _) (by decide) (by simp only [maxLen]; omega) (by omega) ?_
    intro A6 c6 u2 hs2 hR hl2
    exact hK _ _ (fun j v hn hF => AllStX.fact0 (R := fun W W2 => Wr (fun k => 0 < n1 ∧ A1 = some ⟨k, 0, none⟩) W W2) (i := 9) (by exact ⟨fun _ _ _ _ _ h => h, fun _ _ _ _ _ h => h, fun _ _ _ _ _ h => h, fun _ _ _ _ _ h => h, fun _ _ _ _ _ h => h, fun _ _ _ _ _ h => h, fun _ _ _ _ _ h => h, fun _ _ _ _ _ h => h, fun _ _ _ _ hW h => isN3.wr h hW (fun k y => (HO.out.s1.bd k y.2 y.1).2), fun hn => absurd rfl hn, fun _ _ _ _ _ h => h, fun _ _ _ _ _ h => h, fun _ _ _ _ _ h => h, fun _ _ _ _ _ h => h, fun _ _ _ _ _ h => h, fun _ _ _ _ hW h => isN3.wr h hW (fun k y => (HO.out.s1.bd k y.2 y.1).2), fun _ _ _ _ hW h => isLoc.wr h hW (fun k y => (HO.out.s1.bd k y.2 y.1).2) (fun k h0 e y => HO.out.ne k y.2 e y.1 h0), fun _ _ _ _ _ h => h, fun _ _ _ _ _ h => h, fun _ _ _ _ _ h => h, fun _ _ _ _ _ h => h, fun _ _ _ _ _ h => h, fun _ _ _ _ hW h => isN1.wr h hW (fun k y => (HO.out.s1.bd k y.2 y.1).2), fun _ _ _ _ hW h => isLoc.wr h hW (fun k y => (HO.out.s1.bd k y.2 y.1).2) (fun k h0 e y => HO.out.s3.ne_ HO.out.s1 (by decide) e y.2 h0 y.1), fun _ _ _ _ _ h => h, fun _ _ _ _ _ h => h, fun _ _ _ _ _ h => h, fun _ _ _ _ _ h => h, fun _ _ _ _ _ h => h, fun _ _ _ _ _ h => h, fun _ _ _ _ _ h => h, fun _ _ _ _ _ h => h, fun _ _ _ _ _ h => h, trivial⟩) hR j v hn hF) ⟨A6, c6, rfl, hs2.congr (app_vc D.P n1 p), fun k hk => (hl2 k hk).imp id (fun h => Nat.le_trans hA.size h)⟩ ⟨(Jt.next hwc (by decide) (hC.trans (hR.mono (fun _ _ y => .inl y)))), (Js.hit (un_lt hu) (Js.stay hw2 (by decide) ((Wr.of_go hA _).trans hR))), (fun hl => absurd hl (by rw [getD_set_ne false (by decide), (RI3.wait' h (getD_un hu) (T := 16) rfl (Array.mem_of_getElem? (i := 2) rfl) rfl rfl)]; exact Bool.false_ne_true)), (Lk.no (RI3.wait' h (getD_un hu) (T := 26) rfl (Array.mem_of_getElem? (i := 1) rfl) rfl rfl) (by decide)), (Lk.no (RI3.wait' h (getD_un hu) (T := 29) rfl (Array.mem_of_getElem? (i := 12) rfl) rfl rfl) (by decide)), (Lk.no (RI3.wait' h (getD_un hu) (T := 32) rfl (Array.mem_of_getElem? (i := 12) rfl) rfl rfl) (by decide))⟩
  case r10 =>
    intro listed a u h hu hd K hK
    have e0 : a.tmps.getD 0 undef = .pointer (some ⟨g, 0, none⟩) := h.base (by kernel_rfl)
    have f0 : a.tmps[0]? = some (.pointer (some ⟨g, 0, none⟩)) := h.old (by kernel_rfl)
    rw [if_pos (by rfl)]
    go_simp
    exact hK _ _ (fun _ _ _ h => h) (isE.mk rfl) ⟨(Jt.neutral h.world.1 (by decide)), (Js.neutral h.world.2.1 rfl), (fun hl => Dif.put (by decide) (by decide) (h.world.2.2.1 (by rw [getD_set_ne false (by decide)] at hl; exact hl))), (Lk.neutral h.world.2.2.2.1 (by decide) (by decide) _), (Lk.neutral h.world.2.2.2.2.1 (by decide) (by decide) _), (Lk.neutral h.world.2.2.2.2.2 (by decide) (by decide) _)⟩
  case r11 =>
    intro listed a u h hu hd K hK
    obtain ⟨v16, ev16, em16, F16⟩ := h.slot (i := 10) rfl rfl (hd _ (Array.mem_of_getElem? (i := 0) rfl) rfl)
    have q16 := isE.out F16
    have e16 := ev16.trans q16
    have f16 := em16.trans (congrArg some q16)
    clear ev16 em16 F16
    rw [if_pos (by rfl)]
    go_simp
    exact hK _ _ (fun _ _ _ h => h) (isE.mk rfl) ⟨(Jt.neutral h.world.1 (by decide)), (Js.neutral h.world.2.1 rfl), (fun hl => Dif.put (by decide) (by decide) (h.world.2.2.1 (by rw [getD_set_ne false (by decide)] at hl; exact hl))), (Lk.neutral h.world.2.2.2.1 (by decide) (by decide) _), (Lk.neutral h.world.2.2.2.2.1 (by decide) (by decide) _), (Lk.neutral h.world.2.2.2.2.2 (by decide) (by decide) _)⟩
  case r12 =>
    intro listed a u h hu hd K hK
    obtain ⟨v17, ev17, em17, F17⟩ := h.slot (i := 11) rfl rfl (hd _ (Array.mem_of_getElem? (i := 0) rfl) rfl)
    have q17 := isE.out F17
    have e17 := ev17.trans q17
    have f17 := em17.trans (congrArg some q17)
    clear ev17 em17 F17
    rw [if_pos (by rfl)]
    go_simp
    exact hK _ _ (fun _ _ _ h => h) (isE.mk rfl) ⟨(Jt.neutral h.world.1 (by decide)), (Js.neutral h.world.2.1 rfl), (fun hl => Dif.put (by decide) (by decide) (h.world.2.2.1 (by rw [getD_set_ne false (by decide)] at hl; exact hl))), (Lk.neutral h.world.2.2.2.1 (by decide) (by decide) _), (Lk.neutral h.world.2.2.2.2.1 (by decide) (by decide) _), (Lk.neutral h.world.2.2.2.2.2 (by decide) (by decide) _)⟩
  case r13 =>
    intro listed a u h hu hd K hK
    have hwc := (RI3.wait' h (getD_un hu) (T := 26) rfl (Array.mem_of_getElem? (i := 16) rfl) rfl rfl)
    have hC := h.world.1.1 hwc
    obtain ⟨v18, ev18, em18, F18⟩ := h.slot (i := 12) rfl rfl (hd _ (Array.mem_of_getElem? (i := 0) rfl) rfl)
    have q18 := isE.out F18
    have e18 := ev18.trans q18
    have f18 := em18.trans (congrArg some q18)
    clear ev18 em18 F18
    rw [if_pos (by rfl)]
    obtain ⟨g0, g1, g2, g3, gf⟩ := (HX.out.wr hC HG.out).facts
    obtain ⟨t0_, t1_, t2_, tf_⟩ := (HT.out.wr hC HB.out).facts
    go_simp
    exact hK _ _ (fun _ _ _ h => h) (isE.mk rfl) ⟨(Jt.neutral h.world.1 (by decide)), (Js.neutral h.world.2.1 rfl), (fun hl => Dif.put (by decide) (by decide) (h.world.2.2.1 (by rw [getD_set_ne false (by decide)] at hl; exact hl))), (Lk.neutral h.world.2.2.2.1 (by decide) (by decide) _), (Lk.neutral h.world.2.2.2.2.1 (by decide) (by decide) _), (Lk.neutral h.world.2.2.2.2.2 (by decide) (by decide) _)⟩
  case r14 =>
    intro listed a u h hu hd K hK
    have hwc := (RI3.wait' h (RI3.wait' h (RI3.wait' h (getD_un hu) (T := 15) rfl (Array.mem_of_getElem? (i := 0) rfl) rfl rfl) (T := 16) rfl (Array.mem_of_getElem? (i := 1) rfl) rfl rfl) (T := 26) rfl (Array.mem_of_getElem? (i := 19) rfl) rfl rfl)
    have hC := h.world.1.1 hwc
    have e4 : a.tmps.getD 4 undef = .pointer (some ⟨w.heap.size, 0, none⟩) := h.base (by kernel_rfl)
    have f4 : a.tmps[4]? = some (.pointer (some ⟨w.heap.size, 0, none⟩)) := h.old (by kernel_rfl)
    rw [if_pos (by rfl)]
    obtain ⟨g0, g1, g2, g3, gf⟩ := (HX.out.wr hC HG.out).facts
    obtain ⟨t0_, t1_, t2_, tf_⟩ := (HT.out.wr hC HB.out).facts
    go_simp
    exact hK _ _ (fun _ _ _ h => h) (isE.mk rfl) ⟨(Jt.neutral h.world.1 (by decide)), (Js.neutral h.world.2.1 rfl), (fun hl => Dif.put (by decide) (by decide) (h.world.2.2.1 (by rw [getD_set_ne false (by decide)] at hl; exact hl))), (Lk.neutral h.world.2.2.2.1 (by decide) (by decide) _), (Lk.neutral h.world.2.2.2.2.1 (by decide) (by decide) _), (Lk.neutral h.world.2.2.2.2.2 (by decide) (by decide) _)⟩
  case r15 =>
    intro listed a u h hu hd K hK
    have hwc := (RI3.wait' h (RI3.wait' h (getD_un hu) (T := 16) rfl (Array.mem_of_getElem? (i := 1) rfl) rfl rfl) (T := 26) rfl (Array.mem_of_getElem? (i := 19) rfl) rfl rfl)
    have hC := h.world.1.1 hwc
    obtain ⟨v20, ev20, em20, F20⟩ := h.slot (i := 14) rfl rfl (hd _ (Array.mem_of_getElem? (i := 0) rfl) rfl)
    have q20 := isE.out F20
    have e20 := ev20.trans q20
    have f20 := em20.trans (congrArg some q20)
    clear ev20 em20 F20
    rw [if_pos (by rfl)]
    go_simp
    have hR : Wr (fun _ => False) u (u.alloc (.cells #[.float .f32 p.x, .float .f32 p.y, .float .f32 p.z] 38)) := (Wr.refl _ _).alloc _
    have hm : ((fun W => Below wq.heap.size wq W) u → (fun W => Below wq.heap.size wq W) (u.alloc (.cells #[.float .f32 p.x, .float .f32 p.y, .float .f32 p.z] 38))) ∧ ∀ q ∈ [((9 : Nat), (fun W => Wr (fun k => 0 < n1 ∧ A1 = some ⟨k, 0, none⟩) wq W : World → Prop)), ((16 : Nat), (fun W => Wr (fun k => (0 < n1 ∧ A1 = some ⟨k, 0, none⟩) ∨ (0 < n2 ∧ A2 = some ⟨k, 0, none⟩)) wq W : World → Prop)), ((23 : Nat), (fun W => Wr (fun k => (0 < n1 ∧ A1 = some ⟨k, 0, none⟩) ∨ (0 < n2 ∧ A2 = some ⟨k, 0, none⟩) ∨ (0 < n3 ∧ A3 = some ⟨k, 0, none⟩)) wq W : World → Prop)), ((26 : Nat), (fun W => ∃ x0 x1 x2, Bx W g 32 x0 x1 x2 (.slice A4 n4 c4) ∧ Wr (fun k => (0 < n1 ∧ A1 = some ⟨k, 0, none⟩) ∨ (0 < n2 ∧ A2 = some ⟨k, 0, none⟩) ∨ (0 < n3 ∧ A3 = some ⟨k, 0, none⟩) ∨ k = g) wq W : World → Prop)), ((29 : Nat), (fun W => ∃ x0 x1 x2, Bx W g 32 x0 x1 x2 (.slice A4 n4 c4) ∧ Wr (fun k => (0 < n1 ∧ A1 = some ⟨k, 0, none⟩) ∨ (0 < n2 ∧ A2 = some ⟨k, 0, none⟩) ∨ (0 < n3 ∧ A3 = some ⟨k, 0, none⟩) ∨ k = g) wq W : World → Prop)), ((32 : Nat), (fun W => ∃ x0 x1 x2, Bx W g 32 x0 x1 x2 (.slice A4 n4 c4) ∧ Wr (fun k => (0 < n1 ∧ A1 = some ⟨k, 0, none⟩) ∨ (0 < n2 ∧ A2 = some ⟨k, 0, none⟩) ∨ (0 < n3 ∧ A3 = some ⟨k, 0, none⟩) ∨ k = g) wq W : World → Prop))], q.2 u → q.2 (u.alloc (.cells #[.float .f32 p.x, .float .f32 p.y, .float .f32 p.z] 38)) := by
      refine ⟨fun hq => Below.alloc hq hq.size _, fun q hq hh => ?_⟩
      simp only [List.mem_cons, List.not_mem_nil, or_false] at hq
      rcases hq with rfl | rfl | rfl | rfl | rfl | rfl
      · exact Wr.alloc hh _
      · exact Wr.alloc hh _
      · exact Wr.alloc hh _
      all_goals
        obtain ⟨x0, x1, x2, h1, h2⟩ := hh
        exact ⟨x0, x1, x2, h1.alloc _, h2.alloc _⟩
    exact hK _ _ (fun j v hn hF => AllStX.fact0 (R := fun W W2 => Wr (fun _ => False) W W2) (i := 15) (by exact ⟨fun _ _ _ _ _ h => h, fun _ _ _ _ _ h => h, fun _ _ _ _ _ h => h, fun _ _ _ _ _ h => h, fun _ _ _ _ _ h => h, fun _ _ _ _ _ h => h, fun _ _ _ _ _ h => h, fun _ _ _ _ _ h => h, fun _ _ _ _ hW h => isN3.wr h hW (fun _ h => h.elim), fun _ _ _ _ hW h => isLoc.wr h hW (fun _ h => h.elim) (fun _ _ _ h => h), fun _ _ _ _ _ h => h, fun _ _ _ _ _ h => h, fun _ _ _ _ _ h => h, fun _ _ _ _ _ h => h, fun _ _ _ _ _ h => h, fun hn => absurd rfl hn, fun _ _ _ _ hW h => isLoc.wr h hW (fun _ h => h.elim) (fun _ _ _ h => h), fun _ _ _ _ _ h => h, fun _ _ _ _ _ h => h, fun _ _ _ _ _ h => h, fun _ _ _ _ _ h => h, fun _ _ _ _ _ h => h, fun _ _ _ _ hW h => isN1.wr h hW (fun _ h => h.elim), fun _ _ _ _ hW h => isLoc.wr h hW (fun _ h => h.elim) (fun _ _ _ h => h), fun _ _ _ _ _ h => h, fun _ _ _ _ _ h => h, fun _ _ _ _ _ h => h, fun _ _ _ _ _ h => h, fun _ _ _ _ _ h => h, fun _ _ _ _ _ h => h, fun _ _ _ _ _ h => h, fun _ _ _ _ _ h => h, fun _ _ _ _ _ h => h, trivial⟩) hR j v hn hF) ⟨_, rfl, hC.size, Tx.new_ _ _ _ _ _⟩ ⟨(Jt.next hwc (by decide) (hC.alloc _)), (Js.any h.world.2.1 rfl (hm)), (fun hl => Dif.put (by decide) (by decide) (h.world.2.2.1 (by rw [getD_set_ne false (by decide)] at hl; exact hl))), (Lk.no (RI3.wait' h (RI3.wait' h (getD_un hu) (T := 16) rfl (Array.mem_of_getElem? (i := 1) rfl) rfl rfl) (T := 26) rfl (Array.mem_of_getElem? (i := 19) rfl) rfl rfl) (by decide)), (Lk.no (RI3.wait' h (getD_un hu) (T := 29) rfl (Array.mem_of_getElem? (i := 18) rfl) rfl rfl) (by decide)), (Lk.no (RI3.wait' h (getD_un hu) (T := 32) rfl (Array.mem_of_getElem? (i := 18) rfl) rfl rfl) (by decide))⟩
  case r16 =>
    intro listed a u h hu hd K hK
    have hl0 : listed.getD 9 false = true := hd _ (Array.mem_of_getElem? (i := 2) rfl) rfl
    have hw := getD_un hu
    have hA := Js.now (Js.past h.world.2.1 hl0) hw
    have hwc := (RI3.wait' h (getD_un hu) (T := 26) rfl (Array.mem_of_getElem? (i := 19) rfl) rfl rfl)
    have hC := h.world.1.1 hwc
    obtain ⟨v19, ev19, em19, F19⟩ := h.slot (i := 13) rfl rfl (hd _ (Array.mem_of_getElem? (i := 0) rfl) rfl)
    have q19 := isE.out F19
    have e19 := ev19.trans q19
    have f19 := em19.trans (congrArg some q19)
    clear ev19 em19 F19
    obtain ⟨v21, ev21, em21, F21⟩ := h.slot (i := 15) rfl rfl (hd _ (Array.mem_of_getElem? (i := 1) rfl) rfl)
    obtain ⟨k21, q21, hk21, hT21⟩ : isN3 wq.heap.size 38 (.float .f32 p.x) (.float .f32 p.y) (.float .f32 p.z) v21 u := F21
    have e21 := ev21.trans q21
    have f21 := em21.trans (congrArg some q21)
    clear ev21 em21
    rw [if_pos (by rfl)]
    obtain ⟨v15, ev15, em15, F15⟩ := h.slot (i := 9) rfl rfl (hd _ (Array.mem_of_getElem? (i := 2) rfl) rfl)
    obtain ⟨A15, c15, q15, hs15, hl15⟩ : isLoc wq.heap.size M A1 n1 38 3 (n1 + 1) (vc (upd D.P n1 p)) v15 u := F15
    have hw2 := (RI3.wait' h (getD_un hu) (T := 23) rfl (Array.mem_of_getElem? (i := 2) rfl) rfl rfl)
    obtain ⟨i0, hi, hz0, hz1, hz2⟩ := info_parts infoV
    refine wp_app (.tmp 19) (.tmp 21) 29 rfl 38 i0 _ 3 12 Try.underlying29 hi hz0 hz1 hz2 rfl (by decide) A2 n2 c2 M (vc D.B) e19 (HO.out.s2.wr hA (fun k e h0 y => HO.out.ne k y.2 e y.1 h0)) HZ.out.2.1 (Nat.le_trans (by omega) hA.size) ⟨k21, 0, none⟩ 1 1 (vc (fun _ => p)) e21 (new3_vc _ _ 38 p hT21) (vc_one _) (by decide) (by simp only [maxLen]; omega) (by omega) ?_
    intro A6 c6 u2 hs2 hR hl2
    have hdif : Dif 15 22 (n1 + 1) (n2 + 1) (a.put (some 22) (.slice A6 (n2 + 1) c6)) := by
      intro k k2 y y2 hy hy2 _ _ hkk
      rw [put_ne a (by decide), em15, q15] at hy
      rw [put_self a (by rw [h.tmps]; simp)] at hy2
      cases hy
      cases hy2
      subst hkk
      have hb := (hs15.bd k rfl (by omega)).2
      rcases hl15 k rfl with e1 | e1
      · rcases hl2 k rfl with e2 | e2
        · exact HO.out.ne k e1.2 e2.2 e1.1 e2.1
        · omega
      · rcases hl2 k rfl with e2 | e2
        · have := (HO.out.s2.bd k e2.2 e2.1).2
          omega
        · omega
    exact hK _ _ (fun j v hn hF => AllStX.fact0 (R := fun W W2 => Wr (fun k => 0 < n2 ∧ A2 = some ⟨k, 0, none⟩) W W2) (i := 16) (by exact ⟨fun _ _ _ _ _ h => h, fun _ _ _ _ _ h => h, fun _ _ _ _ _ h => h, fun _ _ _ _ _ h => h, fun _ _ _ _ _ h => h, fun _ _ _ _ _ h => h, fun _ _ _ _ _ h => h, fun _ _ _ _ _ h => h, fun _ _ _ _ hW h => isN3.wr h hW (fun k y => (HO.out.s2.bd k y.2 y.1).2), fun _ _ _ _ hW h => isLoc.wr h hW (fun k y => (HO.out.s2.bd k y.2 y.1).2) (fun k h0 e y => HO.out.ne k e y.2 h0 y.1), fun _ _ _ _ _ h => h, fun _ _ _ _ _ h => h, fun _ _ _ _ _ h => h, fun _ _ _ _ _ h => h, fun _ _ _ _ _ h => h, fun _ _ _ _ hW h => isN3.wr h hW (fun k y => (HO.out.s2.bd k y.2 y.1).2), fun hn => absurd rfl hn, fun _ _ _ _ _ h => h, fun _ _ _ _ _ h => h, fun _ _ _ _ _ h => h, fun _ _ _ _ _ h => h, fun _ _ _ _ _ h => h, fun _ _ _ _ hW h => isN1.wr h hW (fun k y => (HO.out.s2.bd k y.2 y.1).2), fun _ _ _ _ hW h => isLoc.wr h hW (fun k y => (HO.out.s2.bd k y.2 y.1).2) (fun k h0 e y => HO.out.s3.ne_ HO.out.s2 (by decide) e y.2 h0 y.1), fun _ _ _ _ _ h => h, fun _ _ _ _ _ h => h, fun _ _ _ _ _ h => h, fun _ _ _ _ _ h => h, fun _ _ _ _ _ h => h, fun _ _ _ _ _ h => h, fun _ _ _ _ _ h => h, fun _ _ _ _ _ h => h, fun _ _ _ _ _ h => h, trivial⟩) hR j v hn hF) ⟨A6, c6, rfl, hs2.congr (app_vc D.B n2 p), fun k hk => (hl2 k hk).imp id (fun h => Nat.le_trans hA.size h)⟩ ⟨(Jt.next hwc (by decide) (hC.trans (hR.mono (fun _ _ y => .inr (.inl y))))), (Js.keep hl0 (Js.hit (un_lt hu) (Js.stay hw2 (by decide) ((hA.mono (fun _ _ y => .inl y)).trans (hR.mono (fun _ _ y => .inr y)))))), (fun _ => hdif), (Lk.no (RI3.wait' h (getD_un hu) (T := 26) rfl (Array.mem_of_getElem? (i := 19) rfl) rfl rfl) (by decide)), (Lk.no (RI3.wait' h (getD_un hu) (T := 29) rfl (Array.mem_of_getElem? (i := 1) rfl) rfl rfl) (by decide)), (Lk.no (RI3.wait' h (getD_un hu) (T := 32) rfl (Array.mem_of_getElem? (i := 19) rfl) rfl rfl) (by decide))⟩
  case r17 =>
    intro listed a u h hu hd K hK
    have e0 : a.tmps.getD 0 undef = .pointer (some ⟨g, 0, none⟩) := h.base (by kernel_rfl)
    have f0 : a.tmps[0]? = some (.pointer (some ⟨g, 0, none⟩)) := h.old (by kernel_rfl)
    rw [if_pos (by rfl)]
    go_simp
    exact hK _ _ (fun _ _ _ h => h) (isE.mk rfl) ⟨(Jt.neutral h.world.1 (by decide)), (Js.neutral h.world.2.1 rfl), (fun hl => Dif.put (by decide) (by decide) (h.world.2.2.1 (by rw [getD_set_ne false (by decide)] at hl; exact hl))), (Lk.neutral h.world.2.2.2.1 (by decide) (by decide) _), (Lk.neutral h.world.2.2.2.2.1 (by decide) (by decide) _), (Lk.neutral h.world.2.2.2.2.2 (by decide) (by decide) _)⟩
  case r18 =>
    intro listed a u h hu hd K hK
    obtain ⟨v23, ev23, em23, F23⟩ := h.slot (i := 17) rfl rfl (hd _ (Array.mem_of_getElem? (i := 0) rfl) rfl)
    have q23 := isE.out F23
    have e23 := ev23.trans q23
    have f23 := em23.trans (congrArg some q23)
    clear ev23 em23 F23
    rw [if_pos (by rfl)]
    go_simp
    exact hK _ _ (fun _ _ _ h => h) (isE.mk rfl) ⟨(Jt.neutral h.world.1 (by decide)), (Js.neutral h.world.2.1 rfl), (fun hl => Dif.put (by decide) (by decide) (h.world.2.2.1 (by rw [getD_set_ne false (by decide)] at hl; exact hl))), (Lk.neutral h.world.2.2.2.1 (by decide) (by decide) _), (Lk.neutral h.world.2.2.2.2.1 (by decide) (by decide) _), (Lk.neutral h.world.2.2.2.2.2 (by decide) (by decide) _)⟩
  case r19 =>
    intro listed a u h hu hd K hK
    obtain ⟨v24, ev24, em24, F24⟩ := h.slot (i := 18) rfl rfl (hd _ (Array.mem_of_getElem? (i := 0) rfl) rfl)
    have q24 := isE.out F24
    have e24 := ev24.trans q24
    have f24 := em24.trans (congrArg some q24)
    clear ev24 em24 F24
    rw [if_pos (by rfl)]
    go_simp
    exact hK _ _ (fun _ _ _ h => h) (isE.mk rfl) ⟨(Jt.neutral h.world.1 (by decide)), (Js.neutral h.world.2.1 rfl), (fun hl => Dif.put (by decide) (by decide) (h.world.2.2.1 (by rw [getD_set_ne false (by decide)] at hl; exact hl))), (Lk.neutral h.world.2.2.2.1 (by decide) (by decide) _), (Lk.neutral h.world.2.2.2.2.1 (by decide) (by decide) _), (Lk.neutral h.world.2.2.2.2.2 (by decide) (by decide) _)⟩
  case r20 =>
    intro listed a u h hu hd K hK
    have hwc := (RI3.wait' h (getD_un hu) (T := 26) rfl (Array.mem_of_getElem? (i := 23) rfl) rfl rfl)
    have hC := h.world.1.1 hwc
    obtain ⟨v25, ev25, em25, F25⟩ := h.slot (i := 19) rfl rfl (hd _ (Array.mem_of_getElem? (i := 0) rfl) rfl)
    have q25 := isE.out F25
    have e25 := ev25.trans q25
    have f25 := em25.trans (congrArg some q25)
    clear ev25 em25 F25
    rw [if_pos (by rfl)]
    obtain ⟨g0, g1, g2, g3, gf⟩ := (HX.out.wr hC HG.out).facts
    obtain ⟨t0_, t1_, t2_, tf_⟩ := (HT.out.wr hC HB.out).facts
    go_simp
    exact hK _ _ (fun _ _ _ h => h) (isE.mk rfl) ⟨(Jt.neutral h.world.1 (by decide)), (Js.neutral h.world.2.1 rfl), (fun hl => Dif.put (by decide) (by decide) (h.world.2.2.1 (by rw [getD_set_ne false (by decide)] at hl; exact hl))), (Lk.neutral h.world.2.2.2.1 (by decide) (by decide) _), (Lk.neutral h.world.2.2.2.2.1 (by decide) (by decide) _), (Lk.neutral h.world.2.2.2.2.2 (by decide) (by decide) _)⟩
  case r21 =>
    intro listed a u h hu hd K hK
    have e2 : a.tmps.getD 2 undef = .float .f32 x := h.base (by kernel_rfl)
    have f2 : a.tmps[2]? = some (.float .f32 x) := h.old (by kernel_rfl)
    rw [if_pos (by rfl)]
    go_simp
    exact hK _ _ (fun _ _ _ h => h) (isE.mk rfl) ⟨(Jt.neutral h.world.1 (by decide)), (Js.neutral h.world.2.1 rfl), (fun hl => Dif.put (by decide) (by decide) (h.world.2.2.1 (by rw [getD_set_ne false (by decide)] at hl; exact hl))), (Lk.neutral h.world.2.2.2.1 (by decide) (by decide) _), (Lk.neutral h.world.2.2.2.2.1 (by decide) (by decide) _), (Lk.neutral h.world.2.2.2.2.2 (by decide) (by decide) _)⟩
  case r22 =>
    intro listed a u h hu hd K hK
    have hwc := (RI3.wait' h (RI3.wait' h (getD_un hu) (T := 23) rfl (Array.mem_of_getElem? (i := 1) rfl) rfl rfl) (T := 26) rfl (Array.mem_of_getElem? (i := 2) rfl) rfl rfl)
    have hC := h.world.1.1 hwc
    obtain ⟨v27, ev27, em27, F27⟩ := h.slot (i := 21) rfl rfl (hd _ (Array.mem_of_getElem? (i := 0) rfl) rfl)
    have q27 := isE.out F27
    have e27 := ev27.trans q27
    have f27 := em27.trans (congrArg some q27)
    clear ev27 em27 F27
    rw [if_pos (by rfl)]
    go_simp
    have hR : Wr (fun _ => False) u (u.alloc (.cells #[.float .f32 x] 36)) := (Wr.refl _ _).alloc _
    have hm : ((fun W => Below wq.heap.size wq W) u → (fun W => Below wq.heap.size wq W) (u.alloc (.cells #[.float .f32 x] 36))) ∧ ∀ q ∈ [((9 : Nat), (fun W => Wr (fun k => 0 < n1 ∧ A1 = some ⟨k, 0, none⟩) wq W : World → Prop)), ((16 : Nat), (fun W => Wr (fun k => (0 < n1 ∧ A1 = some ⟨k, 0, none⟩) ∨ (0 < n2 ∧ A2 = some ⟨k, 0, none⟩)) wq W : World → Prop)), ((23 : Nat), (fun W => Wr (fun k => (0 < n1 ∧ A1 = some ⟨k, 0, none⟩) ∨ (0 < n2 ∧ A2 = some ⟨k, 0, none⟩) ∨ (0 < n3 ∧ A3 = some ⟨k, 0, none⟩)) wq W : World → Prop)), ((26 : Nat), (fun W => ∃ x0 x1 x2, Bx W g 32 x0 x1 x2 (.slice A4 n4 c4) ∧ Wr (fun k => (0 < n1 ∧ A1 = some ⟨k, 0, none⟩) ∨ (0 < n2 ∧ A2 = some ⟨k, 0, none⟩) ∨ (0 < n3 ∧ A3 = some ⟨k, 0, none⟩) ∨ k = g) wq W : World → Prop)), ((29 : Nat), (fun W => ∃ x0 x1 x2, Bx W g 32 x0 x1 x2 (.slice A4 n4 c4) ∧ Wr (fun k => (0 < n1 ∧ A1 = some ⟨k, 0, none⟩) ∨ (0 < n2 ∧ A2 = some ⟨k, 0, none⟩) ∨ (0 < n3 ∧ A3 = some ⟨k, 0, none⟩) ∨ k = g) wq W : World → Prop)), ((32 : Nat), (fun W => ∃ x0 x1 x2, Bx W g 32 x0 x1 x2 (.slice A4 n4 c4) ∧ Wr (fun k => (0 < n1 ∧ A1 = some ⟨k, 0, none⟩) ∨ (0 < n2 ∧ A2 = some ⟨k, 0, none⟩) ∨ (0 < n3 ∧ A3 = some ⟨k, 0, none⟩) ∨ k = g) wq W : World → Prop))], q.2 u → q.2 (u.alloc (.cells #[.float .f32 x] 36)) := by
      refine ⟨fun hq => Below.alloc hq hq.size _, fun q hq hh => ?_⟩
      simp only [List.mem_cons, List.not_mem_nil, or_false] at hq
      rcases hq with rfl | rfl | rfl | rfl | rfl | rfl
      · exact Wr.alloc hh _
      · exact Wr.alloc hh _
      · exact Wr.alloc hh _
      all_goals
        obtain ⟨x0, x1, x2, h1, h2⟩ := hh
        exact ⟨x0, x1, x2, h1.alloc _, h2.alloc _⟩
    exact hK _ _ (fun j v hn hF => AllStX.fact0 (R := fun W W2 => Wr (fun _ => False) W W2) (i := 22) (by exact ⟨fun _ _ _ _ _ h => h, fun _ _ _ _ _ h => h, fun _ _ _ _ _ h => h, fun _ _ _ _ _ h => h, fun _ _ _ _ _ h => h, fun _ _ _ _ _ h => h, fun _ _ _ _ _ h => h, fun _ _ _ _ _ h => h, fun _ _ _ _ hW h => isN3.wr h hW (fun _ h => h.elim), fun _ _ _ _ hW h => isLoc.wr h hW (fun _ h => h.elim) (fun _ _ _ h => h), fun _ _ _ _ _ h => h, fun _ _ _ _ _ h => h, fun _ _ _ _ _ h => h, fun _ _ _ _ _ h => h, fun _ _ _ _ _ h => h, fun _ _ _ _ hW h => isN3.wr h hW (fun _ h => h.elim), fun _ _ _ _ hW h => isLoc.wr h hW (fun _ h => h.elim) (fun _ _ _ h => h), fun _ _ _ _ _ h => h, fun _ _ _ _ _ h => h, fun _ _ _ _ _ h => h, fun _ _ _ _ _ h => h, fun _ _ _ _ _ h => h, fun hn => absurd rfl hn, fun _ _ _ _ hW h => isLoc.wr h hW (fun _ h => h.elim) (fun _ _ _ h => h), fun _ _ _ _ _ h => h, fun _ _ _ _ _ h => h, fun _ _ _ _ _ h => h, fun _ _ _ _ _ h => h, fun _ _ _ _ _ h => h, fun _ _ _ _ _ h => h, fun _ _ _ _ _ h => h, fun _ _ _ _ _ h => h, fun _ _ _ _ _ h => h, trivial⟩) hR j v hn hF) ⟨_, rfl, hC.size, Ox.new_ _ _ _⟩ ⟨(Jt.next hwc (by decide) (hC.alloc _)), (Js.any h.world.2.1 rfl (hm)), (fun hl => Dif.put (by decide) (by decide) (h.world.2.2.1 (by rw [getD_set_ne false (by decide)] at hl; exact hl))), (Lk.no (RI3.wait' h (RI3.wait' h (getD_un hu) (T := 23) rfl (Array.mem_of_getElem? (i := 1) rfl) rfl rfl) (T := 26) rfl (Array.mem_of_getElem? (i := 2) rfl) rfl rfl) (by decide)), (Lk.no (RI3.wait' h (RI3.wait' h (getD_un hu) (T := 23) rfl (Array.mem_of_getElem? (i := 1) rfl) rfl rfl) (T := 29) rfl (Array.mem_of_getElem? (i := 26) rfl) rfl rfl) (by decide)), (Lk.no (RI3.wait' h (getD_un hu) (T := 32) rfl (Array.mem_of_getElem? (i := 25) rfl) rfl rfl) (by decide))⟩
  case r23 =>
    intro listed a u h hu hd K hK
    have hl0 : listed.getD 9 false = true := h.closed 16 _ rfl (hd _ (Array.mem_of_getElem? (i := 2) rfl) rfl) _ (Array.mem_of_getElem? (i := 2) rfl) rfl
    have hl1 : listed.getD 16 false = true := hd _ (Array.mem_of_getElem? (i := 2) rfl) rfl
    have hw := getD_un hu
    have hA := Js.now (Js.past (Js.past h.world.2.1 hl0) hl1) hw
    have hwc := (RI3.wait' h (getD_un hu) (T := 26) rfl (Array.mem_of_getElem? (i := 2) rfl) rfl rfl)
    have hC := h.world.1.1 hwc
    obtain ⟨v26, ev26, em26, F26⟩ := h.slot (i := 20) rfl rfl (hd _ (Array.mem_of_getElem? (i := 0) rfl) rfl)
    have q26 := isE.out F26
    have e26 := ev26.trans q26
    have f26 := em26.trans (congrArg some q26)
    clear ev26 em26 F26
    obtain ⟨v28, ev28, em28, F28⟩ := h.slot (i := 22) rfl rfl (hd _ (Array.mem_of_getElem? (i := 1) rfl) rfl)
    obtain ⟨k28, q28, hk28, hT28⟩ : isN1 wq.heap.size 36 (.float .f32 x) v28 u := F28
    have e28 := ev28.trans q28
    have f28 := em28.trans (congrArg some q28)
    clear ev28 em28
    rw [if_pos (by rfl)]
    have hw2 := (RI3.wait' h (getD_un hu) (T := 26) rfl (Array.mem_of_getElem? (i := 2) rfl) rfl rfl)
    obtain ⟨i0, hi, hz0, hz1, hz2⟩ := info_parts infoF
    refine wp_app (.tmp 26) (.tmp 28) 23 rfl 36 i0 _ 1 4 Try.underlying23 hi hz0 hz1 hz2 rfl (by decide) A3 n3 c3 M (fc D.W) e26 (HO.out.s3.wr hA (fun k e h0 y => y.elim (fun y => HO.out.s1.ne_ HO.out.s3 (by decide) y.2 e y.1 h0) (fun y => HO.out.s2.ne_ HO.out.s3 (by decide) y.2 e y.1 h0))) HZ.out.2.2.1 (Nat.le_trans (by omega) hA.size) ⟨k28, 0, none⟩ 1 1 (fc (fun _ => x)) e28 (new1_fc _ _ 36 x hT28) (fc_one _) (by decide) (by simp only [maxLen]; omega) (by omega) ?_
    intro A6 c6 u2 hs2 hR hl2
    exact hK _ _ (fun j v hn hF => AllStX.fact0 (R := fun W W2 => Wr (fun k => 0 < n3 ∧ A3 = some ⟨k, 0, none⟩) W W2) (i := 23) (by exact ⟨fun _ _ _ _ _ h => h, fun _ _ _ _ _ h => h, fun _ _ _ _ _ h => h, fun _ _ _ _ _ h => h, fun _ _ _ _ _ h => h, fun _ _ _ _ _ h => h, fun _ _ _ _ _ h => h, fun _ _ _ _ _ h => h, fun _ _ _ _ hW h => isN3.wr h hW (fun k y => (HO.out.s3.bd k y.2 y.1).2), fun _ _ _ _ hW h => isLoc.wr h hW (fun k y => (HO.out.s3.bd k y.2 y.1).2) (fun k h0 e y => HO.out.s1.ne_ HO.out.s3 (by decide) e y.2 h0 y.1), fun _ _ _ _ _ h => h, fun _ _ _ _ _ h => h, fun _ _ _ _ _ h => h, fun _ _ _ _ _ h => h, fun _ _ _ _ _ h => h, fun _ _ _ _ hW h => isN3.wr h hW (fun k y => (HO.out.s3.bd k y.2 y.1).2), fun _ _ _ _ hW h => isLoc.wr h hW (fun k y => (HO.out.s3.bd k y.2 y.1).2) (fun k h0 e y => HO.out.s2.ne_ HO.out.s3 (by decide) e y.2 h0 y.1), fun _ _ _ _ _ h => h, fun _ _ _ _ _ h => h, fun _ _ _ _ _ h => h, fun _ _ _ _ _ h => h, fun _ _ _ _ _ h => h, fun _ _ _ _ hW h => isN1.wr h hW (fun k y => (HO.out.s3.bd k y.2 y.1).2), fun hn => absurd rfl hn, fun _ _ _ _ _ h => h, fun _ _ _ _ _ h => h, fun _ _ _ _ _ h => h, fun _ _ _ _ _ h => h, fun _ _ _ _ _ h => h, fun _ _ _ _ _ h => h, fun _ _ _ _ _ h => h, fun _ _ _ _ _ h => h, fun _ _ _ _ _ h => h, trivial⟩) hR j v hn hF) ⟨A6, c6, rfl, hs2.congr (app_fc D.W n3 x), fun k hk => (hl2 k hk).imp id (fun h => Nat.le_trans hA.size h)⟩ ⟨(Jt.next hwc (by decide) (hC.trans (hR.mono (fun _ _ y => .inr (.inr y))))), (Js.keep hl0 (Js.keep hl1 (Js.hit (un_lt hu) (Js.stay hw2 (by decide) ((hA.mono (fun _ _ y => y.imp id .inl)).trans (hR.mono (fun _ _ y => .inr (.inr y)))))))), (fun hl => Dif.put (by decide) (by decide) (h.world.2.2.1 (by rw [getD_set_ne false (by decide)] at hl; exact hl))), (Lk.no (RI3.wait' h (getD_un hu) (T := 26) rfl (Array.mem_of_getElem? (i := 2) rfl) rfl rfl) (by decide)), (Lk.no (RI3.wait' h (getD_un hu) (T := 29) rfl (Array.mem_of_getElem? (i := 26) rfl) rfl rfl) (by decide)), (Lk.no (RI3.wait' h (getD_un hu) (T := 32) rfl (Array.mem_of_getElem? (i := 1) rfl) rfl rfl) (by decide))⟩
  case r24 =>
    intro listed a u h hu hd K hK
    obtain ⟨v6, ev6, em6, F6⟩ := h.slot (i := 0) rfl rfl (hd _ (Array.mem_of_getElem? (i := 0) rfl) rfl)
    have q6 := isE.out F6
    have e6 := ev6.trans q6
    have f6 := em6.trans (congrArg some q6)
    clear ev6 em6 F6
    rw [if_pos (by rfl)]
    go_simp
    exact hK _ _ (fun _ _ _ h => h) (isE.mk rfl) ⟨(Jt.neutral h.world.1 (by decide)), (Js.neutral h.world.2.1 rfl), (fun hl => Dif.put (by decide) (by decide) (h.world.2.2.1 (by rw [getD_set_ne false (by decide)] at hl; exact hl))), (Lk.neutral h.world.2.2.2.1 (by decide) (by decide) _), (Lk.neutral h.world.2.2.2.2.1 (by decide) (by decide) _), (Lk.neutral h.world.2.2.2.2.2 (by decide) (by decide) _)⟩
  case r25 =>
    intro listed a u h hu hd K hK
    obtain ⟨v30, ev30, em30, F30⟩ := h.slot (i := 24) rfl rfl (hd _ (Array.mem_of_getElem? (i := 0) rfl) rfl)
    have q30 := isE.out F30
    have e30 := ev30.trans q30
    have f30 := em30.trans (congrArg some q30)
    clear ev30 em30 F30
    rw [if_pos (by rfl)]
    go_simp
    exact hK _ _ (fun _ _ _ h => h) (isE.mk rfl) ⟨(Jt.neutral h.world.1 (by decide)), (Js.neutral h.world.2.1 rfl), (fun hl => Dif.put (by decide) (by decide) (h.world.2.2.1 (by rw [getD_set_ne false (by decide)] at hl; exact hl))), (Lk.neutral h.world.2.2.2.1 (by decide) (by decide) _), (Lk.neutral h.world.2.2.2.2.1 (by decide) (by decide) _), (Lk.neutral h.world.2.2.2.2.2 (by decide) (by decide) _)⟩
  case r26 =>
    intro listed a u h hu hd K hK
    have hl0 : listed.getD 9 false = true := hd _ (Array.mem_of_getElem? (i := 1) rfl) rfl
    have hl1 : listed.getD 16 false = true := hd _ (Array.mem_of_getElem? (i := 19) rfl) rfl
    have hl2 : listed.getD 23 false = true := hd _ (Array.mem_of_getElem? (i := 2) rfl) rfl
    have hw := getD_un hu
    have hA := Js.now (Js.past (Js.past (Js.past h.world.2.1 hl0) hl1) hl2) hw
    have hC := h.world.1.1 (getD_un hu)
    obtain ⟨v31, ev31, em31, F31⟩ := h.slot (i := 25) rfl rfl (hd _ (Array.mem_of_getElem? (i := 0) rfl) rfl)
    have q31 := isE.out F31
    have e31 := ev31.trans q31
    have f31 := em31.trans (congrArg some q31)
    clear ev31 em31 F31
    obtain ⟨v15, ev15, em15, F15⟩ := h.slot (i := 9) rfl rfl (hd _ (Array.mem_of_getElem? (i := 1) rfl) rfl)
    obtain ⟨A15, c15, q15, hs15, hl15⟩ : isLoc wq.heap.size M A1 n1 38 3 (n1 + 1) (vc (upd D.P n1 p)) v15 u := F15
    have e15 := ev15.trans q15
    have f15 := em15.trans (congrArg some q15)
    clear ev15 em15
    rw [if_pos (by rfl)]
    have hw2 := (RI3.wait' h (getD_un hu) (T := 29) rfl (Array.mem_of_getElem? (i := 2) rfl) rfl rfl)
    have hX := HX.out.wr hA HG.out
    have hW := hA.mono (S' := fun k => (0 < n1 ∧ A1 = some ⟨k, 0, none⟩) ∨ (0 < n2 ∧ A2 = some ⟨k, 0, none⟩) ∨ (0 < n3 ∧ A3 = some ⟨k, 0, none⟩) ∨ k = g) (fun k _ h => by rcases h with h | h | h; exact .inl h; exact .inr (.inl h); exact .inr (.inr (.inl h)))
    obtain ⟨g0, g1, g2, g3, gf⟩ := hX.facts
    have lg := hX.lt
    go_simp
    have hR := Wr.set1 u g 0 (.slice A15 (n1 + 1) c15)
    exact hK undef _ (fun j v hn hF => AllStX.fact0 (R := fun W W2 => Wr (fun k => k = g) W W2) (i := 26) (by exact ⟨fun _ _ _ _ _ h => h, fun _ _ _ _ _ h => h, fun _ _ _ _ _ h => h, fun _ _ _ _ _ h => h, fun _ _ _ _ _ h => h, fun _ _ _ _ _ h => h, fun _ _ _ _ _ h => h, fun _ _ _ _ _ h => h, fun _ _ _ _ hW h => isN3.wr h hW (fun k e => by rw [e]; exact HX.out.lt), fun _ _ _ _ hW h => isLoc.wr h hW (fun k e => by rw [e]; exact HX.out.lt) (fun k h0 e y => HG.out (.inl ⟨h0, by rw [e, y]⟩)), fun _ _ _ _ _ h => h, fun _ _ _ _ _ h => h, fun _ _ _ _ _ h => h, fun _ _ _ _ _ h => h, fun _ _ _ _ _ h => h, fun _ _ _ _ hW h => isN3.wr h hW (fun k e => by rw [e]; exact HX.out.lt), fun _ _ _ _ hW h => isLoc.wr h hW (fun k e => by rw [e]; exact HX.out.lt) (fun k h0 e y => HG.out (.inr (.inl ⟨h0, by rw [e, y]⟩))), fun _ _ _ _ _ h => h, fun _ _ _ _ _ h => h, fun _ _ _ _ _ h => h, fun _ _ _ _ _ h => h, fun _ _ _ _ _ h => h, fun _ _ _ _ hW h => isN1.wr h hW (fun k e => by rw [e]; exact HX.out.lt), fun _ _ _ _ hW h => isLoc.wr h hW (fun k e => by rw [e]; exact HX.out.lt) (fun k h0 e y => HG.out (.inr (.inr ⟨h0, by rw [e, y]⟩))), fun _ _ _ _ _ h => h, fun _ _ _ _ _ h => h, fun hn => absurd rfl hn, fun _ _ _ _ _ h => h, fun _ _ _ _ _ h => h, fun _ _ _ _ _ h => h, fun _ _ _ _ _ h => h, fun _ _ _ _ _ h => h, fun _ _ _ _ _ h => h, trivial⟩) hR j v hn hF) trivial ⟨(Jt.last (un_lt hu) trivial), (Js.keep hl0 (Js.keep hl1 (Js.keep hl2 (Js.hit (un_lt hu) (Js.stay hw2 (by decide) (⟨_, _, _, hX.set0 _, hW.trans (hR.mono (fun _ _ y => .inr (.inr (.inr y))))⟩)))))), (fun hl => Dif.put (by decide) (by decide) (h.world.2.2.1 (by rw [getD_set_ne false (by decide)] at hl; exact hl))), (Lk.hit f15 ((hX.set0 _).c0)), (Lk.no (RI3.wait' h (getD_un hu) (T := 29) rfl (Array.mem_of_getElem? (i := 2) rfl) rfl rfl) (by decide)), (Lk.no (RI3.wait' h (getD_un hu) (T := 32) rfl (Array.mem_of_getElem? (i := 29) rfl) rfl rfl) (by decide))⟩
  case r27 =>
    intro listed a u h hu hd K hK
    obtain ⟨v7, ev7, em7, F7⟩ := h.slot (i := 1) rfl rfl (hd _ (Array.mem_of_getElem? (i := 0) rfl) rfl)
    have q7 := isE.out F7
    have e7 := ev7.trans q7
    have f7 := em7.trans (congrArg some q7)
    clear ev7 em7 F7
    rw [if_pos (by rfl)]
    go_simp
    exact hK _ _ (fun _ _ _ h => h) (isE.mk rfl) ⟨(Jt.neutral h.world.1 (by decide)), (Js.neutral h.world.2.1 rfl), (fun hl => Dif.put (by decide) (by decide) (h.world.2.2.1 (by rw [getD_set_ne false (by decide)] at hl; exact hl))), (Lk.neutral h.world.2.2.2.1 (by decide) (by decide) _), (Lk.neutral h.world.2.2.2.2.1 (by decide) (by decide) _), (Lk.neutral h.world.2.2.2.2.2 (by decide) (by decide) _)⟩
  case r28 =>
    intro listed a u h hu hd K hK
    obtain ⟨v32, ev32, em32, F32⟩ := h.slot (i := 27) rfl rfl (hd _ (Array.mem_of_getElem? (i := 0) rfl) rfl)
    have q32 := isE.out F32
    have e32 := ev32.trans q32
    have f32 := em32.trans (congrArg some q32)
    clear ev32 em32 F32
    rw [if_pos (by rfl)]
    go_simp
    exact hK _ _ (fun _ _ _ h => h) (isE.mk rfl) ⟨(Jt.neutral h.world.1 (by decide)), (Js.neutral h.world.2.1 rfl), (fun hl => Dif.put (by decide) (by decide) (h.world.2.2.1 (by rw [getD_set_ne false (by decide)] at hl; exact hl))), (Lk.neutral h.world.2.2.2.1 (by decide) (by decide) _), (Lk.neutral h.world.2.2.2.2.1 (by decide) (by decide) _), (Lk.neutral h.world.2.2.2.2.2 (by decide) (by decide) _)⟩
  case r29 =>
    intro listed a u h hu hd K hK
    have hl0 : listed.getD 9 false = true := hd _ (Array.mem_of_getElem? (i := 12) rfl) rfl
    have hl1 : listed.getD 16 false = true := hd _ (Array.mem_of_getElem? (i := 1) rfl) rfl
    have hl2 : listed.getD 23 false = true := hd _ (Array.mem_of_getElem? (i := 26) rfl) rfl
    have hl3 : listed.getD 26 false = true := hd _ (Array.mem_of_getElem? (i := 2) rfl) rfl
    have hw := getD_un hu
    have hA := Js.now (Js.past (Js.past (Js.past (Js.past h.world.2.1 hl0) hl1) hl2) hl3) hw
    obtain ⟨v33, ev33, em33, F33⟩ := h.slot (i := 28) rfl rfl (hd _ (Array.mem_of_getElem? (i := 0) rfl) rfl)
    have q33 := isE.out F33
    have e33 := ev33.trans q33
    have f33 := em33.trans (congrArg some q33)
    clear ev33 em33 F33
    obtain ⟨v22, ev22, em22, F22⟩ := h.slot (i := 16) rfl rfl (hd _ (Array.mem_of_getElem? (i := 1) rfl) rfl)
    obtain ⟨A22, c22, q22, hs22, hl22⟩ : isLoc wq.heap.size M A2 n2 38 3 (n2 + 1) (vc (upd D.B n2 p)) v22 u := F22
    have e22 := ev22.trans q22
    have f22 := em22.trans (congrArg some q22)
    clear ev22 em22
    rw [if_pos (by rfl)]
    have hw2 := (RI3.wait' h (getD_un hu) (T := 32) rfl (Array.mem_of_getElem? (i := 2) rfl) rfl rfl)
    obtain ⟨x0, x1, x2, hX, hW⟩ := hA
    obtain ⟨g0, g1, g2, g3, gf⟩ := hX.facts
    have lg := hX.lt
    go_simp
    have hR := Wr.set1 u g 1 (.slice A22 (n2 + 1) c22)
    exact hK undef _ (fun j v hn hF => AllStX.fact0 (R := fun W W2 => Wr (fun k => k = g) W W2) (i := 29) (by exact ⟨fun _ _ _ _ _ h => h, fun _ _ _ _ _ h => h, fun _ _ _ _ _ h => h, fun _ _ _ _ _ h => h, fun _ _ _ _ _ h => h, fun _ _ _ _ _ h => h, fun _ _ _ _ _ h => h, fun _ _ _ _ _ h => h, fun _ _ _ _ hW h => isN3.wr h hW (fun k e => by rw [e]; exact HX.out.lt), fun _ _ _ _ hW h => isLoc.wr h hW (fun k e => by rw [e]; exact HX.out.lt) (fun k h0 e y => HG.out (.inl ⟨h0, by rw [e, y]⟩)), fun _ _ _ _ _ h => h, fun _ _ _ _ _ h => h, fun _ _ _ _ _ h => h, fun _ _ _ _ _ h => h, fun _ _ _ _ _ h => h, fun _ _ _ _ hW h => isN3.wr h hW (fun k e => by rw [e]; exact HX.out.lt), fun _ _ _ _ hW h => isLoc.wr h hW (fun k e => by rw [e]; exact HX.out.lt) (fun k h0 e y => HG.out (.inr (.inl ⟨h0, by rw [e, y]⟩))), fun _ _ _ _ _ h => h, fun _ _ _ _ _ h => h, fun _ _ _ _ _ h => h, fun _ _ _ _ _ h => h, fun _ _ _ _ _ h => h, fun _ _ _ _ hW h => isN1.wr h hW (fun k e => by rw [e]; exact HX.out.lt), fun _ _ _ _ hW h => isLoc.wr h hW (fun k e => by rw [e]; exact HX.out.lt) (fun k h0 e y => HG.out (.inr (.inr ⟨h0, by rw [e, y]⟩))), fun _ _ _ _ _ h => h, fun _ _ _ _ _ h => h, fun _ _ _ _ _ h => h, fun _ _ _ _ _ h => h, fun _ _ _ _ _ h => h, fun hn => absurd rfl hn, fun _ _ _ _ _ h => h, fun _ _ _ _ _ h => h, fun _ _ _ _ _ h => h, trivial⟩) hR j v hn hF) trivial ⟨(Jt.done h.world.1 (by decide) (hd _ (Array.mem_of_getElem? (i := 2) rfl) rfl)), (Js.keep hl0 (Js.keep hl1 (Js.keep hl2 (Js.keep hl3 (Js.hit (un_lt hu) (Js.stay hw2 (by decide) (⟨_, _, _, hX.set1 _, hW.trans (hR.mono (fun _ _ y => .inr (.inr (.inr y))))⟩))))))), (fun hl => Dif.put (by decide) (by decide) (h.world.2.2.1 (by rw [getD_set_ne false (by decide)] at hl; exact hl))), (Lk.over h.world.2.2.2.1 (by decide) (((hX.set1 _).c0).trans hX.c0.symm)), (Lk.hit f22 ((hX.set1 _).c1)), (Lk.no (RI3.wait' h (getD_un hu) (T := 32) rfl (Array.mem_of_getElem? (i := 2) rfl) rfl rfl) (by decide))⟩
  case r30 =>
    intro listed a u h hu hd K hK
    obtain ⟨v8, ev8, em8, F8⟩ := h.slot (i := 2) rfl rfl (hd _ (Array.mem_of_getElem? (i := 0) rfl) rfl)
    have q8 := isE.out F8
    have e8 := ev8.trans q8
    have f8 := em8.trans (congrArg some q8)
    clear ev8 em8 F8
    rw [if_pos (by rfl)]
    go_simp
    exact hK _ _ (fun _ _ _ h => h) (isE.mk rfl) ⟨(Jt.neutral h.world.1 (by decide)), (Js.neutral h.world.2.1 rfl), (fun hl => Dif.put (by decide) (by decide) (h.world.2.2.1 (by rw [getD_set_ne false (by decide)] at hl; exact hl))), (Lk.neutral h.world.2.2.2.1 (by decide) (by decide) _), (Lk.neutral h.world.2.2.2.2.1 (by decide) (by decide) _), (Lk.neutral h.world.2.2.2.2.2 (by decide) (by decide) _)⟩
  case r31 =>
    intro listed a u h hu hd K hK
    obtain ⟨v34, ev34, em34, F34⟩ := h.slot (i := 30) rfl rfl (hd _ (Array.mem_of_getElem? (i := 0) rfl) rfl)
    have q34 := isE.out F34
    have e34 := ev34.trans q34
    have f34 := em34.trans (congrArg some q34)
    clear ev34 em34 F34
    rw [if_pos (by rfl)]
    go_simp
    exact hK _ _ (fun _ _ _ h => h) (isE.mk rfl) ⟨(Jt.neutral h.world.1 (by decide)), (Js.neutral h.world.2.1 rfl), (fun hl => Dif.put (by decide) (by decide) (h.world.2.2.1 (by rw [getD_set_ne false (by decide)] at hl; exact hl))), (Lk.neutral h.world.2.2.2.1 (by decide) (by decide) _), (Lk.neutral h.world.2.2.2.2.1 (by decide) (by decide) _), (Lk.neutral h.world.2.2.2.2.2 (by decide) (by decide) _)⟩
  case r32 =>
    intro listed a u h hu hd K hK
    have hl0 : listed.getD 9 false = true := hd _ (Array.mem_of_getElem? (i := 12) rfl) rfl
    have hl1 : listed.getD 16 false = true := hd _ (Array.mem_of_getElem? (i := 19) rfl) rfl
    have hl2 : listed.getD 23 false = true := hd _ (Array.mem_of_getElem? (i := 1) rfl) rfl
    have hl3 : listed.getD 26 false = true := hd _ (Array.mem_of_getElem? (i := 29) rfl) rfl
    have hl4 : listed.getD 29 false = true := hd _ (Array.mem_of_getElem? (i := 2) rfl) rfl
    have hw := getD_un hu
    have hA := Js.now (Js.past (Js.past (Js.past (Js.past (Js.past h.world.2.1 hl0) hl1) hl2) hl3) hl4) hw
    obtain ⟨v35, ev35, em35, F35⟩ := h.slot (i := 31) rfl rfl (hd _ (Array.mem_of_getElem? (i := 0) rfl) rfl)
    have q35 := isE.out F35
    have e35 := ev35.trans q35
    have f35 := em35.trans (congrArg some q35)
    clear ev35 em35 F35
    obtain ⟨v29, ev29, em29, F29⟩ := h.slot (i := 23) rfl rfl (hd _ (Array.mem_of_getElem? (i := 1) rfl) rfl)
    obtain ⟨A29, c29, q29, hs29, hl29⟩ : isLoc wq.heap.size M A3 n3 36 1 (n3 + 1) (fc (upd D.W n3 x)) v29 u := F29
    have e29 := ev29.trans q29
    have f29 := em29.trans (congrArg some q29)
    clear ev29 em29
    rw [if_pos (by rfl)]
    obtain ⟨x0, x1, x2, hX, hW⟩ := hA
    obtain ⟨g0, g1, g2, g3, gf⟩ := hX.facts
    have lg := hX.lt
    go_simp
    have hR := Wr.set1 u g 2 (.slice A29 (n3 + 1) c29)
    exact hK undef _ (fun j v hn hF => AllStX.fact0 (R := fun W W2 => Wr (fun k => k = g) W W2) (i := 32) (by exact ⟨fun _ _ _ _ _ h => h, fun _ _ _ _ _ h => h, fun _ _ _ _ _ h => h, fun _ _ _ _ _ h => h, fun _ _ _ _ _ h => h, fun _ _ _ _ _ h => h, fun _ _ _ _ _ h => h, fun _ _ _ _ _ h => h, fun _ _ _ _ hW h => isN3.wr h hW (fun k e => by rw [e]; exact HX.out.lt), fun _ _ _ _ hW h => isLoc.wr h hW (fun k e => by rw [e]; exact HX.out.lt) (fun k h0 e y => HG.out (.inl ⟨h0, by rw [e, y]⟩)), fun _ _ _ _ _ h => h, fun _ _ _ _ _ h => h, fun _ _ _ _ _ h => h, fun _ _ _ _ _ h => h, fun _ _ _ _ _ h => h, fun _ _ _ _ hW h => isN3.wr h hW (fun k e => by rw [e]; exact HX.out.lt), fun _ _ _ _ hW h => isLoc.wr h hW (fun k e => by rw [e]; exact HX.out.lt) (fun k h0 e y => HG.out (.inr (.inl ⟨h0, by rw [e, y]⟩))), fun _ _ _ _ _ h => h, fun _ _ _ _ _ h => h, fun _ _ _ _ _ h => h, fun _ _ _ _ _ h => h, fun _ _ _ _ _ h => h, fun _ _ _ _ hW h => isN1.wr h hW (fun k e => by rw [e]; exact HX.out.lt), fun _ _ _ _ hW h => isLoc.wr h hW (fun k e => by rw [e]; exact HX.out.lt) (fun k h0 e y => HG.out (.inr (.inr ⟨h0, by rw [e, y]⟩))), fun _ _ _ _ _ h => h, fun _ _ _ _ _ h => h, fun _ _ _ _ _ h => h, fun _ _ _ _ _ h => h, fun _ _ _ _ _ h => h, fun _ _ _ _ _ h => h, fun _ _ _ _ _ h => h, fun _ _ _ _ _ h => h, fun hn => absurd rfl hn, trivial⟩) hR j v hn hF) trivial ⟨(Jt.done h.world.1 (by decide) (hd _ (Array.mem_of_getElem? (i := 29) rfl) rfl)), (Js.keep hl0 (Js.keep hl1 (Js.keep hl2 (Js.keep hl3 (Js.keep hl4 (Js.hit (un_lt hu) (Js.nil (⟨_, _, _, hX.set2 _, hW.trans (hR.mono (fun _ _ y => .inr (.inr (.inr y))))⟩)))))))), (fun hl => Dif.put (by decide) (by decide) (h.world.2.2.1 (by rw [getD_set_ne false (by decide)] at hl; exact hl))), (Lk.over h.world.2.2.2.1 (by decide) (((hX.set2 _).c0).trans hX.c0.symm)), (Lk.over h.world.2.2.2.2.1 (by decide) (((hX.set2 _).c1).trans hX.c1.symm)), (Lk.hit f29 ((hX.set2 _).c2))⟩
  case hend =>
    intro listed a u h hall
    have hB : (fun W => ∃ x0 x1 x2, Bx W g 32 x0 x1 x2 (.slice A4 n4 c4) ∧ Wr (fun k => (0 < n1 ∧ A1 = some ⟨k, 0, none⟩) ∨ (0 < n2 ∧ A2 = some ⟨k, 0, none⟩) ∨ (0 < n3 ∧ A3 = some ⟨k, 0, none⟩) ∨ k = g) wq W) u := (Js.past (Js.past (Js.past (Js.past (Js.past (Js.past h.world.2.1 (hall 9 (by decide))) (hall 16 (by decide))) (hall 23 (by decide))) (hall 26 (by decide))) (hall 29 (by decide))) (hall 32 (by decide)))
    have hD := h.world.2.2.1 (hall 16 (by decide))
    obtain ⟨m15, hm15, hc15⟩ := h.world.2.2.2.1 (hall 26 (by decide))
    obtain ⟨m22, hm22, hc22⟩ := h.world.2.2.2.2.1 (hall 29 (by decide))
    obtain ⟨m29, hm29, hc29⟩ := h.world.2.2.2.2.2 (hall 32 (by decide))
    obtain ⟨v6, ev6, em6, F6⟩ := h.slot (i := 0) rfl rfl (hall 0 (by decide))
    have q6 := isE.out F6
    have f6 := em6.trans (congrArg some q6)
    clear ev6 em6 F6
    obtain ⟨v7, ev7, em7, F7⟩ := h.slot (i := 1) rfl rfl (hall 1 (by decide))
    have q7 := isE.out F7
    have f7 := em7.trans (congrArg some q7)
    clear ev7 em7 F7
    obtain ⟨v8, ev8, em8, F8⟩ := h.slot (i := 2) rfl rfl (hall 2 (by decide))
    have q8 := isE.out F8
    have f8 := em8.trans (congrArg some q8)
    clear ev8 em8 F8
    obtain ⟨v9, ev9, em9, F9⟩ := h.slot (i := 3) rfl rfl (hall 3 (by decide))
    have q9 := isE.out F9
    have f9 := em9.trans (congrArg some q9)
    clear ev9 em9 F9
    obtain ⟨v10, ev10, em10, F10⟩ := h.slot (i := 4) rfl rfl (hall 4 (by decide))
    have q10 := isE.out F10
    have f10 := em10.trans (congrArg some q10)
    clear ev10 em10 F10
    obtain ⟨v11, ev11, em11, F11⟩ := h.slot (i := 5) rfl rfl (hall 5 (by decide))
    have q11 := isE.out F11
    have f11 := em11.trans (congrArg some q11)
    clear ev11 em11 F11
    obtain ⟨v12, ev12, em12, F12⟩ := h.slot (i := 6) rfl rfl (hall 6 (by decide))
    have q12 := isE.out F12
    have f12 := em12.trans (congrArg some q12)
    clear ev12 em12 F12
    obtain ⟨v13, ev13, em13, F13⟩ := h.slot (i := 7) rfl rfl (hall 7 (by decide))
    have q13 := isE.out F13
    have f13 := em13.trans (congrArg some q13)
    clear ev13 em13 F13
    obtain ⟨v14, ev14, em14, F14⟩ := h.slot (i := 8) rfl rfl (hall 8 (by decide))
    obtain ⟨k14, q14, hk14, hT14⟩ : isN3 wq.heap.size 38 (.float .f32 p.x) (.float .f32 p.y) (.float .f32 p.z) v14 u := F14
    have f14 := em14.trans (congrArg some q14)
    clear ev14 em14
    obtain ⟨v15, ev15, em15, F15⟩ := h.slot (i := 9) rfl rfl (hall 9 (by decide))
    obtain ⟨A15, c15, q15, hs15, hl15⟩ : isLoc wq.heap.size M A1 n1 38 3 (n1 + 1) (vc (upd D.P n1 p)) v15 u := F15
    have f15 := em15.trans (congrArg some q15)
    clear ev15 em15
    obtain ⟨v16, ev16, em16, F16⟩ := h.slot (i := 10) rfl rfl (hall 10 (by decide))
    have q16 := isE.out F16
    have f16 := em16.trans (congrArg some q16)
    clear ev16 em16 F16
    obtain ⟨v17, ev17, em17, F17⟩ := h.slot (i := 11) rfl rfl (hall 11 (by decide))
    have q17 := isE.out F17
    have f17 := em17.trans (congrArg some q17)
    clear ev17 em17 F17
    obtain ⟨v18, ev18, em18, F18⟩ := h.slot (i := 12) rfl rfl (hall 12 (by decide))
    have q18 := isE.out F18
    have f18 := em18.trans (congrArg some q18)
    clear ev18 em18 F18
    obtain ⟨v19, ev19, em19, F19⟩ := h.slot (i := 13) rfl rfl (hall 13 (by decide))
    have q19 := isE.out F19
    have f19 := em19.trans (congrArg some q19)
    clear ev19 em19 F19
    obtain ⟨v20, ev20, em20, F20⟩ := h.slot (i := 14) rfl rfl (hall 14 (by decide))
    have q20 := isE.out F20
    have f20 := em20.trans (congrArg some q20)
    clear ev20 em20 F20
    obtain ⟨v21, ev21, em21, F21⟩ := h.slot (i := 15) rfl rfl (hall 15 (by decide))
    obtain ⟨k21, q21, hk21, hT21⟩ : isN3 wq.heap.size 38 (.float .f32 p.x) (.float .f32 p.y) (.float .f32 p.z) v21 u := F21
    have f21 := em21.trans (congrArg some q21)
    clear ev21 em21
    obtain ⟨v22, ev22, em22, F22⟩ := h.slot (i := 16) rfl rfl (hall 16 (by decide))
    obtain ⟨A22, c22, q22, hs22, hl22⟩ : isLoc wq.heap.size M A2 n2 38 3 (n2 + 1) (vc (upd D.B n2 p)) v22 u := F22
    have f22 := em22.trans (congrArg some q22)
    clear ev22 em22
    obtain ⟨v23, ev23, em23, F23⟩ := h.slot (i := 17) rfl rfl (hall 17 (by decide))
    have q23 := isE.out F23
    have f23 := em23.trans (congrArg some q23)
    clear ev23 em23 F23
    obtain ⟨v24, ev24, em24, F24⟩ := h.slot (i := 18) rfl rfl (hall 18 (by decide))
    have q24 := isE.out F24
    have f24 := em24.trans (congrArg some q24)
    clear ev24 em24 F24
    obtain ⟨v25, ev25, em25, F25⟩ := h.slot (i := 19) rfl rfl (hall 19 (by decide))
    have q25 := isE.out F25
    have f25 := em25.trans (congrArg some q25)
    clear ev25 em25 F25
    obtain ⟨v26, ev26, em26, F26⟩ := h.slot (i := 20) rfl rfl (hall 20 (by decide))
    have q26 := isE.out F26
    have f26 := em26.trans (congrArg some q26)
    clear ev26 em26 F26
    obtain ⟨v27, ev27, em27, F27⟩ := h.slot (i := 21) rfl rfl (hall 21 (by decide))
    have q27 := isE.out F27
    have f27 := em27.trans (congrArg some q27)
    clear ev27 em27 F27
    obtain ⟨v28, ev28, em28, F28⟩ := h.slot (i := 22) rfl rfl (hall 22 (by decide))
    obtain ⟨k28, q28, hk28, hT28⟩ : isN1 wq.heap.size 36 (.float .f32 x) v28 u := F28
    have f28 := em28.trans (congrArg some q28)
    clear ev28 em28
    obtain ⟨v29, ev29, em29, F29⟩ := h.slot (i := 23) rfl rfl (hall 23 (by decide))
    obtain ⟨A29, c29, q29, hs29, hl29⟩ : isLoc wq.heap.size M A3 n3 36 1 (n3 + 1) (fc (upd D.W n3 x)) v29 u := F29
    have f29 := em29.trans (congrArg some q29)
    clear ev29 em29
    obtain ⟨v30, ev30, em30, F30⟩ := h.slot (i := 24) rfl rfl (hall 24 (by decide))
    have q30 := isE.out F30
    have f30 := em30.trans (congrArg some q30)
    clear ev30 em30 F30
    obtain ⟨v31, ev31, em31, F31⟩ := h.slot (i := 25) rfl rfl (hall 25 (by decide))
    have q31 := isE.out F31
    have f31 := em31.trans (congrArg some q31)
    clear ev31 em31 F31
    obtain ⟨v32, ev32, em32, F32⟩ := h.slot (i := 27) rfl rfl (hall 27 (by decide))
    have q32 := isE.out F32
    have f32 := em32.trans (congrArg some q32)
    clear ev32 em32 F32
    obtain ⟨v33, ev33, em33, F33⟩ := h.slot (i := 28) rfl rfl (hall 28 (by decide))
    have q33 := isE.out F33
    have f33 := em33.trans (congrArg some q33)
    clear ev33 em33 F33
    obtain ⟨v34, ev34, em34, F34⟩ := h.slot (i := 30) rfl rfl (hall 30 (by decide))
    have q34 := isE.out F34
    have f34 := em34.trans (congrArg some q34)
    clear ev34 em34 F34
    obtain ⟨v35, ev35, em35, F35⟩ := h.slot (i := 31) rfl rfl (hall 31 (by decide))
    have q35 := isE.out F35
    have f35 := em35.trans (congrArg some q35)
    clear ev35 em35 F35
    obtain rfl : m15 = _ := Option.some.inj (hm15.symm.trans f15)
    obtain rfl : m22 = _ := Option.some.inj (hm22.symm.trans f22)
    obtain rfl : m29 = _ := Option.some.inj (hm29.symm.trans f29)
    have ha := h.act [6, 7, 8, 9, 10, 11, 12, 13, 14, 15, 16, 17, 18, 19, 20, 21, 22, 23, 24, 25, 26, 27, 28, 29, 30, 31, 32, 33, 34, 35] [_, _, _, _, _, _, _, _, _, _, _, _, _, _, _, _, _, _, _, _, _, _, _, _, _, _, _, _, _, _] (by kernel_rfl) ⟨f6, f7, f8, f9, f10, f11, f12, f13, f14, f15, f16, f17, f18, f19, f20, f21, f22, f23, f24, f25, f26, f27, f28, f29, f30, f31, f32, f33, f34, f35, trivial⟩
    have hne := fun k (y1 : A15 = some ⟨k, 0, none⟩) (y2 : A22 = some ⟨k, 0, none⟩) => hD k k c15 c22 (by rw [f15, y1]) (by rw [f22, y2]) (by omega) (by omega) rfl
    clear f6 f7 f8 f9 f10 f11 f12 f13 f14 f15 f16 f17 f18 f19 f20 f21 f22 f23 f24 f25 f26 f27 f28 f29 f30 f31 f32 f33 f34 f35
    simp only [setAll, List.setIfInBounds_toArray, List.set_cons_zero, List.set_cons_succ] at ha
    subst ha
    clear h hall
    obtain ⟨x0, x1, x2, hX, hW⟩ := hB
    obtain rfl := Option.some.inj (hX.c0.symm.trans hc15)
    obtain rfl := Option.some.inj (hX.c1.symm.trans hc22)
    obtain rfl := Option.some.inj (hX.c2.symm.trans hc29)
    have O5 : Own u M A15 A22 A29 A4 c15 c22 c29 c4 (n1 + 1) (n2 + 1) (n3 + 1) n4 (putD D n1 n2 n3 p x) :=
      ⟨hs15, hs22, hs29, HO.out.s4.wr hW (fun k e h0 y => by
        rcases y with y | y | y | y
        · exact HO.out.s1.ne_ HO.out.s4 (by decide) y.2 e y.1 h0
        · exact HO.out.s2.ne_ HO.out.s4 (by decide) y.2 e y.1 h0
        · exact HO.out.s3.ne_ HO.out.s4 (by decide) y.2 e y.1 h0
        · subst y
          exact HO.out.s4.chain HX.out (by decide) ⟨h0, e⟩), fun k y1 y2 _ _ => hne k y1 y2⟩
    have B5 : Below M w u := (HBQ.out.mono hM).trans (hW.below (by omega) (fun k hk y => by
      rcases y with y | y | y | y
      · have := (HO.out.s1.bd k y.2 y.1).1
        omega
      · have := (HO.out.s2.bd k y.2 y.1).1
        omega
      · have := (HO.out.s3.bd k y.2 y.1).1
        omega
      · omega))
    have XX := Lib.hid hX
    have OO := Lib.hid O5
    have BB := Lib.hid B5
    clear hX hW O5 B5 hne hs15 hs22 hs29 hl15 hl22 hl29 hc15 hc22 hc29 hD
    clear hm15 hm22 hm29
    go_wp2_with fail
    refine bodyPost_end (results_none rfl _ _ _) rfl ?_
    exact ⟨rfl, BB.out, _, _, _, _, _, _, XX.out, OO.out⟩
set_option maxHeartbeats 8000000 in
set_option maxRecDepth 100000 in
theorem spec_l03Put (g M : Nat) (A1 A2 A3 A4 : Option Addr) (c1 c2 c3 c4 n1 n2 n3 n4 : Nat) (D : D4) (p : V3) (x : Nat) (w : World) (hx : Bx w g 32 (.slice A1 n1 c1) (.slice A2 n2 c2) (.slice A3 n3 c3) (.slice A4 n4 c4)) (ho : Own w M A1 A2 A3 A4 c1 c2 c3 c4 n1 n2 n3 n4 D) (hz : Zc c1 c2 c3 c4 n1 n2 n3 n4) (hg : M ≤ g) (hM : M ≤ w.heap.size) (k1 : n1 ≤ 1048576) (k2 : n2 ≤ 1048576) (k3 : n3 ≤ 1048576) :
    Calls Try.prog 105 #[.pointer (some ⟨g, 0, none⟩), .agg #[.float .f32 p.x, .float .f32 p.y, .float .f32 p.z], .float .f32 x] w (RetPut g M A4 c4 (n1 + 1) (n2 + 1) (n3 + 1) n4 (putD D n1 n2 n3 p x) w) := by
  have HZ := Lib.hid hz
  clear hz
  obtain ⟨wq, hwq⟩ : ∃ wq : World, wq = w.alloc (.cells #[.float .f32 p.x, .float .f32 p.y, .float .f32 p.z] 38) := ⟨_, rfl⟩
  have hBq : Below w.heap.size w wq := by rw [hwq]; exact Below.alloc (Below.refl _ _) (Nat.le_refl _) _
  have hzq : wq.heap.size = w.heap.size + 1 := by rw [hwq]; simp
  have HX := Lib.hid (hx.go hBq)
  have HO := Lib.hid (ho.go hBq)
  have HT := Lib.hid (show Tx wq w.heap.size 38 (.float .f32 p.x) (.float .f32 p.y) (.float .f32 p.z) by rw [hwq]; exact Tx.new_ _ _ _ _ _)
  have HBQ := Lib.hid hBq
  have HL := Lib.hid ho.bds
  have hgl := hx.lt
  clear hx ho
  have hBM := hBq.mono hM
  have HBM := Lib.hid hBM
  clear hBM hBq
  go_enter Try.func105, Try.ntmps105
  have HG := Lib.hid (HO.out.s1.chain HX.out (by decide))
  have HS := Lib.hid (fun (k : Nat) (y : 0 < n1 ∧ A1 = some ⟨k, 0, none⟩) => (HO.out.s1.bd k y.2 y.1).2)
  have hw0 : Below wq.heap.size wq wq.drew := (Below.refl _ _).drew
  go_upto_region 1 with fail
  rw [← hwq]
  clear hwq HBQ
  refine region_inv3 [fun v _ => isE (.pointer (some ⟨g, 0, none⟩)) v, fun v _ => isE (.pointer (some ⟨g, 0, none⟩)) v, fun v _ => isE (.pointer (some ⟨g, 0, none⟩)) v, fun v _ => isE (.pointer (some ⟨g, 0, none⟩)) v, fun v _ => isE (.slice A1 n1 c1) v, fun v _ => isE (.agg #[.float .f32 p.x, .float .f32 p.y, .float .f32 p.z]) v, isN3 wq.heap.size 38 (.float .f32 p.x) (.float .f32 p.y) (.float .f32 p.z), isLoc wq.heap.size M A1 n1 38 3 (n1 + 1) (vc (upd D.P n1 p)), fun v _ => isE (.pointer (some ⟨g, 0, none⟩)) v, fun v _ => isE (.pointer (some ⟨g, 0, none⟩)) v, fun _ _ => True] (fun l _ W => Js [(7, fun W => Wr (fun k => 0 < n1 ∧ A1 = some ⟨k, 0, none⟩) wq W), (10, fun W => ∃ W5 A5 c5, Wr (fun k => 0 < n1 ∧ A1 = some ⟨k, 0, none⟩) wq W5 ∧ Sl W5 M 38 3 A5 (n1 + 1) c5 (vc (upd D.P n1 p)) ∧ (∀ k, A5 = some ⟨k, 0, none⟩ → (0 < n1 ∧ A1 = some ⟨k, 0, none⟩) ∨ wq.heap.size ≤ k) ∧ W = W5.setCell ⟨g, 0, none⟩ (.slice A5 (n1 + 1) c5))] (fun W => Below wq.heap.size wq W) l W) (by kernel_rfl) (by kernel_rfl) (by kernel_rfl) (Js.first hw0) ⟨?r0, ?r1, ?r2, ?r3, ?r4, ?r5, ?r6, ?r7, ?r8, ?r9, ?r10, trivial⟩ ?hend
  case r0 =>
    intro listed a u h hu hd K hK
    have e0 : a.tmps.getD 0 undef = .pointer (some ⟨g, 0, none⟩) := h.base (by kernel_rfl)
    have f0 : a.tmps[0]? = some (.pointer (some ⟨g, 0, none⟩)) := h.old (by kernel_rfl)
    rw [if_pos (by rfl)]
    go_simp
    exact hK _ _ (fun _ _ _ h => h) (isE.mk rfl) (Js.neutral h.world rfl)
  case r1 =>
    intro listed a u h hu hd K hK
    have e0 : a.tmps.getD 0 undef = .pointer (some ⟨g, 0, none⟩) := h.base (by kernel_rfl)
    have f0 : a.tmps[0]? = some (.pointer (some ⟨g, 0, none⟩)) := h.old (by kernel_rfl)
    rw [if_pos (by rfl)]
    go_simp
    exact hK _ _ (fun _ _ _ h => h) (isE.mk rfl) (Js.neutral h.world rfl)
  case r2 =>
    intro listed a u h hu hd K hK
    obtain ⟨v7, ev7, em7, F7⟩ := h.slot (i := 1) rfl rfl (hd _ (Array.mem_of_getElem? (i := 0) rfl) rfl)
    have q7 := isE.out F7
    have e7 := ev7.trans q7
    have f7 := em7.trans (congrArg some q7)
    clear ev7 em7 F7
    rw [if_pos (by rfl)]
    go_simp
    exact hK _ _ (fun _ _ _ h => h) (isE.mk rfl) (Js.neutral h.world rfl)
  case r3 =>
    intro listed a u h hu hd K hK
    obtain ⟨v8, ev8, em8, F8⟩ := h.slot (i := 2) rfl rfl (hd _ (Array.mem_of_getElem? (i := 0) rfl) rfl)
    have q8 := isE.out F8
    have e8 := ev8.trans q8
    have f8 := em8.trans (congrArg some q8)
    clear ev8 em8 F8
    rw [if_pos (by rfl)]
    go_simp
    exact hK _ _ (fun _ _ _ h => h) (isE.mk rfl) (Js.neutral h.world rfl)
  case r4 =>
    intro listed a u h hu hd K hK
    have hw := (RI3.wait' h (getD_un hu) (T := 7) rfl (Array.mem_of_getElem? (i := 0) rfl) rfl rfl)
    have hA := Js.now h.world hw
    obtain ⟨v9, ev9, em9, F9⟩ := h.slot (i := 3) rfl rfl (hd _ (Array.mem_of_getElem? (i := 0) rfl) rfl)
    have q9 := isE.out F9
    have e9 := ev9.trans q9
    have f9 := em9.trans (congrArg some q9)
    clear ev9 em9 F9
    rw [if_pos (by rfl)]
    obtain ⟨g0, g1, g2, g3, gf⟩ := (HX.out.go hA).facts
    obtain ⟨t0_, t1_, t2_, tf_⟩ := (HT.out.go hA).facts
    go_simp
    exact hK _ _ (fun _ _ _ h => h) (isE.mk rfl) (Js.stay hw (by decide) (hA))
  case r5 =>
    intro listed a u h hu hd K hK
    have hw := (RI3.wait' h (RI3.wait' h (getD_un hu) (T := 6) rfl (Array.mem_of_getElem? (i := 0) rfl) rfl rfl) (T := 7) rfl (Array.mem_of_getElem? (i := 1) rfl) rfl rfl)
    have hA := Js.now h.world hw
    have e4 : a.tmps.getD 4 undef = .pointer (some ⟨w.heap.size, 0, none⟩) := h.base (by kernel_rfl)
    have f4 : a.tmps[4]? = some (.pointer (some ⟨w.heap.size, 0, none⟩)) := h.old (by kernel_rfl)
    rw [if_pos (by rfl)]
    obtain ⟨g0, g1, g2, g3, gf⟩ := (HX.out.go hA).facts
    obtain ⟨t0_, t1_, t2_, tf_⟩ := (HT.out.go hA).facts
    go_simp
    exact hK _ _ (fun _ _ _ h => h) (isE.mk rfl) (Js.stay hw (by decide) (hA))
  case r6 =>
    intro listed a u h hu hd K hK
    have hw := (RI3.wait' h (getD_un hu) (T := 7) rfl (Array.mem_of_getElem? (i := 1) rfl) rfl rfl)
    have hA := Js.now h.world hw
    obtain ⟨v11, ev11, em11, F11⟩ := h.slot (i := 5) rfl rfl (hd _ (Array.mem_of_getElem? (i := 0) rfl) rfl)
    have q11 := isE.out F11
    have e11 := ev11.trans q11
    have f11 := em11.trans (congrArg some q11)
    clear ev11 em11 F11
    rw [if_pos (by rfl)]
    go_simp
    have hR : Wr (fun _ => False) u (u.alloc (.cells #[.float .f32 p.x, .float .f32 p.y, .float .f32 p.z] 38)) := (Wr.refl _ _).alloc _
    exact hK _ _ (fun j v hn hF => AllStX.fact0 (R := fun W W2 => Wr (fun _ => False) W W2) (i := 6) (by exact ⟨fun _ _ _ _ _ h => h, fun _ _ _ _ _ h => h, fun _ _ _ _ _ h => h, fun _ _ _ _ _ h => h, fun _ _ _ _ _ h => h, fun _ _ _ _ _ h => h, fun hn => absurd rfl hn, fun _ _ _ _ hW h => isLoc.wr h hW (fun _ h => h.elim) (fun _ _ _ h => h), fun _ _ _ _ _ h => h, fun _ _ _ _ _ h => h, fun _ _ _ _ _ h => h, trivial⟩) hR j v hn hF) ⟨_, rfl, hA.size, Tx.new_ _ _ _ _ _⟩ (Js.stay hw (by decide) (Below.alloc hA hA.size _))
  case r7 =>
    intro listed a u h hu hd K hK
    have hw := getD_un hu
    have hA := Js.now h.world hw
    obtain ⟨v10, ev10, em10, F10⟩ := h.slot (i := 4) rfl rfl (hd _ (Array.mem_of_getElem? (i := 0) rfl) rfl)
    have q10 := isE.out F10
    have e10 := ev10.trans q10
    have f10 := em10.trans (congrArg some q10)
    clear ev10 em10 F10
    obtain ⟨v12, ev12, em12, F12⟩ := h.slot (i := 6) rfl rfl (hd _ (Array.mem_of_getElem? (i := 1) rfl) rfl)
    obtain ⟨k12, q12, hk12, hT12⟩ : isN3 wq.heap.size 38 (.float .f32 p.x) (.float .f32 p.y) (.float .f32 p.z) v12 u := F12
    have e12 := ev12.trans q12
    have f12 := em12.trans (congrArg some q12)
    clear ev12 em12
    rw [if_pos (by rfl)]
    have hw2 := (RI3.wait' h (getD_un hu) (T := 10) rfl (Array.mem_of_getElem? (i := 1) rfl) rfl rfl)
    obtain ⟨i0, hi, hz0, hz1, hz2⟩ := info_parts infoV
    refine wp_app (.tmp 10) (.tmp 12) 29 rfl 38 i0 _ 3 12 Try.underlying29 hi hz0 hz1 hz2 rfl (by decide) A1 n1 c1 M (vc D.P) e10 (HO.out.s1.go hA) HZ.out.1 (Nat.le_trans (by omega) hA.size) ⟨k12, 0, none⟩ 1 1 (vc (fun _ => p)) e12 (new3_vc _ _ 38 p hT12) (vc_one _) (by decide) (by simp only [maxLen]; omega) (by omega) ?_
    intro A6 c6 u2 hs2 hR hl2
    exact hK _ _ (fun j v hn hF => AllStX.fact0 (R := fun W W2 => Wr (fun k => 0 < n1 ∧ A1 = some ⟨k, 0, none⟩) W W2) (i := 7) (by exact ⟨fun _ _ _ _ _ h => h, fun _ _ _ _ _ h => h, fun _ _ _ _ _ h => h, fun _ _ _ _ _ h => h, fun _ _ _ _ _ h => h, fun _ _ _ _ _ h => h, fun _ _ _ _ hW h => isN3.wr h hW (HS.out), fun hn => absurd rfl hn, fun _ _ _ _ _ h => h, fun _ _ _ _ _ h => h, fun _ _ _ _ _ h => h, trivial⟩) hR j v hn hF) ⟨A6, c6, rfl, hs2.congr (app_vc D.P n1 p), fun k hk => (hl2 k hk).imp id (fun h => Nat.le_trans hA.size h)⟩ (Js.hit (un_lt hu) (Js.stay hw2 (by decide) ((Wr.of_go hA _).trans hR)))
  case r8 =>
    intro listed a u h hu hd K hK
    obtain ⟨v6, ev6, em6, F6⟩ := h.slot (i := 0) rfl rfl (hd _ (Array.mem_of_getElem? (i := 0) rfl) rfl)
    have q6 := isE.out F6
    have e6 := ev6.trans q6
    have f6 := em6.trans (congrArg some q6)
    clear ev6 em6 F6
    rw [if_pos (by rfl)]
    go_simp
    exact hK _ _ (fun _ _ _ h => h) (isE.mk rfl) (Js.neutral h.world rfl)
  case r9 =>
    intro listed a u h hu hd K hK
    obtain ⟨v14, ev14, em14, F14⟩ := h.slot (i := 8) rfl rfl (hd _ (Array.mem_of_getElem? (i := 0) rfl) rfl)
    have q14 := isE.out F14
    have e14 := ev14.trans q14
    have f14 := em14.trans (congrArg some q14)
    clear ev14 em14 F14
    rw [if_pos (by rfl)]
    go_simp
    exact hK _ _ (fun _ _ _ h => h) (isE.mk rfl) (Js.neutral h.world rfl)
  case r10 =>
    intro listed a u h hu hd K hK
    have hl0 : listed.getD 7 false = true := hd _ (Array.mem_of_getElem? (i := 1) rfl) rfl
    have hw := getD_un hu
    have hA := Js.now (Js.past h.world hl0) hw
    obtain ⟨v15, ev15, em15, F15⟩ := h.slot (i := 9) rfl rfl (hd _ (Array.mem_of_getElem? (i := 0) rfl) rfl)
    have q15 := isE.out F15
    have e15 := ev15.trans q15
    have f15 := em15.trans (congrArg some q15)
    clear ev15 em15 F15
    obtain ⟨v13, ev13, em13, F13⟩ := h.slot (i := 7) rfl rfl (hd _ (Array.mem_of_getElem? (i := 1) rfl) rfl)
    obtain ⟨A13, c13, q13, hs13, hl13⟩ : isLoc wq.heap.size M A1 n1 38 3 (n1 + 1) (vc (upd D.P n1 p)) v13 u := F13
    have e13 := ev13.trans q13
    have f13 := em13.trans (congrArg some q13)
    clear ev13 em13
    rw [if_pos (by rfl)]
    obtain ⟨g0, g1, g2, g3, gf⟩ := (HX.out.wr hA HG.out).facts
    have lg := (HX.out.wr hA HG.out).lt
    go_simp
    have hR := Wr.set1 u g 0 (.slice A13 (n1 + 1) c13)
    exact hK undef _ (fun j v hn hF => AllStX.fact0 (R := fun W W2 => Wr (fun k => k = g) W W2) (i := 10) (by exact ⟨fun _ _ _ _ _ h => h, fun _ _ _ _ _ h => h, fun _ _ _ _ _ h => h, fun _ _ _ _ _ h => h, fun _ _ _ _ _ h => h, fun _ _ _ _ _ h => h, fun _ _ _ _ hW h => isN3.wr h hW (fun k e => by rw [e]; exact HX.out.lt), fun _ _ _ _ hW h => isLoc.wr h hW (fun k e => by rw [e]; exact HX.out.lt) (fun k h0 e e2 => HG.out ⟨h0, by rw [e, e2]⟩), fun _ _ _ _ _ h => h, fun _ _ _ _ _ h => h, fun hn => absurd rfl hn, trivial⟩) hR j v hn hF) trivial (Js.keep hl0 (Js.hit (un_lt hu) (Js.nil (⟨u, A13, c13, hA, hs13, hl13, rfl⟩))))
  case hend =>
    intro listed a u h hall
    have hB : (fun W => ∃ W5 A5 c5, Wr (fun k => 0 < n1 ∧ A1 = some ⟨k, 0, none⟩) wq W5 ∧ Sl W5 M 38 3 A5 (n1 + 1) c5 (vc (upd D.P n1 p)) ∧ (∀ k, A5 = some ⟨k, 0, none⟩ → (0 < n1 ∧ A1 = some ⟨k, 0, none⟩) ∨ wq.heap.size ≤ k) ∧ W = W5.setCell ⟨g, 0, none⟩ (.slice A5 (n1 + 1) c5)) u := (Js.past (Js.past h.world (hall 7 (by decide))) (hall 10 (by decide)))
    obtain ⟨v6, ev6, em6, F6⟩ := h.slot (i := 0) rfl rfl (hall 0 (by decide))
    have q6 := isE.out F6
    have f6 := em6.trans (congrArg some q6)
    clear ev6 em6 F6
    obtain ⟨v7, ev7, em7, F7⟩ := h.slot (i := 1) rfl rfl (hall 1 (by decide))
    have q7 := isE.out F7
    have f7 := em7.trans (congrArg some q7)
    clear ev7 em7 F7
    obtain ⟨v8, ev8, em8, F8⟩ := h.slot (i := 2) rfl rfl (hall 2 (by decide))
    have q8 := isE.out F8
    have f8 := em8.trans (congrArg some q8)
    clear ev8 em8 F8
    obtain ⟨v9, ev9, em9, F9⟩ := h.slot (i := 3) rfl rfl (hall 3 (by decide))
    have q9 := isE.out F9
    have f9 := em9.trans (congrArg some q9)
    clear ev9 em9 F9
    obtain ⟨v10, ev10, em10, F10⟩ := h.slot (i := 4) rfl rfl (hall 4 (by decide))
    have q10 := isE.out F10
    have f10 := em10.trans (congrArg some q10)
    clear ev10 em10 F10
    obtain ⟨v11, ev11, em11, F11⟩ := h.slot (i := 5) rfl rfl (hall 5 (by decide))
    have q11 := isE.out F11
    have f11 := em11.trans (congrArg some q11)
    clear ev11 em11 F11
    obtain ⟨v12, ev12, em12, F12⟩ := h.slot (i := 6) rfl rfl (hall 6 (by decide))
    obtain ⟨k12, q12, hk12, hT12⟩ : isN3 wq.heap.size 38 (.float .f32 p.x) (.float .f32 p.y) (.float .f32 p.z) v12 u := F12
    have f12 := em12.trans (congrArg some q12)
    clear ev12 em12
    obtain ⟨v13, ev13, em13, F13⟩ := h.slot (i := 7) rfl rfl (hall 7 (by decide))
    obtain ⟨A13, c13, q13, hs13, hl13⟩ : isLoc wq.heap.size M A1 n1 38 3 (n1 + 1) (vc (upd D.P n1 p)) v13 u := F13
    have f13 := em13.trans (congrArg some q13)
    clear ev13 em13
    obtain ⟨v14, ev14, em14, F14⟩ := h.slot (i := 8) rfl rfl (hall 8 (by decide))
    have q14 := isE.out F14
    have f14 := em14.trans (congrArg some q14)
    clear ev14 em14 F14
    obtain ⟨v15, ev15, em15, F15⟩ := h.slot (i := 9) rfl rfl (hall 9 (by decide))
    have q15 := isE.out F15
    have f15 := em15.trans (congrArg some q15)
    clear ev15 em15 F15
    have ha := h.act [6, 7, 8, 9, 10, 11, 12, 13, 14, 15] [_, _, _, _, _, _, _, _, _, _] (by kernel_rfl) ⟨f6, f7, f8, f9, f10, f11, f12, f13, f14, f15, trivial⟩
    clear f6 f7 f8 f9 f10 f11 f12 f13 f14 f15
    simp only [setAll, List.setIfInBounds_toArray, List.set_cons_zero, List.set_cons_succ] at ha
    subst ha
    clear h hall
    obtain ⟨W5, N1, q1, hw5, hs5, hl5, hwr⟩ := hB
    have X5 := HX.out.wr hw5 HG.out
    have O5 := HO.out.app1 hw5 hs5 hl5
    have y5 := hw5.size
    have T5 := HT.out.wr hw5 (fun y => by have := (HL.out.b1 _ y.2 y.1).2; omega)
    have b5 := HBM.out.trans (hw5.below (by omega) (fun k hk y => by have := (HL.out.b1 _ y.2 y.1).1; omega))
    obtain ⟨wr0, hwr0⟩ : ∃ z : World, z = u := ⟨u, rfl⟩
    rw [← hwr0]
    rw [← hwr0] at hwr
    have X6 := Lib.hid (show Bx wr0 g 32 (.slice N1 (n1 + 1) q1) (.slice A2 n2 c2) (.slice A3 n3 c3) (.slice A4 n4 c4) by rw [hwr]; exact X5.set0 _)
    have O6 := Lib.hid (show Own wr0 M N1 A2 A3 A4 q1 c2 c3 c4 (n1 + 1) n2 n3 n4 ⟨upd D.P n1 p, D.B, D.W, D.R⟩ by rw [hwr]; exact O5.off X5 (Wr.set1 _ _ _ _))
    have T6 := Lib.hid (show Tx wr0 w.heap.size 38 (.float .f32 p.x) (.float .f32 p.y) (.float .f32 p.z) by rw [hwr]; exact T5.far (by simp; omega) _)
    have B6 := Lib.hid (show Below M w wr0 by rw [hwr]; exact b5.setCell hg _)
    have z0 : w.heap.size + 1 ≤ wr0.heap.size := by rw [hwr]; simp [World.setCell]; omega
    clear hwr hwr0 hw5 hs5 hl5 X5 O5 y5 T5 b5 HX HO HT HBM HS HG hw0 q6 q7 q8 q9 q10 q11 q14 q15 hs13 hl13 q13 hT12 hk12 q12
    have HX := X6
    have HO := O6
    have HT := T6
    have HBM := B6
    clear X6 O6 T6 B6
    have HG := Lib.hid (HO.out.s2.chain HX.out (by decide))
    have HS := Lib.hid (fun (k : Nat) (y : 0 < n2 ∧ A2 = some ⟨k, 0, none⟩) => (HO.out.s2.bd k y.2 y.1).2)
    have hw0 : Below wr0.heap.size wr0 wr0.drew := (Below.refl _ _).drew
    go_upto_region 2 with fail
    refine region_inv3 [fun v _ => isE (.pointer (some ⟨g, 0, none⟩)) v, fun v _ => isE (.pointer (some ⟨g, 0, none⟩)) v, fun v _ => isE (.pointer (some ⟨g, 0, none⟩)) v, fun v _ => isE (.pointer (some ⟨g, 1, none⟩)) v, fun v _ => isE (.slice A2 n2 c2) v, fun v _ => isE (.agg #[.float .f32 p.x, .float .f32 p.y, .float .f32 p.z]) v, isN3 wr0.heap.size 38 (.float .f32 p.x) (.float .f32 p.y) (.float .f32 p.z), isLoc wr0.heap.size M A2 n2 38 3 (n2 + 1) (vc (upd D.B n2 p)), fun v _ => isE (.pointer (some ⟨g, 0, none⟩)) v, fun v _ => isE (.pointer (some ⟨g, 1, none⟩)) v, fun _ _ => True] (fun l _ W => Js [(7, fun W => Wr (fun k => 0 < n2 ∧ A2 = some ⟨k, 0, none⟩) wr0 W), (10, fun W => ∃ W5 A5 c5, Wr (fun k => 0 < n2 ∧ A2 = some ⟨k, 0, none⟩) wr0 W5 ∧ Sl W5 M 38 3 A5 (n2 + 1) c5 (vc (upd D.B n2 p)) ∧ (∀ k, A5 = some ⟨k, 0, none⟩ → (0 < n2 ∧ A2 = some ⟨k, 0, none⟩) ∨ wr0.heap.size ≤ k) ∧ W = W5.setCell ⟨g, 1, none⟩ (.slice A5 (n2 + 1) c5))] (fun W => Below wr0.heap.size wr0 W) l W) (by kernel_rfl) (by kernel_rfl) (by kernel_rfl) (Js.first hw0) ⟨?r0, ?r1, ?r2, ?r3, ?r4, ?r5, ?r6, ?r7, ?r8, ?r9, ?r10, trivial⟩ ?hend
    case r0 =>
      intro listed a u h hu hd K hK
      have e0 : a.tmps.getD 0 undef = .pointer (some ⟨g, 0, none⟩) := h.base (by kernel_rfl)
      have f0 : a.tmps[0]? = some (.pointer (some ⟨g, 0, none⟩)) := h.old (by kernel_rfl)
      rw [if_pos (by rfl)]
      go_simp
      exact hK _ _ (fun _ _ _ h => h) (isE.mk rfl) (Js.neutral h.world rfl)
    case r1 =>
      intro listed a u h hu hd K hK
      have e0 : a.tmps.getD 0 undef = .pointer (some ⟨g, 0, none⟩) := h.base (by kernel_rfl)
      have f0 : a.tmps[0]? = some (.pointer (some ⟨g, 0, none⟩)) := h.old (by kernel_rfl)
      rw [if_pos (by rfl)]
      go_simp
      exact hK _ _ (fun _ _ _ h => h) (isE.mk rfl) (Js.neutral h.world rfl)
    case r2 =>
      intro listed a u h hu hd K hK
      obtain ⟨v17, ev17, em17, F17⟩ := h.slot (i := 1) rfl rfl (hd _ (Array.mem_of_getElem? (i := 0) rfl) rfl)
      have q17 := isE.out F17
      have e17 := ev17.trans q17
      have f17 := em17.trans (congrArg some q17)
      clear ev17 em17 F17
      rw [if_pos (by rfl)]
      go_simp
      exact hK _ _ (fun _ _ _ h => h) (isE.mk rfl) (Js.neutral h.world rfl)
    case r3 =>
      intro listed a u h hu hd K hK
      obtain ⟨v18, ev18, em18, F18⟩ := h.slot (i := 2) rfl rfl (hd _ (Array.mem_of_getElem? (i := 0) rfl) rfl)
      have q18 := isE.out F18
      have e18 := ev18.trans q18
      have f18 := em18.trans (congrArg some q18)
      clear ev18 em18 F18
      rw [if_pos (by rfl)]
      go_simp
      exact hK _ _ (fun _ _ _ h => h) (isE.mk rfl) (Js.neutral h.world rfl)
    case r4 =>
      intro listed a u h hu hd K hK
      have hw := (RI3.wait' h (getD_un hu) (T := 7) rfl (Array.mem_of_getElem? (i := 0) rfl) rfl rfl)
      have hA := Js.now h.world hw
      obtain ⟨v19, ev19, em19, F19⟩ := h.slot (i := 3) rfl rfl (hd _ (Array.mem_of_getElem? (i := 0) rfl) rfl)
      have q19 := isE.out F19
      have e19 := ev19.trans q19
      have f19 := em19.trans (congrArg some q19)
      clear ev19 em19 F19
      rw [if_pos (by rfl)]
      obtain ⟨g0, g1, g2, g3, gf⟩ := (HX.out.go hA).facts
      obtain ⟨t0_, t1_, t2_, tf_⟩ := (HT.out.go hA).facts
      go_simp
      exact hK _ _ (fun _ _ _ h => h) (isE.mk rfl) (Js.stay hw (by decide) (hA))
    case r5 =>
      intro listed a u h hu hd K hK
      have hw := (RI3.wait' h (RI3.wait' h (getD_un hu) (T := 6) rfl (Array.mem_of_getElem? (i := 0) rfl) rfl rfl) (T := 7) rfl (Array.mem_of_getElem? (i := 1) rfl) rfl rfl)
      have hA := Js.now h.world hw
      have e4 : a.tmps.getD 4 undef = .pointer (some ⟨w.heap.size, 0, none⟩) := h.base (by kernel_rfl)
      have f4 : a.tmps[4]? = some (.pointer (some ⟨w.heap.size, 0, none⟩)) := h.old (by kernel_rfl)
      rw [if_pos (by rfl)]
      obtain ⟨g0, g1, g2, g3, gf⟩ := (HX.out.go hA).facts
      obtain ⟨t0_, t1_, t2_, tf_⟩ := (HT.out.go hA).facts
      go_simp
      exact hK _ _ (fun _ _ _ h => h) (isE.mk rfl) (Js.stay hw (by decide) (hA))
    case r6 =>
      intro listed a u h hu hd K hK
      have hw := (RI3.wait' h (getD_un hu) (T := 7) rfl (Array.mem_of_getElem? (i := 1) rfl) rfl rfl)
      have hA := Js.now h.world hw
      obtain ⟨v21, ev21, em21, F21⟩ := h.slot (i := 5) rfl rfl (hd _ (Array.mem_of_getElem? (i := 0) rfl) rfl)
      have q21 := isE.out F21
      have e21 := ev21.trans q21
      have f21 := em21.trans (congrArg some q21)
      clear ev21 em21 F21
      rw [if_pos (by rfl)]
      go_simp
      have hR : Wr (fun _ => False) u (u.alloc (.cells #[.float .f32 p.x, .float .f32 p.y, .float .f32 p.z] 38)) := (Wr.refl _ _).alloc _
      exact hK _ _ (fun j v hn hF => AllStX.fact0 (R := fun W W2 => Wr (fun _ => False) W W2) (i := 6) (by exact ⟨fun _ _ _ _ _ h => h, fun _ _ _ _ _ h => h, fun _ _ _ _ _ h => h, fun _ _ _ _ _ h => h, fun _ _ _ _ _ h => h, fun _ _ _ _ _ h => h, fun hn => absurd rfl hn, fun _ _ _ _ hW h => isLoc.wr h hW (fun _ h => h.elim) (fun _ _ _ h => h), fun _ _ _ _ _ h => h, fun _ _ _ _ _ h => h, fun _ _ _ _ _ h => h, trivial⟩) hR j v hn hF) ⟨_, rfl, hA.size, Tx.new_ _ _ _ _ _⟩ (Js.stay hw (by decide) (Below.alloc hA hA.size _))
    case r7 =>
      intro listed a u h hu hd K hK
      have hw := getD_un hu
      have hA := Js.now h.world hw
      obtain ⟨v20, ev20, em20, F20⟩ := h.slot (i := 4) rfl rfl (hd _ (Array.mem_of_getElem? (i := 0) rfl) rfl)
      have q20 := isE.out F20
      have e20 := ev20.trans q20
      have f20 := em20.trans (congrArg some q20)
      clear ev20 em20 F20
      obtain ⟨v22, ev22, em22, F22⟩ := h.slot (i := 6) rfl rfl (hd _ (Array.mem_of_getElem? (i := 1) rfl) rfl)
      obtain ⟨k22, q22, hk22, hT22⟩ : isN3 wr0.heap.size 38 (.float .f32 p.x) (.float .f32 p.y) (.float .f32 p.z) v22 u := F22
      have e22 := ev22.trans q22
      have f22 := em22.trans (congrArg some q22)
      clear ev22 em22
      rw [if_pos (by rfl)]
      have hw2 := (RI3.wait' h (getD_un hu) (T := 10) rfl (Array.mem_of_getElem? (i := 1) rfl) rfl rfl)
      obtain ⟨i0, hi, hz0, hz1, hz2⟩ := info_parts infoV
      refine wp_app (.tmp 20) (.tmp 22) 29 rfl 38 i0 _ 3 12 Try.underlying29 hi hz0 hz1 hz2 rfl (by decide) A2 n2 c2 M (vc D.B) e20 (HO.out.s2.go hA) HZ.out.2.1 (Nat.le_trans (by omega) hA.size) ⟨k22, 0, none⟩ 1 1 (vc (fun _ => p)) e22 (new3_vc _ _ 38 p hT22) (vc_one _) (by decide) (by simp only [maxLen]; omega) (by omega) ?_
      intro A6 c6 u2 hs2 hR hl2
      exact hK _ _ (fun j v hn hF => AllStX.fact0 (R := fun W W2 => Wr (fun k => 0 < n2 ∧ A2 = some ⟨k, 0, none⟩) W W2) (i := 7) (by exact ⟨fun _ _ _ _ _ h => h, fun _ _ _ _ _ h => h, fun _ _ _ _ _ h => h, fun _ _ _ _ _ h => h, fun _ _ _ _ _ h => h, fun _ _ _ _ _ h => h, fun _ _ _ _ hW h => isN3.wr h hW (HS.out), fun hn => absurd rfl hn, fun _ _ _ _ _ h => h, fun _ _ _ _ _ h => h, fun _ _ _ _ _ h => h, trivial⟩) hR j v hn hF) ⟨A6, c6, rfl, hs2.congr (app_vc D.B n2 p), fun k hk => (hl2 k hk).imp id (fun h => Nat.le_trans hA.size h)⟩ (Js.hit (un_lt hu) (Js.stay hw2 (by decide) ((Wr.of_go hA _).trans hR)))
    case r8 =>
      intro listed a u h hu hd K hK
      obtain ⟨v16, ev16, em16, F16⟩ := h.slot (i := 0) rfl rfl (hd _ (Array.mem_of_getElem? (i := 0) rfl) rfl)
      have q16 := isE.out F16
      have e16 := ev16.trans q16
      have f16 := em16.trans (congrArg some q16)
      clear ev16 em16 F16
      rw [if_pos (by rfl)]
      go_simp
      exact hK _ _ (fun _ _ _ h => h) (isE.mk rfl) (Js.neutral h.world rfl)
    case r9 =>
      intro listed a u h hu hd K hK
      obtain ⟨v24, ev24, em24, F24⟩ := h.slot (i := 8) rfl rfl (hd _ (Array.mem_of_getElem? (i := 0) rfl) rfl)
      have q24 := isE.out F24
      have e24 := ev24.trans q24
      have f24 := em24.trans (congrArg some q24)
      clear ev24 em24 F24
      rw [if_pos (by rfl)]
      go_simp
      exact hK _ _ (fun _ _ _ h => h) (isE.mk rfl) (Js.neutral h.world rfl)
    case r10 =>
      intro listed a u h hu hd K hK
      have hl0 : listed.getD 7 false = true := hd _ (Array.mem_of_getElem? (i := 1) rfl) rfl
      have hw := getD_un hu
      have hA := Js.now (Js.past h.world hl0) hw
      obtain ⟨v25, ev25, em25, F25⟩ := h.slot (i := 9) rfl rfl (hd _ (Array.mem_of_getElem? (i := 0) rfl) rfl)
      have q25 := isE.out F25
      have e25 := ev25.trans q25
      have f25 := em25.trans (congrArg some q25)
      clear ev25 em25 F25
      obtain ⟨v23, ev23, em23, F23⟩ := h.slot (i := 7) rfl rfl (hd _ (Array.mem_of_getElem? (i := 1) rfl) rfl)
      obtain ⟨A23, c23, q23, hs23, hl23⟩ : isLoc wr0.heap.size M A2 n2 38 3 (n2 + 1) (vc (upd D.B n2 p)) v23 u := F23
      have e23 := ev23.trans q23
      have f23 := em23.trans (congrArg some q23)
      clear ev23 em23
      rw [if_pos (by rfl)]
      obtain ⟨g0, g1, g2, g3, gf⟩ := (HX.out.wr hA HG.out).facts
      have lg := (HX.out.wr hA HG.out).lt
      go_simp
      have hR := Wr.set1 u g 1 (.slice A23 (n2 + 1) c23)
      exact hK undef _ (fun j v hn hF => AllStX.fact0 (R := fun W W2 => Wr (fun k => k = g) W W2) (i := 10) (by exact ⟨fun _ _ _ _ _ h => h, fun _ _ _ _ _ h => h, fun _ _ _ _ _ h => h, fun _ _ _ _ _ h => h, fun _ _ _ _ _ h => h, fun _ _ _ _ _ h => h, fun _ _ _ _ hW h => isN3.wr h hW (fun k e => by rw [e]; exact HX.out.lt), fun _ _ _ _ hW h => isLoc.wr h hW (fun k e => by rw [e]; exact HX.out.lt) (fun k h0 e e2 => HG.out ⟨h0, by rw [e, e2]⟩), fun _ _ _ _ _ h => h, fun _ _ _ _ _ h => h, fun hn => absurd rfl hn, trivial⟩) hR j v hn hF) trivial (Js.keep hl0 (Js.hit (un_lt hu) (Js.nil (⟨u, A23, c23, hA, hs23, hl23, rfl⟩))))
    case hend =>
      intro listed a u h hall
      have hB : (fun W => ∃ W5 A5 c5, Wr (fun k => 0 < n2 ∧ A2 = some ⟨k, 0, none⟩) wr0 W5 ∧ Sl W5 M 38 3 A5 (n2 + 1) c5 (vc (upd D.B n2 p)) ∧ (∀ k, A5 = some ⟨k, 0, none⟩ → (0 < n2 ∧ A2 = some ⟨k, 0, none⟩) ∨ wr0.heap.size ≤ k) ∧ W = W5.setCell ⟨g, 1, none⟩ (.slice A5 (n2 + 1) c5)) u := (Js.past (Js.past h.world (hall 7 (by decide))) (hall 10 (by decide)))
      obtain ⟨v16, ev16, em16, F16⟩ := h.slot (i := 0) rfl rfl (hall 0 (by decide))
      have q16 := isE.out F16
      have f16 := em16.trans (congrArg some q16)
      clear ev16 em16 F16
      obtain ⟨v17, ev17, em17, F17⟩ := h.slot (i := 1) rfl rfl (hall 1 (by decide))
      have q17 := isE.out F17
      have f17 := em17.trans (congrArg some q17)
      clear ev17 em17 F17
      obtain ⟨v18, ev18, em18, F18⟩ := h.slot (i := 2) rfl rfl (hall 2 (by decide))
      have q18 := isE.out F18
      have f18 := em18.trans (congrArg some q18)
      clear ev18 em18 F18
      obtain ⟨v19, ev19, em19, F19⟩ := h.slot (i := 3) rfl rfl (hall 3 (by decide))
      have q19 := isE.out F19
      have f19 := em19.trans (congrArg some q19)
      clear ev19 em19 F19
      obtain ⟨v20, ev20, em20, F20⟩ := h.slot (i := 4) rfl rfl (hall 4 (by decide))
      have q20 := isE.out F20
      have f20 := em20.trans (congrArg some q20)
      clear ev20 em20 F20
      obtain ⟨v21, ev21, em21, F21⟩ := h.slot (i := 5) rfl rfl (hall 5 (by decide))
      have q21 := isE.out F21
      have f21 := em21.trans (congrArg some q21)
      clear ev21 em21 F21
      obtain ⟨v22, ev22, em22, F22⟩ := h.slot (i := 6) rfl rfl (hall 6 (by decide))
      obtain ⟨k22, q22, hk22, hT22⟩ : isN3 wr0.heap.size 38 (.float .f32 p.x) (.float .f32 p.y) (.float .f32 p.z) v22 u := F22
      have f22 := em22.trans (congrArg some q22)
      clear ev22 em22
      obtain ⟨v23, ev23, em23, F23⟩ := h.slot (i := 7) rfl rfl (hall 7 (by decide))
      obtain ⟨A23, c23, q23, hs23, hl23⟩ : isLoc wr0.heap.size M A2 n2 38 3 (n2 + 1) (vc (upd D.B n2 p)) v23 u := F23
      have f23 := em23.trans (congrArg some q23)
      clear ev23 em23
      obtain ⟨v24, ev24, em24, F24⟩ := h.slot (i := 8) rfl rfl (hall 8 (by decide))
      have q24 := isE.out F24
      have f24 := em24.trans (congrArg some q24)
      clear ev24 em24 F24
      obtain ⟨v25, ev25, em25, F25⟩ := h.slot (i := 9) rfl rfl (hall 9 (by decide))
      have q25 := isE.out F25
      have f25 := em25.trans (congrArg some q25)
      clear ev25 em25 F25
      have ha := h.act [16, 17, 18, 19, 20, 21, 22, 23, 24, 25] [_, _, _, _, _, _, _, _, _, _] (by kernel_rfl) ⟨f16, f17, f18, f19, f20, f21, f22, f23, f24, f25, trivial⟩
      clear f16 f17 f18 f19 f20 f21 f22 f23 f24 f25
      simp only [setAll, List.setIfInBounds_toArray, List.set_cons_zero, List.set_cons_succ] at ha
      subst ha
      clear h hall
      obtain ⟨W5, N2, q2, hw5, hs5, hl5, hwr⟩ := hB
      have X5 := HX.out.wr hw5 HG.out
      have O5 := HO.out.app2 hw5 hs5 hl5
      have y5 := hw5.size
      have T5 := HT.out.wr hw5 (fun y => by have := (HL.out.b2 _ y.2 y.1).2; omega)
      have b5 := HBM.out.trans (hw5.below (by omega) (fun k hk y => by have := (HL.out.b2 _ y.2 y.1).1; omega))
      obtain ⟨wr1, hwr1⟩ : ∃ z : World, z = u := ⟨u, rfl⟩
      rw [← hwr1]
      rw [← hwr1] at hwr
      have X6 := Lib.hid (show Bx wr1 g 32 (.slice N1 (n1 + 1) q1) (.slice N2 (n2 + 1) q2) (.slice A3 n3 c3) (.slice A4 n4 c4) by rw [hwr]; exact X5.set1 _)
      have O6 := Lib.hid (show Own wr1 M N1 N2 A3 A4 q1 q2 c3 c4 (n1 + 1) (n2 + 1) n3 n4 ⟨upd D.P n1 p, upd D.B n2 p, D.W, D.R⟩ by rw [hwr]; exact O5.off X5 (Wr.set1 _ _ _ _))
      have T6 := Lib.hid (show Tx wr1 w.heap.size 38 (.float .f32 p.x) (.float .f32 p.y) (.float .f32 p.z) by rw [hwr]; exact T5.far (by simp; omega) _)
      have B6 := Lib.hid (show Below M w wr1 by rw [hwr]; exact b5.setCell hg _)
      have z1 : w.heap.size + 1 ≤ wr1.heap.size := by rw [hwr]; simp [World.setCell]; omega
      clear hwr hwr1 hw5 hs5 hl5 X5 O5 y5 T5 b5 HX HO HT HBM HS HG hw0 q16 q17 q18 q19 q20 q21 q24 q25 hs23 hl23 q23 hT22 hk22 q22
      have HX := X6
      have HO := O6
      have HT := T6
      have HBM := B6
      clear X6 O6 T6 B6
      have hne := HO.out.s3.chain HX.out (by decide)
      obtain ⟨i0, hi, hz0, hz1, hz2⟩ := info_parts infoF
      have ez : (wr1.alloc (.cells #[.float .f32 x] 36)).heap.size = wr1.heap.size + 1 := by simp
      have hT : Ox (wr1.alloc (.cells #[.float .f32 x] 36)) wr1.heap.size 36 (.float .f32 x) := Ox.new_ _ _ _
      have hOO : Own (wr1.alloc (.cells #[.float .f32 x] 36)) M N1 N2 A3 A4 q1 q2 c3 c4 (n1 + 1) (n2 + 1) n3 n4 ⟨upd D.P n1 p, upd D.B n2 p, D.W, D.R⟩ := HO.out.go (by repeat' (first | with_reducible exact Below.refl _ _ | with_reducible assumption | with_reducible refine below_dn ?_ _ | with_reducible refine Below.drew ?_ | with_reducible refine below_step ?_ (by assumption) | with_reducible refine Below.setCell ?_ ?_ _ | with_reducible refine Below.alloc ?_ ?_ _ | with_reducible exact Nat.le_refl _ | (simp; done) | (simp; omega) | omega))
      have hXX : Bx (wr1.alloc (.cells #[.float .f32 x] 36)) g 32 (.slice N1 (n1 + 1) q1) (.slice N2 (n2 + 1) q2) (.slice A3 n3 c3) (.slice A4 n4 c4) := HX.out.alloc _
      have hzz := HZ.out.2.2.1
      obtain ⟨g0, g1, g2, g3, gf⟩ := HX.out.facts
      have lg := HX.out.lt
      go_wp2_with (at_builtin; refine wpList_app rfl (.tmp 30) (.tmp 32) 23 rfl 36 i0 _ 1 4 Try.underlying23 hi hz0 hz1 hz2 rfl (by decide) A3 n3 c3 M (fc D.W) rfl hOO.s3 hzz (by simp; omega) ⟨wr1.heap.size, 0, none⟩ 1 1 (fc (fun _ => x)) rfl (new1_fc _ _ 36 x hT) (fc_one _) (by decide) (by simp only [maxLen]; omega) (by omega) ?_; intro N3 q3 u2 hs2 hR _; have X3 := hXX.wr hR hne; have O3 := hOO.app3 hR (hs2.congr (app_fc D.W n3 x)); clear g0 g1 g2 g3 gf lg; obtain ⟨g0, g1, g2, g3, gf⟩ := X3.facts; have lg := X3.lt)
      refine bodyPost_end (results_none rfl _ _ _) rfl ?_
      refine ⟨rfl, ((HBM.out.alloc (by omega) _).trans (hR.below (by omega) (fun k hk y => by have := (HL.out.b3 _ y.2 y.1).1; omega))).setCell hg _, N1, N2, N3, q1, q2, q3, X3.set2 _, O3.off X3 (Wr.set1 _ _ _ _)⟩
end Go.Proofs.Ytlhgaihfghobmaa
