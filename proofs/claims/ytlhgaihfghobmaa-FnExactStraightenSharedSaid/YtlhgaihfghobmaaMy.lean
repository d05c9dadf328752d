/- How a chain flies: contracts. -/
import Derived.Test.YtlhgaihfghobmaaRl
import Derived.Test.YtlhgaihfghobmaaRk
import Derived.BigRegion
namespace Go.Proofs.Ytlhgaihfghobmaa
open Go.ChangeShapes Go.WideShapes Go.ChangeAt Go.RowKit Go.Deep

def nzW (x : Nat) : Bool := FloatKind.f32.format.order x 0 != some .eq
def flyQ (D : D4) (q : V3) (f t : Nat) (k : Nat) : V3 := vadd (vadd (D.P k) (vmul (vsub (D.P k) (D.B k)) f)) (vmul q (F.mul t t))
/-- a chain whose first k places have flown. -/
def flyD (D : D4) (q : V3) (f t : Nat) : Nat → D4
  | 0 => D
  | k + 1 => setB (match nzW (D.W k) with | true => setP (flyD D q f t k) k (flyQ D q f t k) | false => flyD D q f t k) k (D.P k)
theorem flyD_at (D : D4) (q : V3) (f t : Nat) : ∀ k j, k ≤ j → (flyD D q f t k).P j = D.P j ∧ (flyD D q f t k).B j = D.B j
  | 0, _, _ => ⟨rfl, rfl⟩
  | k + 1, j, h => by
    have ih := flyD_at D q f t k j (by omega)
    refine ⟨?_, (upd_ne _ _ (by omega)).trans ?_⟩
    · show (match nzW (D.W k) with | true => setP (flyD D q f t k) k (flyQ D q f t k) | false => flyD D q f t k).P j = _
      cases nzW (D.W k)
      · exact ih.1
      · exact (upd_ne _ _ (by omega)).trans ih.1
    · cases nzW (D.W k) <;> exact ih.2
theorem flyD_W (D : D4) (q : V3) (f t : Nat) : ∀ k, (flyD D q f t k).W = D.W
  | 0 => rfl
  | k + 1 => by
    show (match nzW (D.W k) with | true => setP (flyD D q f t k) k (flyQ D q f t k) | false => flyD D q f t k).W = _
    cases nzW (D.W k) <;> exact flyD_W D q f t k
theorem nzW_sim {x y : Nat} (h : Sim .f32 x y) : nzW x = nzW y := by unfold nzW; rw [order_sim h (Sim.refl .f32 0)]
/-- changes the chain of block g in place. -/
def RetSt (g M : Nat) (A1 A2 A3 A4 : Option Addr) (c1 c2 c3 c4 n1 n2 n3 n4 : Nat) (E : D4) (w : World) (e : Ending) (w' : World) : Prop :=
  e = .returned (.tuple #[]) ∧ Below M w w' ∧ ∃ D', SimD n1 n2 n3 n4 D' E ∧ Own w' M A1 A2 A3 A4 c1 c2 c3 c4 n1 n2 n3 n4 D' ∧ Bx w' g 32 (.slice A1 n1 c1) (.slice A2 n2 c2) (.slice A3 n3 c3) (.slice A4 n4 c4)
set_option maxHeartbeats 8000000 in
set_option maxRecDepth 100000 in
theorem impl_fly (g M : Nat) (A1 A2 A3 A4 : Option Addr) (c1 c2 c3 c4 n m : Nat) (D : D4) (q : V3) (f t : Nat) (w : World) (hx : Bx w g 32 (.slice A1 n c1) (.slice A2 n c2) (.slice A3 n c3) (.slice A4 m c4)) (ho : Own w M A1 A2 A3 A4 c1 c2 c3 c4 n n n m D) (hM : M ≤ w.heap.size) (hn : n ≤ 24) :
    Calls Try.prog 139 #[.pointer (some ⟨g, 0, none⟩), .agg #[.float .f32 q.x, .float .f32 q.y, .float .f32 q.z], .float .f32 f, .float .f32 t] w (RetSt g M A1 A2 A3 A4 c1 c2 c3 c4 n n n m (flyD D q f t n) w) := by
  have HX := Lib.hid (hx.alloc (.cells #[.float .f32 q.x, .float .f32 q.y, .float .f32 q.z] 38))
  have HO := Lib.hid (ho.go (w' := w.alloc (.cells #[.float .f32 q.x, .float .f32 q.y, .float .f32 q.z] 38)) (by repeat' (first | with_reducible exact Below.refl _ _ | with_reducible assumption | with_reducible refine below_dn ?_ _ | with_reducible refine Below.drew ?_ | with_reducible refine below_step ?_ (by assumption) | with_reducible refine Below.setCell ?_ ?_ _ | with_reducible refine Below.alloc ?_ ?_ _ | with_reducible exact Nat.le_refl _ | (simp; done) | (simp; omega) | omega)))
  have HD := Lib.hid ho.bds
  have Y0 := Lib.hid (Tx.new_ w 38 (.float .f32 q.x) (.float .f32 q.y) (.float .f32 q.z))
  have y0 : w.heap.size < (w.alloc (.cells #[.float .f32 q.x, .float .f32 q.y, .float .f32 q.z] 38)).heap.size := by simp
  have B0 := Lib.hid (show Below M w (w.alloc (.cells #[.float .f32 q.x, .float .f32 q.y, .float .f32 q.z] 38)) from Below.alloc (Below.refl _ _) hM _)
  obtain ⟨p0, p1, p2, p3, pf⟩ := hx.facts
  have lp := hx.lt
  clear hx ho
  go_enter Try.func139, Try.ntmps139
  go_wp2_with fail
  clear p0 p1 p2 p3 pf lp
  go_loopw [16] (fun i wr => ∃ (k : Nat) (D1 : D4), k ≤ n ∧ i = .int .i64 k ∧ SimD n n n m D1 (flyD D q f t k) ∧ Own wr M A1 A2 A3 A4 c1 c2 c3 c4 n n n m D1 ∧ Bx wr g 32 (.slice A1 n c1) (.slice A2 n c2) (.slice A3 n c3) (.slice A4 m c4) ∧ Tx wr w.heap.size 38 (.float .f32 q.x) (.float .f32 q.y) (.float .f32 q.z) ∧ Below M w wr ∧ w.heap.size < wr.heap.size) (fun i _ => n - (intOf i).toNat)
  case atStart => exact ⟨0, D, Nat.zero_le _, rfl, SimD.refl _ _ _ _ _, HO.out, HX.out, Y0.out, B0.out, y0⟩
  case round =>
    obtain ⟨k, D1, hk, rfl, hS, hO, hX, hY, hB, hz⟩ := hrel
    by_cases hlt : k < n
    · obtain ⟨b1, hA1, HB1, _, _, hr1⟩ := hO.s1 (by omega)
      obtain ⟨b2, hA2, HB2, _, _, hr2⟩ := hO.s2 (by omega)
      obtain ⟨b3, hA3, _, _, _, hr3⟩ := hO.s3 (by omega)
      have hl1 : b1 < w.heap.size := (HD.out.b1 b1 hA1 (by omega)).2
      have hl2 : b2 < w.heap.size := (HD.out.b2 b2 hA2 (by omega)).2
      have hn1 := Rw.ne_ hX hr1 (by decide)
      have hn2 := Rw.ne_ hX hr2 (by decide)
      have hn31 := Rw.ne_ hr3 hr1 (by decide)
      subst hA1
      subst hA2
      subst hA3
      have hn12 : b2 ≠ b1 := fun e => hO.ne b1 rfl (by rw [e]) (by omega) (by omega)
      have hk0 : (0 : Int) ≤ (k : Int) := by omega
      have hk1 : (k : Int) < (n : Int) := by omega
      have hwk : nzW (D1.W k) = nzW (D.W k) := nzW_sim (by have := hS.2.2.1 k hlt; rw [flyD_W] at this; exact this)
      have hpk : SimP (D1.P k) (D.P k) := by have := hS.1 k hlt; rw [(flyD_at D q f t k k (Nat.le_refl _)).1] at this; exact this
      have hbk : SimP (D1.B k) (D.B k) := by have := hS.2.1 k hlt; rw [(flyD_at D q f t k k (Nat.le_refl _)).2] at this; exact this
      have HWK := Lib.hid hwk
      have HPK := Lib.hid hpk
      have HBK := Lib.hid hbk
      -- the world with the copy of the place
      obtain ⟨wq, hwq⟩ : ∃ wq : World, wq = wr.alloc (.cells #[.float .f32 (D1.P k).x, .float .f32 (D1.P k).y, .float .f32 (D1.P k).z] 38) := ⟨_, rfl⟩
      have hBq : Below wr.heap.size wr wq := by rw [hwq]; exact Below.alloc (Below.refl _ _) (Nat.le_refl _) _
      have hzq : wq.heap.size = wr.heap.size + 1 := by rw [hwq]; simp
      have HT := Lib.hid (show Tx wq wr.heap.size 38 (.float .f32 (D1.P k).x) (.float .f32 (D1.P k).y) (.float .f32 (D1.P k).z) by rw [hwq]; exact Tx.new_ _ _ _ _ _)
      have HXq := Lib.hid (hX.go hBq)
      have HOq := Lib.hid (hO.go hBq)
      have HR1 := Lib.hid (hr1.go hBq)
      have HR2 := Lib.hid (hr2.go hBq)
      have HR3 := Lib.hid (hr3.go hBq)
      have Y0q := Lib.hid (hY.go hBq)
      have HBq := Lib.hid (hB.trans (hBq.mono (by omega)))
      have HS := Lib.hid hS
      obtain ⟨g0, g1, g2, g3, gf⟩ := hX.facts
      have lg := hX.lt
      obtain ⟨e0, e1, e2, _, _, _⟩ := hr1.at3 hlt
      rw [vc0] at e0
      rw [vc1] at e1
      rw [vc2] at e2
      have l1 := hr1.lt
      have i3 := hr3.cell (j := k) (by omega)
      have l3 := hr3.lt
      unfold fc at i3
      cases hnz : nzW (D1.W k)
      · have hnz0 : (FloatKind.f32.format.order (D1.W k) 0 != some .eq) = false := hnz
        clear hX hO hr1 hr2 hr3 hY hB hS hwk hpk hbk
        go_upto_region 7 with fail
        rw [← hwq]
        clear hwq hnz0 g0 g1 g2 g3 gf lg e0 e1 e2 l1 i3 l3
        have HXv := HXq
        have HOv := HOq
        have HTv := HT
        have HR2v := HR2
        have Y0v := Y0q
        have HBv := HBq
        clear HXq HOq HT HR2 Y0q HBq
        have lq2 := HR2v.out.lt
        obtain ⟨g0, g1, g2, g3, gf⟩ := HXv.out.facts
        have lg := HXv.out.lt
        obtain ⟨t0_, t1_, t2_, tf_⟩ := HTv.out.facts
        have lt_ := HTv.out.lt
        obtain ⟨m0, m1, m2, ma, mb, mc⟩ := HR2v.out.at3 hlt
        rw [vc0] at m0
        rw [vc1] at m1
        rw [vc2] at m2
        go_region
        all_goals
          clear g0 g1 g2 g3 gf lg t0_ t1_ t2_ tf_ lt_ m0 m1 m2 ma mb mc lq2
          go_wp2_with fail
          go_roundw
          case rel =>
            refine ⟨k + 1, setB (D1) k (D1.P k), by omega, by go_num, ?_, (HOv.out.drewN _).setB rfl hlt _ _ _, (HXv.out.drewN _).far3' hn2 _ _ _, (Y0v.out.drewN _).far3' (by omega) _ _ _, Tx.bel3 (below_dn HBv.out _) HB2 _ _ _, ?_⟩
            · show SimD n n n m _ (setB (match nzW (D.W k) with | true => setP (flyD D q f t k) k (flyQ D q f t k) | false => flyD D q f t k) k (D.P k))
              rw [← HWK.out, hnz]
              exact setB_sim (HS.out) HPK.out
            · have := HBv.out.size
              simp [World.setCell]
              omega
          case measure => simp [intOf]; omega
      · have hnz0 : (FloatKind.f32.format.order (D1.W k) 0 != some .eq) = true := hnz
        clear hX hO hr1 hr2 hr3 hY hB hS hwk hpk hbk
        go_upto_region 5 with fail
        rw [← hwq]
        clear hwq hnz0 g0 g1 g2 g3 gf lg e0 e1 e2 l1 i3 l3
        have hw0 : Below wq.heap.size wq wq.drew := (Below.refl _ _).drew
        refine region_inv3 [fun v _ => isE (.agg #[.float .f32 (D1.P k).x, .float .f32 (D1.P k).y, .float .f32 (D1.P k).z]) v, fun v _ => isE (.agg #[.float .f32 (D1.P k).x, .float .f32 (D1.P k).y, .float .f32 (D1.P k).z]) v, fun v _ => isE (.pointer (some ⟨g, 0, none⟩)) v, fun v _ => isE (.pointer (some ⟨g, 0, none⟩)) v, fun v _ => isE (.pointer (some ⟨g, 1, none⟩)) v, fun v _ => isE (.slice (some ⟨b2, 0, none⟩) n c2) v, fun v _ => isE (.int .i64 (k : Int)) v, fun v _ => isE (.pointer (some ⟨b2, k * 3, none⟩)) v, fun v _ => isE (.agg #[.float .f32 (D1.B k).x, .float .f32 (D1.B k).y, .float .f32 (D1.B k).z]) v, fun v _ => isV (vsub (D1.P k) (D1.B k)) v, fun v _ => isE (.float .f32 f) v, fun v _ => isV (vmul (vsub (D1.P k) (D1.B k)) f) v, fun v _ => isV (vadd (D1.P k) (vmul (vsub (D1.P k) (D1.B k)) f)) v, isP wq.heap.size, fun _ _ => True] (fun l a W => Js [] (fun W => Below wq.heap.size wq W) l W ∧ Fn 14 10 (isPV wq.heap.size (vadd (D1.P k) (vmul (vsub (D1.P k) (D1.B k)) f))) l a W) (by kernel_rfl) (by kernel_rfl) (by kernel_rfl) ⟨Js.nil hw0, Fn.first⟩ ⟨?r0, ?r1, ?r2, ?r3, ?r4, ?r5, ?r6, ?r7, ?r8, ?r9, ?r10, ?r11, ?r12, ?r13, ?r14, trivial⟩ ?hend
        case r0 =>
          intro listed a u h hu hd K hK
          have hA : (fun W => Below wq.heap.size wq W) u := h.world.1
          have e9 : a.tmps.getD 9 undef = .pointer (some ⟨wr.heap.size, 0, none⟩) := h.base (by kernel_rfl)
          have f9 : a.tmps[9]? = some (.pointer (some ⟨wr.heap.size, 0, none⟩)) := h.old (by kernel_rfl)
          rw [if_pos (by rfl)]
          obtain ⟨g0, g1, g2, g3, gf⟩ := (HXq.out.go hA).facts
          obtain ⟨t0_, t1_, t2_, tf_⟩ := (HT.out.go hA).facts
          obtain ⟨m0, m1, m2, ma, mb, mc⟩ := (HR2.out.go hA).at3 hlt
          rw [vc0] at m0
          rw [vc1] at m1
          rw [vc2] at m2
          go_simp
          exact hK _ _ (fun _ _ _ h => h) (isE.mk rfl) ⟨(Js.nil (hA)), (Fn.neutral h.world.2 (by decide) (by decide) _)⟩
        case r1 =>
          intro listed a u h hu hd K hK
          have hA : (fun W => Below wq.heap.size wq W) u := h.world.1
          have e9 : a.tmps.getD 9 undef = .pointer (some ⟨wr.heap.size, 0, none⟩) := h.base (by kernel_rfl)
          have f9 : a.tmps[9]? = some (.pointer (some ⟨wr.heap.size, 0, none⟩)) := h.old (by kernel_rfl)
          rw [if_pos (by rfl)]
          obtain ⟨g0, g1, g2, g3, gf⟩ := (HXq.out.go hA).facts
          obtain ⟨t0_, t1_, t2_, tf_⟩ := (HT.out.go hA).facts
          obtain ⟨m0, m1, m2, ma, mb, mc⟩ := (HR2.out.go hA).at3 hlt
          rw [vc0] at m0
          rw [vc1] at m1
          rw [vc2] at m2
          go_simp
          exact hK _ _ (fun _ _ _ h => h) (isE.mk rfl) ⟨(Js.nil (hA)), (Fn.neutral h.world.2 (by decide) (by decide) _)⟩
        case r2 =>
          intro listed a u h hu hd K hK
          have e0 : a.tmps.getD 0 undef = .pointer (some ⟨g, 0, none⟩) := h.base (by kernel_rfl)
          have f0 : a.tmps[0]? = some (.pointer (some ⟨g, 0, none⟩)) := h.old (by kernel_rfl)
          rw [if_pos (by rfl)]
          go_simp
          exact hK _ _ (fun _ _ _ h => h) (isE.mk rfl) ⟨(Js.neutral h.world.1 rfl), (Fn.neutral h.world.2 (by decide) (by decide) _)⟩
        case r3 =>
          intro listed a u h hu hd K hK
          obtain ⟨v31, ev31, em31, F31⟩ := h.slot (i := 2) rfl rfl (hd _ (Array.mem_of_getElem? (i := 0) rfl) rfl)
          have q31 := isE.out F31
          have e31 := ev31.trans q31
          have f31 := em31.trans (congrArg some q31)
          clear ev31 em31 F31
          rw [if_pos (by rfl)]
          go_simp
          exact hK _ _ (fun _ _ _ h => h) (isE.mk rfl) ⟨(Js.neutral h.world.1 rfl), (Fn.neutral h.world.2 (by decide) (by decide) _)⟩
        case r4 =>
          intro listed a u h hu hd K hK
          obtain ⟨v32, ev32, em32, F32⟩ := h.slot (i := 3) rfl rfl (hd _ (Array.mem_of_getElem? (i := 0) rfl) rfl)
          have q32 := isE.out F32
          have e32 := ev32.trans q32
          have f32 := em32.trans (congrArg some q32)
          clear ev32 em32 F32
          rw [if_pos (by rfl)]
          go_simp
          exact hK _ _ (fun _ _ _ h => h) (isE.mk rfl) ⟨(Js.neutral h.world.1 rfl), (Fn.neutral h.world.2 (by decide) (by decide) _)⟩
        case r5 =>
          intro listed a u h hu hd K hK
          have hA : (fun W => Below wq.heap.size wq W) u := h.world.1
          obtain ⟨v33, ev33, em33, F33⟩ := h.slot (i := 4) rfl rfl (hd _ (Array.mem_of_getElem? (i := 0) rfl) rfl)
          have q33 := isE.out F33
          have e33 := ev33.trans q33
          have f33 := em33.trans (congrArg some q33)
          clear ev33 em33 F33
          rw [if_pos (by rfl)]
          obtain ⟨g0, g1, g2, g3, gf⟩ := (HXq.out.go hA).facts
          obtain ⟨t0_, t1_, t2_, tf_⟩ := (HT.out.go hA).facts
          obtain ⟨m0, m1, m2, ma, mb, mc⟩ := (HR2.out.go hA).at3 hlt
          rw [vc0] at m0
          rw [vc1] at m1
          rw [vc2] at m2
          go_simp
          exact hK _ _ (fun _ _ _ h => h) (isE.mk rfl) ⟨(Js.nil (hA)), (Fn.neutral h.world.2 (by decide) (by decide) _)⟩
        case r6 =>
          intro listed a u h hu hd K hK
          have e8 : a.tmps.getD 8 undef = .int .i64 (k : Int) := h.base (by kernel_rfl)
          have f8 : a.tmps[8]? = some (.int .i64 (k : Int)) := h.old (by kernel_rfl)
          rw [if_pos (by rfl)]
          go_simp
          exact hK _ _ (fun _ _ _ h => h) (isE.mk rfl) ⟨(Js.neutral h.world.1 rfl), (Fn.neutral h.world.2 (by decide) (by decide) _)⟩
        case r7 =>
          intro listed a u h hu hd K hK
          obtain ⟨v34, ev34, em34, F34⟩ := h.slot (i := 5) rfl rfl (hd _ (Array.mem_of_getElem? (i := 0) rfl) rfl)
          have q34 := isE.out F34
          have e34 := ev34.trans q34
          have f34 := em34.trans (congrArg some q34)
          clear ev34 em34 F34
          obtain ⟨v35, ev35, em35, F35⟩ := h.slot (i := 6) rfl rfl (hd _ (Array.mem_of_getElem? (i := 1) rfl) rfl)
          have q35 := isE.out F35
          have e35 := ev35.trans q35
          have f35 := em35.trans (congrArg some q35)
          clear ev35 em35 F35
          rw [if_pos (by rfl)]
          go_simp
          exact hK _ _ (fun _ _ _ h => h) (isE.mk rfl) ⟨(Js.neutral h.world.1 rfl), (Fn.neutral h.world.2 (by decide) (by decide) _)⟩
        case r8 =>
          intro listed a u h hu hd K hK
          have hA : (fun W => Below wq.heap.size wq W) u := h.world.1
          obtain ⟨v36, ev36, em36, F36⟩ := h.slot (i := 7) rfl rfl (hd _ (Array.mem_of_getElem? (i := 0) rfl) rfl)
          have q36 := isE.out F36
          have e36 := ev36.trans q36
          have f36 := em36.trans (congrArg some q36)
          clear ev36 em36 F36
          rw [if_pos (by rfl)]
          obtain ⟨g0, g1, g2, g3, gf⟩ := (HXq.out.go hA).facts
          obtain ⟨t0_, t1_, t2_, tf_⟩ := (HT.out.go hA).facts
          obtain ⟨m0, m1, m2, ma, mb, mc⟩ := (HR2.out.go hA).at3 hlt
          rw [vc0] at m0
          rw [vc1] at m1
          rw [vc2] at m2
          go_simp
          exact hK _ _ (fun _ _ _ h => h) (isE.mk rfl) ⟨(Js.nil (hA)), (Fn.neutral h.world.2 (by decide) (by decide) _)⟩
        case r9 =>
          intro listed a u h hu hd K hK
          have hA : (fun W => Below wq.heap.size wq W) u := h.world.1
          obtain ⟨v30, ev30, em30, F30⟩ := h.slot (i := 1) rfl rfl (hd _ (Array.mem_of_getElem? (i := 0) rfl) rfl)
          have q30 := isE.out F30
          have e30 := ev30.trans q30
          have f30 := em30.trans (congrArg some q30)
          clear ev30 em30 F30
          obtain ⟨v37, ev37, em37, F37⟩ := h.slot (i := 8) rfl rfl (hd _ (Array.mem_of_getElem? (i := 1) rfl) rfl)
          have q37 := isE.out F37
          have e37 := ev37.trans q37
          have f37 := em37.trans (congrArg some q37)
          clear ev37 em37 F37
          rw [if_pos (by rfl)]
          go_simp
          refine Calls.mono (impl_LessVectors _ _ _ _ _ _ u) ?_
          rintro e u2 ⟨a0_, a1_, a2_, rfl, _, r0, r1, r2, hb⟩
          have hR : Gw u u2 := hb
          exact hK _ _ (fun j v hn hF => AllStX.fact0 (R := Gw) (i := 9) (by exact ⟨fun _ _ _ _ _ h => h, fun _ _ _ _ _ h => h, fun _ _ _ _ _ h => h, fun _ _ _ _ _ h => h, fun _ _ _ _ _ h => h, fun _ _ _ _ _ h => h, fun _ _ _ _ _ h => h, fun _ _ _ _ _ h => h, fun _ _ _ _ _ h => h, fun hn => absurd rfl hn, fun _ _ _ _ _ h => h, fun _ _ _ _ _ h => h, fun _ _ _ _ _ h => h, fun _ _ _ _ hW h => isP.go h hW, fun _ _ _ _ _ h => h, trivial⟩) hR j v hn hF) (isV.mk ⟨r0, r1, r2⟩) ⟨(Js.nil ((hA.trans (hb.mono hA.size)))), (Fn.no (RI3.wait' h (getD_un hu) (T := 14) rfl (Array.mem_of_getElem? (i := 12) rfl) rfl rfl) (by decide))⟩
        case r10 =>
          intro listed a u h hu hd K hK
          have e2 : a.tmps.getD 2 undef = .float .f32 f := h.base (by kernel_rfl)
          have f2 : a.tmps[2]? = some (.float .f32 f) := h.old (by kernel_rfl)
          rw [if_pos (by rfl)]
          go_simp
          exact hK _ _ (fun _ _ _ h => h) (isE.mk rfl) ⟨(Js.neutral h.world.1 rfl), (Fn.neutral h.world.2 (by decide) (by decide) _)⟩
        case r11 =>
          intro listed a u h hu hd K hK
          have hA : (fun W => Below wq.heap.size wq W) u := h.world.1
          obtain ⟨v38, ev38, em38, F38⟩ := h.slot (i := 9) rfl rfl (hd _ (Array.mem_of_getElem? (i := 0) rfl) rfl)
          obtain ⟨x38, y38, z38, q38, s38⟩ := isV.out F38
          have e38 := ev38.trans q38
          have f38 := em38.trans (congrArg some q38)
          clear ev38 em38 F38
          obtain ⟨v39, ev39, em39, F39⟩ := h.slot (i := 10) rfl rfl (hd _ (Array.mem_of_getElem? (i := 1) rfl) rfl)
          have q39 := isE.out F39
          have e39 := ev39.trans q39
          have f39 := em39.trans (congrArg some q39)
          clear ev39 em39 F39
          rw [if_pos (by rfl)]
          go_simp
          refine Calls.mono (impl_ScaleVector _ _ _ _ u) ?_
          rintro e u2 ⟨a0_, a1_, a2_, rfl, _, r0, r1, r2, hb⟩
          have hR : Gw u u2 := hb
          exact hK _ _ (fun j v hn hF => AllStX.fact0 (R := Gw) (i := 11) (by exact ⟨fun _ _ _ _ _ h => h, fun _ _ _ _ _ h => h, fun _ _ _ _ _ h => h, fun _ _ _ _ _ h => h, fun _ _ _ _ _ h => h, fun _ _ _ _ _ h => h, fun _ _ _ _ _ h => h, fun _ _ _ _ _ h => h, fun _ _ _ _ _ h => h, fun _ _ _ _ _ h => h, fun _ _ _ _ _ h => h, fun hn => absurd rfl hn, fun _ _ _ _ _ h => h, fun _ _ _ _ hW h => isP.go h hW, fun _ _ _ _ _ h => h, trivial⟩) hR j v hn hF) (isV.mk ⟨r0.trans (fmul_sim s38.1 (Sim.refl _ _)), r1.trans (fmul_sim s38.2.1 (Sim.refl _ _)), r2.trans (fmul_sim s38.2.2 (Sim.refl _ _))⟩) ⟨(Js.nil ((hA.trans (hb.mono hA.size)))), (Fn.no (RI3.wait' h (getD_un hu) (T := 14) rfl (Array.mem_of_getElem? (i := 14) rfl) rfl rfl) (by decide))⟩
        case r12 =>
          intro listed a u h hu hd K hK
          have hA : (fun W => Below wq.heap.size wq W) u := h.world.1
          obtain ⟨v29, ev29, em29, F29⟩ := h.slot (i := 0) rfl rfl (hd _ (Array.mem_of_getElem? (i := 0) rfl) rfl)
          have q29 := isE.out F29
          have e29 := ev29.trans q29
          have f29 := em29.trans (congrArg some q29)
          clear ev29 em29 F29
          obtain ⟨v40, ev40, em40, F40⟩ := h.slot (i := 11) rfl rfl (hd _ (Array.mem_of_getElem? (i := 1) rfl) rfl)
          obtain ⟨x40, y40, z40, q40, s40⟩ := isV.out F40
          have e40 := ev40.trans q40
          have f40 := em40.trans (congrArg some q40)
          clear ev40 em40 F40
          rw [if_pos (by rfl)]
          go_simp
          refine Calls.mono (impl_AddVectors _ _ _ _ _ _ u) ?_
          rintro e u2 ⟨a0_, a1_, a2_, rfl, _, r0, r1, r2, hb⟩
          have hR : Gw u u2 := hb
          exact hK _ _ (fun j v hn hF => AllStX.fact0 (R := Gw) (i := 12) (by exact ⟨fun _ _ _ _ _ h => h, fun _ _ _ _ _ h => h, fun _ _ _ _ _ h => h, fun _ _ _ _ _ h => h, fun _ _ _ _ _ h => h, fun _ _ _ _ _ h => h, fun _ _ _ _ _ h => h, fun _ _ _ _ _ h => h, fun _ _ _ _ _ h => h, fun _ _ _ _ _ h => h, fun _ _ _ _ _ h => h, fun _ _ _ _ _ h => h, fun hn => absurd rfl hn, fun _ _ _ _ hW h => isP.go h hW, fun _ _ _ _ _ h => h, trivial⟩) hR j v hn hF) (isV.mk ⟨r0.trans (fadd_sim (Sim.refl _ _) s40.1), r1.trans (fadd_sim (Sim.refl _ _) s40.2.1), r2.trans (fadd_sim (Sim.refl _ _) s40.2.2)⟩) ⟨(Js.nil ((hA.trans (hb.mono hA.size)))), (Fn.no (RI3.wait' h (getD_un hu) (T := 14) rfl (Array.mem_of_getElem? (i := 1) rfl) rfl rfl) (by decide))⟩
        case r13 =>
          intro listed a u h hu hd K hK
          have hA : (fun W => Below wq.heap.size wq W) u := h.world.1
          rw [if_pos (by rfl)]
          go_simp
          have hR : Gw u (u.alloc (.cells #[.float .f32 0, .float .f32 0, .float .f32 0] 38)) := Below.alloc (Below.refl _ _) (Nat.le_refl _) _
          exact hK _ _ (fun j v hn hF => AllStX.fact0 (R := Gw) (i := 13) (by exact ⟨fun _ _ _ _ _ h => h, fun _ _ _ _ _ h => h, fun _ _ _ _ _ h => h, fun _ _ _ _ _ h => h, fun _ _ _ _ _ h => h, fun _ _ _ _ _ h => h, fun _ _ _ _ _ h => h, fun _ _ _ _ _ h => h, fun _ _ _ _ _ h => h, fun _ _ _ _ _ h => h, fun _ _ _ _ _ h => h, fun _ _ _ _ _ h => h, fun _ _ _ _ _ h => h, fun hn => absurd rfl hn, fun _ _ _ _ _ h => h, trivial⟩) hR j v hn hF) ⟨_, _, _, _, rfl, hA.size, Tx.new_ _ _ _ _ _⟩ ⟨(Js.nil (Below.alloc hA hA.size _)), (Fn.no (RI3.wait' h (getD_un hu) (T := 14) rfl (Array.mem_of_getElem? (i := 0) rfl) rfl rfl) (by decide))⟩
        case r14 =>
          intro listed a u h hu hd K hK
          have hA : (fun W => Below wq.heap.size wq W) u := h.world.1
          obtain ⟨v10, ev10, em10, F10⟩ := h.slot (i := 13) rfl rfl (hd _ (Array.mem_of_getElem? (i := 0) rfl) rfl)
          obtain ⟨k10, xa10, xb10, xc10, q10, hk10, hx10⟩ : isP wq.heap.size v10 u := F10
          have e10 := ev10.trans q10
          have f10 := em10.trans (congrArg some q10)
          clear ev10 em10
          obtain ⟨v41, ev41, em41, F41⟩ := h.slot (i := 12) rfl rfl (hd _ (Array.mem_of_getElem? (i := 1) rfl) rfl)
          obtain ⟨x41, y41, z41, q41, s41⟩ := isV.out F41
          have e41 := ev41.trans q41
          have f41 := em41.trans (congrArg some q41)
          clear ev41 em41 F41
          rw [if_pos (by rfl)]
          obtain ⟨g0, g1, g2, g3, gf⟩ := (HXq.out.go hA).facts
          obtain ⟨t0_, t1_, t2_, tf_⟩ := (HT.out.go hA).facts
          obtain ⟨m0, m1, m2, ma, mb, mc⟩ := (HR2.out.go hA).at3 hlt
          rw [vc0] at m0
          rw [vc1] at m1
          rw [vc2] at m2
          obtain ⟨y0_, y1_, y2_, yf_⟩ := hx10.facts
          have ly_ := hx10.lt
          go_simp
          have hY := hx10.setAll (.float .f32 x41) (.float .f32 y41) (.float .f32 z41)
          have hR : Pw u (((u.setCell ⟨k10, 0, none⟩ (.float .f32 x41)).setCell ⟨k10, 1, none⟩ (.float .f32 y41)).setCell ⟨k10, 2, none⟩ (.float .f32 z41)) := ⟨_, _, _, _, _, _, _, hx10, Wr.set3 u k10 0 1 2 _ _ _, hY⟩
          exact hK undef _ (fun j v hn hF => AllStX.fact0 (R := Pw) (i := 14) (by exact ⟨fun _ _ _ _ _ h => h, fun _ _ _ _ _ h => h, fun _ _ _ _ _ h => h, fun _ _ _ _ _ h => h, fun _ _ _ _ _ h => h, fun _ _ _ _ _ h => h, fun _ _ _ _ _ h => h, fun _ _ _ _ _ h => h, fun _ _ _ _ _ h => h, fun _ _ _ _ _ h => h, fun _ _ _ _ _ h => h, fun _ _ _ _ _ h => h, fun _ _ _ _ _ h => h, fun _ _ _ _ hW h => isP.st h hW, fun hn => absurd rfl hn, trivial⟩) hR j v hn hF) trivial ⟨(Js.nil ((Tx.bel hA hk10 _ _ _))), (Fn.hit f10 (⟨k10, x41, y41, z41, rfl, hk10, hY, s41⟩))⟩
        case hend =>
          intro listed a u h hall
          have hB : (fun W => Below wq.heap.size wq W) u := h.world.1
          obtain ⟨m10, hm10, hf10⟩ := h.world.2 (hall 14 (by decide))
          obtain ⟨v10, ev10, em10, F10⟩ := h.slot (i := 13) rfl rfl (hall 13 (by decide))
          obtain ⟨k10, xa10, xb10, xc10, q10, hk10, hx10⟩ : isP wq.heap.size v10 u := F10
          have f10 := em10.trans (congrArg some q10)
          clear ev10 em10
          obtain ⟨v29, ev29, em29, F29⟩ := h.slot (i := 0) rfl rfl (hall 0 (by decide))
          have q29 := isE.out F29
          have f29 := em29.trans (congrArg some q29)
          clear ev29 em29 F29
          obtain ⟨v30, ev30, em30, F30⟩ := h.slot (i := 1) rfl rfl (hall 1 (by decide))
          have q30 := isE.out F30
          have f30 := em30.trans (congrArg some q30)
          clear ev30 em30 F30
          obtain ⟨v31, ev31, em31, F31⟩ := h.slot (i := 2) rfl rfl (hall 2 (by decide))
          have q31 := isE.out F31
          have f31 := em31.trans (congrArg some q31)
          clear ev31 em31 F31
          obtain ⟨v32, ev32, em32, F32⟩ := h.slot (i := 3) rfl rfl (hall 3 (by decide))
          have q32 := isE.out F32
          have f32 := em32.trans (congrArg some q32)
          clear ev32 em32 F32
          obtain ⟨v33, ev33, em33, F33⟩ := h.slot (i := 4) rfl rfl (hall 4 (by decide))
          have q33 := isE.out F33
          have f33 := em33.trans (congrArg some q33)
          clear ev33 em33 F33
          obtain ⟨v34, ev34, em34, F34⟩ := h.slot (i := 5) rfl rfl (hall 5 (by decide))
          have q34 := isE.out F34
          have f34 := em34.trans (congrArg some q34)
          clear ev34 em34 F34
          obtain ⟨v35, ev35, em35, F35⟩ := h.slot (i := 6) rfl rfl (hall 6 (by decide))
          have q35 := isE.out F35
          have f35 := em35.trans (congrArg some q35)
          clear ev35 em35 F35
          obtain ⟨v36, ev36, em36, F36⟩ := h.slot (i := 7) rfl rfl (hall 7 (by decide))
          have q36 := isE.out F36
          have f36 := em36.trans (congrArg some q36)
          clear ev36 em36 F36
          obtain ⟨v37, ev37, em37, F37⟩ := h.slot (i := 8) rfl rfl (hall 8 (by decide))
          have q37 := isE.out F37
          have f37 := em37.trans (congrArg some q37)
          clear ev37 em37 F37
          obtain ⟨v38, ev38, em38, F38⟩ := h.slot (i := 9) rfl rfl (hall 9 (by decide))
          obtain ⟨x38, y38, z38, q38, s38⟩ := isV.out F38
          have f38 := em38.trans (congrArg some q38)
          clear ev38 em38 F38
          obtain ⟨v39, ev39, em39, F39⟩ := h.slot (i := 10) rfl rfl (hall 10 (by decide))
          have q39 := isE.out F39
          have f39 := em39.trans (congrArg some q39)
          clear ev39 em39 F39
          obtain ⟨v40, ev40, em40, F40⟩ := h.slot (i := 11) rfl rfl (hall 11 (by decide))
          obtain ⟨x40, y40, z40, q40, s40⟩ := isV.out F40
          have f40 := em40.trans (congrArg some q40)
          clear ev40 em40 F40
          obtain ⟨v41, ev41, em41, F41⟩ := h.slot (i := 12) rfl rfl (hall 12 (by decide))
          obtain ⟨x41, y41, z41, q41, s41⟩ := isV.out F41
          have f41 := em41.trans (congrArg some q41)
          clear ev41 em41 F41
          obtain rfl : m10 = _ := Option.some.inj (hm10.symm.trans f10)
          have ha := h.act [10, 29, 30, 31, 32, 33, 34, 35, 36, 37, 38, 39, 40, 41] [_, _, _, _, _, _, _, _, _, _, _, _, _, _] (by kernel_rfl) ⟨f10, f29, f30, f31, f32, f33, f34, f35, f36, f37, f38, f39, f40, f41, trivial⟩
          clear f10 f29 f30 f31 f32 f33 f34 f35 f36 f37 f38 f39 f40 f41
          simp only [setAll, List.setIfInBounds_toArray, List.set_cons_zero, List.set_cons_succ] at ha
          subst ha
          clear h hall
          obtain ⟨kv, v0, v1, v2, hke, hkv, hxv, hsv⟩ := hf10
          cases hke
          obtain ⟨wt, rfl⟩ : ∃ z : World, z = u := ⟨u, rfl⟩
          have HV := Lib.hid hxv
          have SV := Lib.hid hsv
          have lv := hxv.lt
          have yt := hB.size
          have HXt := Lib.hid (HXq.out.go hB)
          have HOt := Lib.hid (HOq.out.go hB)
          have HTt := Lib.hid (HT.out.go hB)
          have HR1t := Lib.hid (HR1.out.go hB)
          have HR2t := Lib.hid (HR2.out.go hB)
          have Y0t := Lib.hid (Y0q.out.go hB)
          have HBt := Lib.hid (HBq.out.trans (hB.mono (by omega)))
          clear hxv hsv hB hw0 hm10 HXq HOq HT HR1 HR2 HR3 Y0q HBq
          have hw0 : Below wt.heap.size wt wt.drew := (Below.refl _ _).drew
          go_upto_region 6 with fail
          refine region_inv (stat [isE (.pointer (some ⟨g, 0, none⟩)), isE (.pointer (some ⟨g, 0, none⟩)), isE (.pointer (some ⟨g, 0, none⟩)), isE (.slice (some ⟨b1, 0, none⟩) n c1), isE (.int .i64 (k : Int)), isE (.agg #[.float .f32 v0, .float .f32 v1, .float .f32 v2]), isE (.agg #[.float .f32 q.x, .float .f32 q.y, .float .f32 q.z]), isE (.float .f32 t), isE (.float .f32 t), isF (F.mul t t), isV (vmul q (F.mul t t)), isV (vadd (vadd (D1.P k) (vmul (vsub (D1.P k) (D1.B k)) f)) (vmul q (F.mul t t))), isE (.pointer (some ⟨b1, k * 3, none⟩)), fun _ => True]) (fun l W => Js [(13, fun W => ∃ W5 r0 r1 r2, Below wt.heap.size wt W5 ∧ SimP ⟨r0, r1, r2⟩ (vadd (vadd (D1.P k) (vmul (vsub (D1.P k) (D1.B k)) f)) (vmul q (F.mul t t))) ∧ W = (((W5.setCell ⟨b1, k * 3, none⟩ (.float .f32 r0)).setCell ⟨b1, k * 3 + 1, none⟩ (.float .f32 r1)).setCell ⟨b1, k * 3 + 2, none⟩ (.float .f32 r2)))] (fun W => Below wt.heap.size wt W) l W) (by kernel_rfl) (by kernel_rfl) (by kernel_rfl) (Js.first hw0) ⟨?r0, ?r1, ?r2, ?r3, ?r4, ?r5, ?r6, ?r7, ?r8, ?r9, ?r10, ?r11, ?r12, ?r13, trivial⟩ ?hend
          case r0 =>
            intro listed a u h hu hd K hK
            have e0 : a.tmps.getD 0 undef = .pointer (some ⟨g, 0, none⟩) := h.base (by kernel_rfl)
            have f0 : a.tmps[0]? = some (.pointer (some ⟨g, 0, none⟩)) := h.old (by kernel_rfl)
            rw [if_pos (by rfl)]
            go_simp
            exact hK _ _ (fact_stat _ _ _) (isE.mk rfl) (Js.neutral h.world rfl)
          case r1 =>
            intro listed a u h hu hd K hK
            obtain ⟨v42, ev42, em42, F42⟩ := h.slot (i := 0) rfl rfl (hd _ (Array.mem_of_getElem? (i := 0) rfl) rfl)
            have e42 := ev42.trans (isE.out F42)
            have f42 := em42.trans (congrArg some (isE.out F42))
            clear ev42 em42 F42
            rw [if_pos (by rfl)]
            go_simp
            exact hK _ _ (fact_stat _ _ _) (isE.mk rfl) (Js.neutral h.world rfl)
          case r2 =>
            intro listed a u h hu hd K hK
            obtain ⟨v43, ev43, em43, F43⟩ := h.slot (i := 1) rfl rfl (hd _ (Array.mem_of_getElem? (i := 0) rfl) rfl)
            have e43 := ev43.trans (isE.out F43)
            have f43 := em43.trans (congrArg some (isE.out F43))
            clear ev43 em43 F43
            rw [if_pos (by rfl)]
            go_simp
            exact hK _ _ (fact_stat _ _ _) (isE.mk rfl) (Js.neutral h.world rfl)
          case r3 =>
            intro listed a u h hu hd K hK
            have hw := (RI.wait' h (getD_un hu) (T := 13) rfl (Array.mem_of_getElem? (i := 6) rfl) rfl rfl)
            have hA := Js.now h.world hw
            obtain ⟨v44, ev44, em44, F44⟩ := h.slot (i := 2) rfl rfl (hd _ (Array.mem_of_getElem? (i := 0) rfl) rfl)
            have e44 := ev44.trans (isE.out F44)
            have f44 := em44.trans (congrArg some (isE.out F44))
            clear ev44 em44 F44
            rw [if_pos (by rfl)]
            obtain ⟨g0, g1, g2, g3, gf⟩ := (HXt.out.go hA).facts
            obtain ⟨t0_, t1_, t2_, tf_⟩ := (HTt.out.go hA).facts
            obtain ⟨v0_, v1_, v2_, vf_⟩ := (HV.out.go hA).facts
            obtain ⟨w0_, w1_, w2_, wf_⟩ := (Y0t.out.go hA).facts
            obtain ⟨m0, m1, m2, ma, mb, mc⟩ := (HR1t.out.go hA).at3 hlt
            rw [vc0] at m0
            rw [vc1] at m1
            rw [vc2] at m2
            have lm_ := (HR1t.out.go hA).lt
            go_simp
            exact hK _ _ (fact_stat _ _ _) (isE.mk rfl) (Js.stay hw (by decide) hA)
          case r4 =>
            intro listed a u h hu hd K hK
            have e8 : a.tmps.getD 8 undef = .int .i64 (k : Int) := h.base (by kernel_rfl)
            have f8 : a.tmps[8]? = some (.int .i64 (k : Int)) := h.old (by kernel_rfl)
            rw [if_pos (by rfl)]
            go_simp
            exact hK _ _ (fact_stat _ _ _) (isE.mk rfl) (Js.neutral h.world rfl)
          case r5 =>
            intro listed a u h hu hd K hK
            have hw := (RI.wait' h (getD_un hu) (T := 13) rfl (Array.mem_of_getElem? (i := 8) rfl) rfl rfl)
            have hA := Js.now h.world hw
            have e10 : a.tmps.getD 10 undef = .pointer (some ⟨k10, 0, none⟩) := h.base (by kernel_rfl)
            have f10 : a.tmps[10]? = some (.pointer (some ⟨k10, 0, none⟩)) := h.old (by kernel_rfl)
            rw [if_pos (by rfl)]
            obtain ⟨g0, g1, g2, g3, gf⟩ := (HXt.out.go hA).facts
            obtain ⟨t0_, t1_, t2_, tf_⟩ := (HTt.out.go hA).facts
            obtain ⟨v0_, v1_, v2_, vf_⟩ := (HV.out.go hA).facts
            obtain ⟨w0_, w1_, w2_, wf_⟩ := (Y0t.out.go hA).facts
            obtain ⟨m0, m1, m2, ma, mb, mc⟩ := (HR1t.out.go hA).at3 hlt
            rw [vc0] at m0
            rw [vc1] at m1
            rw [vc2] at m2
            have lm_ := (HR1t.out.go hA).lt
            go_simp
            exact hK _ _ (fact_stat _ _ _) (isE.mk rfl) (Js.stay hw (by decide) hA)
          case r6 =>
            intro listed a u h hu hd K hK
            have hw := (RI.wait' h (getD_un hu) (T := 13) rfl (Array.mem_of_getElem? (i := 9) rfl) rfl rfl)
            have hA := Js.now h.world hw
            have e5 : a.tmps.getD 5 undef = .pointer (some ⟨w.heap.size, 0, none⟩) := h.base (by kernel_rfl)
            have f5 : a.tmps[5]? = some (.pointer (some ⟨w.heap.size, 0, none⟩)) := h.old (by kernel_rfl)
            rw [if_pos (by rfl)]
            obtain ⟨g0, g1, g2, g3, gf⟩ := (HXt.out.go hA).facts
            obtain ⟨t0_, t1_, t2_, tf_⟩ := (HTt.out.go hA).facts
            obtain ⟨v0_, v1_, v2_, vf_⟩ := (HV.out.go hA).facts
            obtain ⟨w0_, w1_, w2_, wf_⟩ := (Y0t.out.go hA).facts
            obtain ⟨m0, m1, m2, ma, mb, mc⟩ := (HR1t.out.go hA).at3 hlt
            rw [vc0] at m0
            rw [vc1] at m1
            rw [vc2] at m2
            have lm_ := (HR1t.out.go hA).lt
            go_simp
            exact hK _ _ (fact_stat _ _ _) (isE.mk rfl) (Js.stay hw (by decide) hA)
          case r7 =>
            intro listed a u h hu hd K hK
            have e3 : a.tmps.getD 3 undef = .float .f32 t := h.base (by kernel_rfl)
            have f3 : a.tmps[3]? = some (.float .f32 t) := h.old (by kernel_rfl)
            rw [if_pos (by rfl)]
            go_simp
            exact hK _ _ (fact_stat _ _ _) (isE.mk rfl) (Js.neutral h.world rfl)
          case r8 =>
            intro listed a u h hu hd K hK
            have e3 : a.tmps.getD 3 undef = .float .f32 t := h.base (by kernel_rfl)
            have f3 : a.tmps[3]? = some (.float .f32 t) := h.old (by kernel_rfl)
            rw [if_pos (by rfl)]
            go_simp
            exact hK _ _ (fact_stat _ _ _) (isE.mk rfl) (Js.neutral h.world rfl)
          case r9 =>
            intro listed a u h hu hd K hK
            have hw := (RI.wait' h (getD_un hu) (T := 13) rfl (Array.mem_of_getElem? (i := 12) rfl) rfl rfl)
            have hA := Js.now h.world hw
            obtain ⟨v49, ev49, em49, F49⟩ := h.slot (i := 7) rfl rfl (hd _ (Array.mem_of_getElem? (i := 0) rfl) rfl)
            have e49 := ev49.trans (isE.out F49)
            have f49 := em49.trans (congrArg some (isE.out F49))
            clear ev49 em49 F49
            obtain ⟨v50, ev50, em50, F50⟩ := h.slot (i := 8) rfl rfl (hd _ (Array.mem_of_getElem? (i := 1) rfl) rfl)
            have e50 := ev50.trans (isE.out F50)
            have f50 := em50.trans (congrArg some (isE.out F50))
            clear ev50 em50 F50
            rw [if_pos (by rfl)]
            go_simp
            exact hK _ _ (fact_stat _ _ _) (isF.mk (opV_lt32 _ _ _ _ _) (mul_sim (Sim.refl _ _) (Sim.refl _ _) _ _)) (Js.stay hw (by decide) (below_dn hA _))
          case r10 =>
            intro listed a u h hu hd K hK
            have hw := (RI.wait' h (getD_un hu) (T := 13) rfl (Array.mem_of_getElem? (i := 13) rfl) rfl rfl)
            have hA := Js.now h.world hw
            obtain ⟨v48, ev48, em48, F48⟩ := h.slot (i := 6) rfl rfl (hd _ (Array.mem_of_getElem? (i := 0) rfl) rfl)
            have e48 := ev48.trans (isE.out F48)
            have f48 := em48.trans (congrArg some (isE.out F48))
            clear ev48 em48 F48
            obtain ⟨v51, ev51, em51, F51⟩ := h.slot (i := 9) rfl rfl (hd _ (Array.mem_of_getElem? (i := 1) rfl) rfl)
            obtain ⟨x51, q51, l51, s51⟩ := isF.out F51
            have e51 := ev51.trans q51
            have f51 := em51.trans (congrArg some q51)
            clear ev51 em51 F51
            rw [if_pos (by rfl)]
            go_simp
            refine Calls.mono (impl_ScaleVector _ _ _ _ u) ?_
            rintro e u2 ⟨a0_, a1_, a2_, rfl, _, r0, r1, r2, hb⟩
            exact hK _ _ (fact_stat _ _ _) (isV.mk ⟨r0.trans (fmul_sim (Sim.refl _ _) s51), r1.trans (fmul_sim (Sim.refl _ _) s51), r2.trans (fmul_sim (Sim.refl _ _) s51)⟩) (Js.stay hw (by decide) (hA.trans (hb.mono hA.size)))
          case r11 =>
            intro listed a u h hu hd K hK
            have hw := (RI.wait' h (getD_un hu) (T := 13) rfl (Array.mem_of_getElem? (i := 1) rfl) rfl rfl)
            have hA := Js.now h.world hw
            obtain ⟨v47, ev47, em47, F47⟩ := h.slot (i := 5) rfl rfl (hd _ (Array.mem_of_getElem? (i := 0) rfl) rfl)
            have e47 := ev47.trans (isE.out F47)
            have f47 := em47.trans (congrArg some (isE.out F47))
            clear ev47 em47 F47
            obtain ⟨v52, ev52, em52, F52⟩ := h.slot (i := 10) rfl rfl (hd _ (Array.mem_of_getElem? (i := 1) rfl) rfl)
            obtain ⟨x52, y52, z52, q52, s52⟩ := isV.out F52
            have e52 := ev52.trans q52
            have f52 := em52.trans (congrArg some q52)
            clear ev52 em52 F52
            rw [if_pos (by rfl)]
            go_simp
            refine Calls.mono (impl_AddVectors _ _ _ _ _ _ u) ?_
            rintro e u2 ⟨a0_, a1_, a2_, rfl, _, r0, r1, r2, hb⟩
            exact hK _ _ (fact_stat _ _ _) (isV.mk ⟨r0.trans (fadd_sim SV.out.1 s52.1), r1.trans (fadd_sim SV.out.2.1 s52.2.1), r2.trans (fadd_sim SV.out.2.2 s52.2.2)⟩) (Js.stay hw (by decide) (hA.trans (hb.mono hA.size)))
          case r12 =>
            intro listed a u h hu hd K hK
            obtain ⟨v45, ev45, em45, F45⟩ := h.slot (i := 3) rfl rfl (hd _ (Array.mem_of_getElem? (i := 0) rfl) rfl)
            have e45 := ev45.trans (isE.out F45)
            have f45 := em45.trans (congrArg some (isE.out F45))
            clear ev45 em45 F45
            obtain ⟨v46, ev46, em46, F46⟩ := h.slot (i := 4) rfl rfl (hd _ (Array.mem_of_getElem? (i := 1) rfl) rfl)
            have e46 := ev46.trans (isE.out F46)
            have f46 := em46.trans (congrArg some (isE.out F46))
            clear ev46 em46 F46
            rw [if_pos (by rfl)]
            go_simp
            exact hK _ _ (fact_stat _ _ _) (isE.mk rfl) (Js.neutral h.world rfl)
          case r13 =>
            intro listed a u h hu hd K hK
            have hw := getD_un hu
            have hA := Js.now h.world hw
            obtain ⟨v54, ev54, em54, F54⟩ := h.slot (i := 12) rfl rfl (hd _ (Array.mem_of_getElem? (i := 0) rfl) rfl)
            have e54 := ev54.trans (isE.out F54)
            have f54 := em54.trans (congrArg some (isE.out F54))
            clear ev54 em54 F54
            obtain ⟨v53, ev53, em53, F53⟩ := h.slot (i := 11) rfl rfl (hd _ (Array.mem_of_getElem? (i := 1) rfl) rfl)
            obtain ⟨x53, y53, z53, q53, s53⟩ := isV.out F53
            have e53 := ev53.trans q53
            have f53 := em53.trans (congrArg some q53)
            clear ev53 em53 F53
            rw [if_pos (by rfl)]
            obtain ⟨g0, g1, g2, g3, gf⟩ := (HXt.out.go hA).facts
            obtain ⟨t0_, t1_, t2_, tf_⟩ := (HTt.out.go hA).facts
            obtain ⟨v0_, v1_, v2_, vf_⟩ := (HV.out.go hA).facts
            obtain ⟨w0_, w1_, w2_, wf_⟩ := (Y0t.out.go hA).facts
            obtain ⟨m0, m1, m2, ma, mb, mc⟩ := (HR1t.out.go hA).at3 hlt
            rw [vc0] at m0
            rw [vc1] at m1
            rw [vc2] at m2
            have lm_ := (HR1t.out.go hA).lt
            go_simp
            exact hK undef _ (fact_stat _ _ _) trivial (Js.hit (un_lt hu) (Js.nil ⟨u, x53, y53, z53, hA, s53, rfl⟩))
          case hend =>
            intro listed a u h hall
            have hB : (fun W => ∃ W5 r0 r1 r2, Below wt.heap.size wt W5 ∧ SimP ⟨r0, r1, r2⟩ (vadd (vadd (D1.P k) (vmul (vsub (D1.P k) (D1.B k)) f)) (vmul q (F.mul t t))) ∧ W = (((W5.setCell ⟨b1, k * 3, none⟩ (.float .f32 r0)).setCell ⟨b1, k * 3 + 1, none⟩ (.float .f32 r1)).setCell ⟨b1, k * 3 + 2, none⟩ (.float .f32 r2))) u := (Js.past h.world (hall 13 (by decide)))
            obtain ⟨v42, ev42, em42, F42⟩ := h.slot (i := 0) rfl rfl (hall 0 (by decide))
            have f42 := em42.trans (congrArg some (isE.out F42))
            clear ev42 em42 F42
            obtain ⟨v43, ev43, em43, F43⟩ := h.slot (i := 1) rfl rfl (hall 1 (by decide))
            have f43 := em43.trans (congrArg some (isE.out F43))
            clear ev43 em43 F43
            obtain ⟨v44, ev44, em44, F44⟩ := h.slot (i := 2) rfl rfl (hall 2 (by decide))
            have f44 := em44.trans (congrArg some (isE.out F44))
            clear ev44 em44 F44
            obtain ⟨v45, ev45, em45, F45⟩ := h.slot (i := 3) rfl rfl (hall 3 (by decide))
            have f45 := em45.trans (congrArg some (isE.out F45))
            clear ev45 em45 F45
            obtain ⟨v46, ev46, em46, F46⟩ := h.slot (i := 4) rfl rfl (hall 4 (by decide))
            have f46 := em46.trans (congrArg some (isE.out F46))
            clear ev46 em46 F46
            obtain ⟨v47, ev47, em47, F47⟩ := h.slot (i := 5) rfl rfl (hall 5 (by decide))
            have f47 := em47.trans (congrArg some (isE.out F47))
            clear ev47 em47 F47
            obtain ⟨v48, ev48, em48, F48⟩ := h.slot (i := 6) rfl rfl (hall 6 (by decide))
            have f48 := em48.trans (congrArg some (isE.out F48))
            clear ev48 em48 F48
            obtain ⟨v49, ev49, em49, F49⟩ := h.slot (i := 7) rfl rfl (hall 7 (by decide))
            have f49 := em49.trans (congrArg some (isE.out F49))
            clear ev49 em49 F49
            obtain ⟨v50, ev50, em50, F50⟩ := h.slot (i := 8) rfl rfl (hall 8 (by decide))
            have f50 := em50.trans (congrArg some (isE.out F50))
            clear ev50 em50 F50
            obtain ⟨v51, ev51, em51, F51⟩ := h.slot (i := 9) rfl rfl (hall 9 (by decide))
            obtain ⟨x51, q51, l51, s51⟩ := isF.out F51
            have f51 := em51.trans (congrArg some q51)
            clear ev51 em51 F51
            obtain ⟨v52, ev52, em52, F52⟩ := h.slot (i := 10) rfl rfl (hall 10 (by decide))
            obtain ⟨x52, y52, z52, q52, s52⟩ := isV.out F52
            have f52 := em52.trans (congrArg some q52)
            clear ev52 em52 F52
            obtain ⟨v53, ev53, em53, F53⟩ := h.slot (i := 11) rfl rfl (hall 11 (by decide))
            obtain ⟨x53, y53, z53, q53, s53⟩ := isV.out F53
            have f53 := em53.trans (congrArg some q53)
            clear ev53 em53 F53
            obtain ⟨v54, ev54, em54, F54⟩ := h.slot (i := 12) rfl rfl (hall 12 (by decide))
            have f54 := em54.trans (congrArg some (isE.out F54))
            clear ev54 em54 F54
            have ha := h.act [42, 43, 44, 45, 46, 47, 48, 49, 50, 51, 52, 53, 54] [_, _, _, _, _, _, _, _, _, _, _, _, _] (by kernel_rfl) ⟨f42, f43, f44, f45, f46, f47, f48, f49, f50, f51, f52, f53, f54, trivial⟩
            clear f42 f43 f44 f45 f46 f47 f48 f49 f50 f51 f52 f53 f54
            simp only [setAll, List.setIfInBounds_toArray, List.set_cons_zero, List.set_cons_succ] at ha
            subst ha
            clear h hall
            obtain ⟨W5, r0, r1, r2, hb5, hs5, hu5⟩ := hB
            obtain ⟨wv, rfl⟩ : ∃ z : World, z = u := ⟨u, rfl⟩
            have S5 := Lib.hid hs5
            have y5 := hb5.size
            have HXv := Lib.hid (show Bx wv g 32 (.slice (some ⟨b1, 0, none⟩) n c1) (.slice (some ⟨b2, 0, none⟩) n c2) (.slice (some ⟨b3, 0, none⟩) n c3) (.slice A4 m c4) by rw [hu5]; exact (HXt.out.go hb5).far3' hn1 _ _ _)
            have HOv := Lib.hid (show Own wv M (some ⟨b1, 0, none⟩) (some ⟨b2, 0, none⟩) (some ⟨b3, 0, none⟩) A4 c1 c2 c3 c4 n n n m (setP D1 k ⟨r0, r1, r2⟩) by rw [hu5]; exact (HOt.out.go hb5).setP rfl hlt r0 r1 r2)
            have HTv := Lib.hid (show Tx wv wr.heap.size 38 (.float .f32 (D1.P k).x) (.float .f32 (D1.P k).y) (.float .f32 (D1.P k).z) by rw [hu5]; exact (HTt.out.go hb5).far3' (by omega) _ _ _)
            have HR2v := Lib.hid (show Rw wv b2 38 (c2 * 3) (n * 3) (vc D1.B) by rw [hu5]; exact (HR2t.out.go hb5).far3 hn12 _ _ _)
            have Y0v := Lib.hid (show Tx wv w.heap.size 38 (.float .f32 q.x) (.float .f32 q.y) (.float .f32 q.z) by rw [hu5]; exact (Y0t.out.go hb5).far3' (by omega) _ _ _)
            have HBv := Lib.hid (show Below M w wv by rw [hu5]; exact Tx.bel3 (HBt.out.trans (hb5.mono (by omega))) HB1 _ _ _)
            have yv : w.heap.size < wv.heap.size := by rw [hu5]; simp [World.setCell]; omega
            clear hu5 hb5 hs5 hw0 HXt HOt HTt HR1t HR2t Y0t HBt HV
            go_upto_region 7 with fail
            have lq2 := HR2v.out.lt
            obtain ⟨g0, g1, g2, g3, gf⟩ := HXv.out.facts
            have lg := HXv.out.lt
            obtain ⟨t0_, t1_, t2_, tf_⟩ := HTv.out.facts
            have lt_ := HTv.out.lt
            obtain ⟨m0, m1, m2, ma, mb, mc⟩ := HR2v.out.at3 hlt
            rw [vc0] at m0
            rw [vc1] at m1
            rw [vc2] at m2
            go_region
            all_goals
              clear g0 g1 g2 g3 gf lg t0_ t1_ t2_ tf_ lt_ m0 m1 m2 ma mb mc lq2
              go_wp2_with fail
              go_roundw
              case rel =>
                refine ⟨k + 1, setB (setP D1 k ⟨r0, r1, r2⟩) k (D1.P k), by omega, by go_num, ?_, (HOv.out.drewN _).setB rfl hlt _ _ _, (HXv.out.drewN _).far3' hn2 _ _ _, (Y0v.out.drewN _).far3' (by omega) _ _ _, Tx.bel3 (below_dn HBv.out _) HB2 _ _ _, ?_⟩
                · show SimD n n n m _ (setB (match nzW (D.W k) with | true => setP (flyD D q f t k) k (flyQ D q f t k) | false => flyD D q f t k) k (D.P k))
                  rw [← HWK.out, hnz]
                  exact setB_sim (setP_sim HS.out (S5.out.trans (vadd_sim (vadd_sim HPK.out (vmul_sim (vsub_sim HPK.out HBK.out) (Sim.refl _ _))) (SimP.refl _)))) HPK.out
                · have := HBv.out.size
                  simp [World.setCell]
                  omega
              case measure => simp [intOf]; omega
    · obtain rfl : n = k := by omega
      have HS := Lib.hid hS
      have HO1 := Lib.hid hO
      have HX1 := Lib.hid hX
      have HB1 := Lib.hid hB
      clear hS hO hX hB hY
      go_wp2_with fail
      refine bodyPost_end (results_none rfl _ _ _) rfl ?_
      exact ⟨rfl, HB1.out, D1, HS.out, HO1.out, HX1.out⟩
set_option maxHeartbeats 8000000 in
set_option maxRecDepth 100000 in
theorem spec_fly (g M : Nat) (A1 A2 A3 A4 : Option Addr) (c1 c2 c3 c4 n m : Nat) (D : D4) (q : V3) (f t : Nat) (w : World) (hx : Bx w g 32 (.slice A1 n c1) (.slice A2 n c2) (.slice A3 n c3) (.slice A4 m c4)) (ho : Own w M A1 A2 A3 A4 c1 c2 c3 c4 n n n m D) (hM : M ≤ w.heap.size) (hn : n ≤ 24) :
    Calls Try.prog 137 #[.pointer (some ⟨g, 0, none⟩), .agg #[.float .f32 q.x, .float .f32 q.y, .float .f32 q.z], .float .f32 f, .float .f32 t] w (RetSt g M A1 A2 A3 A4 c1 c2 c3 c4 n n n m (flyD D q f t n) w) := by
  have HX := Lib.hid (hx.alloc (.cells #[.float .f32 q.x, .float .f32 q.y, .float .f32 q.z] 38))
  have HO := Lib.hid (ho.go (w' := w.alloc (.cells #[.float .f32 q.x, .float .f32 q.y, .float .f32 q.z] 38)) (by repeat' (first | with_reducible exact Below.refl _ _ | with_reducible assumption | with_reducible refine below_dn ?_ _ | with_reducible refine Below.drew ?_ | with_reducible refine below_step ?_ (by assumption) | with_reducible refine Below.setCell ?_ ?_ _ | with_reducible refine Below.alloc ?_ ?_ _ | with_reducible exact Nat.le_refl _ | (simp; done) | (simp; omega) | omega)))
  have HD := Lib.hid ho.bds
  have Y0 := Lib.hid (Tx.new_ w 38 (.float .f32 q.x) (.float .f32 q.y) (.float .f32 q.z))
  have y0 : w.heap.size < (w.alloc (.cells #[.float .f32 q.x, .float .f32 q.y, .float .f32 q.z] 38)).heap.size := by simp
  have B0 := Lib.hid (show Below M w (w.alloc (.cells #[.float .f32 q.x, .float .f32 q.y, .float .f32 q.z] 38)) from Below.alloc (Below.refl _ _) hM _)
  obtain ⟨p0, p1, p2, p3, pf⟩ := hx.facts
  have lp := hx.lt
  clear hx ho
  go_enter Try.func137, Try.ntmps137
  go_wp2_with fail
  clear p0 p1 p2 p3 pf lp
  go_loopw [16] (fun i wr => ∃ (k : Nat) (D1 : D4), k ≤ n ∧ i = .int .i64 k ∧ SimD n n n m D1 (flyD D q f t k) ∧ Own wr M A1 A2 A3 A4 c1 c2 c3 c4 n n n m D1 ∧ Bx wr g 32 (.slice A1 n c1) (.slice A2 n c2) (.slice A3 n c3) (.slice A4 m c4) ∧ Tx wr w.heap.size 38 (.float .f32 q.x) (.float .f32 q.y) (.float .f32 q.z) ∧ Below M w wr ∧ w.heap.size < wr.heap.size) (fun i _ => n - (intOf i).toNat)
  case atStart => exact ⟨0, D, Nat.zero_le _, rfl, SimD.refl _ _ _ _ _, HO.out, HX.out, Y0.out, B0.out, y0⟩
  case round =>
    obtain ⟨k, D1, hk, rfl, hS, hO, hX, hY, hB, hz⟩ := hrel
    by_cases hlt : k < n
    · obtain ⟨b1, hA1, HB1, _, _, hr1⟩ := hO.s1 (by omega)
      obtain ⟨b2, hA2, HB2, _, _, hr2⟩ := hO.s2 (by omega)
      obtain ⟨b3, hA3, _, _, _, hr3⟩ := hO.s3 (by omega)
      have hl1 : b1 < w.heap.size := (HD.out.b1 b1 hA1 (by omega)).2
      have hl2 : b2 < w.heap.size := (HD.out.b2 b2 hA2 (by omega)).2
      have hn1 := Rw.ne_ hX hr1 (by decide)
      have hn2 := Rw.ne_ hX hr2 (by decide)
      have hn31 := Rw.ne_ hr3 hr1 (by decide)
      subst hA1
      subst hA2
      subst hA3
      have hn12 : b2 ≠ b1 := fun e => hO.ne b1 rfl (by rw [e]) (by omega) (by omega)
      have hk0 : (0 : Int) ≤ (k : Int) := by omega
      have hk1 : (k : Int) < (n : Int) := by omega
      have hwk : nzW (D1.W k) = nzW (D.W k) := nzW_sim (by have := hS.2.2.1 k hlt; rw [flyD_W] at this; exact this)
      have hpk : SimP (D1.P k) (D.P k) := by have := hS.1 k hlt; rw [(flyD_at D q f t k k (Nat.le_refl _)).1] at this; exact this
      have hbk : SimP (D1.B k) (D.B k) := by have := hS.2.1 k hlt; rw [(flyD_at D q f t k k (Nat.le_refl _)).2] at this; exact this
      have HWK := Lib.hid hwk
      have HPK := Lib.hid hpk
      have HBK := Lib.hid hbk
      -- the world with the copy of the place
      obtain ⟨wq, hwq⟩ : ∃ wq : World, wq = wr.alloc (.cells #[.float .f32 (D1.P k).x, .float .f32 (D1.P k).y, .float .f32 (D1.P k).z] 38) := ⟨_, rfl⟩
      have hBq : Below wr.heap.size wr wq := by rw [hwq]; exact Below.alloc (Below.refl _ _) (Nat.le_refl _) _
      have hzq : wq.heap.size = wr.heap.size + 1 := by rw [hwq]; simp
      have HT := Lib.hid (show Tx wq wr.heap.size 38 (.float .f32 (D1.P k).x) (.float .f32 (D1.P k).y) (.float .f32 (D1.P k).z) by rw [hwq]; exact Tx.new_ _ _ _ _ _)
      have HXq := Lib.hid (hX.go hBq)
      have HOq := Lib.hid (hO.go hBq)
      have HR1 := Lib.hid (hr1.go hBq)
      have HR2 := Lib.hid (hr2.go hBq)
      have HR3 := Lib.hid (hr3.go hBq)
      have Y0q := Lib.hid (hY.go hBq)
      have HBq := Lib.hid (hB.trans (hBq.mono (by omega)))
      have HS := Lib.hid hS
      obtain ⟨g0, g1, g2, g3, gf⟩ := hX.facts
      have lg := hX.lt
      obtain ⟨e0, e1, e2, _, _, _⟩ := hr1.at3 hlt
      rw [vc0] at e0
      rw [vc1] at e1
      rw [vc2] at e2
      have l1 := hr1.lt
      have i3 := hr3.cell (j := k) (by omega)
      have l3 := hr3.lt
      unfold fc at i3
      cases hnz : nzW (D1.W k)
      · have hnz0 : (FloatKind.f32.format.order (D1.W k) 0 != some .eq) = false := hnz
        clear hX hO hr1 hr2 hr3 hY hB hS hwk hpk hbk
        go_upto_region 8 with fail
        rw [← hwq]
        clear hwq hnz0 g0 g1 g2 g3 gf lg e0 e1 e2 l1 i3 l3
        have HXv := HXq
        have HOv := HOq
        have HTv := HT
        have HR2v := HR2
        have Y0v := Y0q
        have HBv := HBq
        clear HXq HOq HT HR2 Y0q HBq
        have lq2 := HR2v.out.lt
        obtain ⟨g0, g1, g2, g3, gf⟩ := HXv.out.facts
        have lg := HXv.out.lt
        obtain ⟨t0_, t1_, t2_, tf_⟩ := HTv.out.facts
        have lt_ := HTv.out.lt
        obtain ⟨m0, m1, m2, ma, mb, mc⟩ := HR2v.out.at3 hlt
        rw [vc0] at m0
        rw [vc1] at m1
        rw [vc2] at m2
        go_region
        all_goals
          clear g0 g1 g2 g3 gf lg t0_ t1_ t2_ tf_ lt_ m0 m1 m2 ma mb mc lq2
          go_wp2_with fail
          go_roundw
          case rel =>
            refine ⟨k + 1, setB (D1) k (D1.P k), by omega, by go_num, ?_, (HOv.out.drewN _).setB rfl hlt _ _ _, (HXv.out.drewN _).far3' hn2 _ _ _, (Y0v.out.drewN _).far3' (by omega) _ _ _, Tx.bel3 (below_dn HBv.out _) HB2 _ _ _, ?_⟩
            · show SimD n n n m _ (setB (match nzW (D.W k) with | true => setP (flyD D q f t k) k (flyQ D q f t k) | false => flyD D q f t k) k (D.P k))
              rw [← HWK.out, hnz]
              exact setB_sim (HS.out) HPK.out
            · have := HBv.out.size
              simp [World.setCell]
              omega
          case measure => simp [intOf]; omega
      · have hnz0 : (FloatKind.f32.format.order (D1.W k) 0 != some .eq) = true := hnz
        clear hX hO hr1 hr2 hr3 hY hB hS hwk hpk hbk
        go_upto_region 6 with fail
        rw [← hwq]
        clear hwq hnz0 g0 g1 g2 g3 gf lg e0 e1 e2 l1 i3 l3
        have hw0 : Below wq.heap.size wq wq.drew := (Below.refl _ _).drew
        refine region_inv3 [fun v _ => isE (.agg #[.float .f32 (D1.P k).x, .float .f32 (D1.P k).y, .float .f32 (D1.P k).z]) v, fun v _ => isE (.pointer (some ⟨g, 0, none⟩)) v, fun v _ => isE (.pointer (some ⟨g, 0, none⟩)) v, fun v _ => isE (.pointer (some ⟨g, 1, none⟩)) v, fun v _ => isE (.slice (some ⟨b2, 0, none⟩) n c2) v, fun v _ => isE (.int .i64 (k : Int)) v, fun v _ => isE (.pointer (some ⟨b2, k * 3, none⟩)) v, fun v _ => isE (.agg #[.float .f32 (D1.B k).x, .float .f32 (D1.B k).y, .float .f32 (D1.B k).z]) v, fun v _ => isV (vsub (D1.P k) (D1.B k)) v, fun v _ => isE (.float .f32 f) v, fun v _ => isV (vmul (vsub (D1.P k) (D1.B k)) f) v, isP wq.heap.size, fun _ _ => True] (fun l a W => Js [] (fun W => Below wq.heap.size wq W) l W ∧ Fn 12 10 (isPV wq.heap.size (vmul (vsub (D1.P k) (D1.B k)) f)) l a W) (by kernel_rfl) (by kernel_rfl) (by kernel_rfl) ⟨Js.nil hw0, Fn.first⟩ ⟨?r0, ?r1, ?r2, ?r3, ?r4, ?r5, ?r6, ?r7, ?r8, ?r9, ?r10, ?r11, ?r12, trivial⟩ ?hend
        case r0 =>
          intro listed a u h hu hd K hK
          have hA : (fun W => Below wq.heap.size wq W) u := h.world.1
          have e9 : a.tmps.getD 9 undef = .pointer (some ⟨wr.heap.size, 0, none⟩) := h.base (by kernel_rfl)
          have f9 : a.tmps[9]? = some (.pointer (some ⟨wr.heap.size, 0, none⟩)) := h.old (by kernel_rfl)
          rw [if_pos (by rfl)]
          obtain ⟨g0, g1, g2, g3, gf⟩ := (HXq.out.go hA).facts
          obtain ⟨t0_, t1_, t2_, tf_⟩ := (HT.out.go hA).facts
          obtain ⟨m0, m1, m2, ma, mb, mc⟩ := (HR2.out.go hA).at3 hlt
          rw [vc0] at m0
          rw [vc1] at m1
          rw [vc2] at m2
          go_simp
          exact hK _ _ (fun _ _ _ h => h) (isE.mk rfl) ⟨(Js.nil (hA)), (Fn.neutral h.world.2 (by decide) (by decide) _)⟩
        case r1 =>
          intro listed a u h hu hd K hK
          have e0 : a.tmps.getD 0 undef = .pointer (some ⟨g, 0, none⟩) := h.base (by kernel_rfl)
          have f0 : a.tmps[0]? = some (.pointer (some ⟨g, 0, none⟩)) := h.old (by kernel_rfl)
          rw [if_pos (by rfl)]
          go_simp
          exact hK _ _ (fun _ _ _ h => h) (isE.mk rfl) ⟨(Js.neutral h.world.1 rfl), (Fn.neutral h.world.2 (by decide) (by decide) _)⟩
        case r2 =>
          intro listed a u h hu hd K hK
          obtain ⟨v35, ev35, em35, F35⟩ := h.slot (i := 1) rfl rfl (hd _ (Array.mem_of_getElem? (i := 0) rfl) rfl)
          have q35 := isE.out F35
          have e35 := ev35.trans q35
          have f35 := em35.trans (congrArg some q35)
          clear ev35 em35 F35
          rw [if_pos (by rfl)]
          go_simp
          exact hK _ _ (fun _ _ _ h => h) (isE.mk rfl) ⟨(Js.neutral h.world.1 rfl), (Fn.neutral h.world.2 (by decide) (by decide) _)⟩
        case r3 =>
          intro listed a u h hu hd K hK
          obtain ⟨v36, ev36, em36, F36⟩ := h.slot (i := 2) rfl rfl (hd _ (Array.mem_of_getElem? (i := 0) rfl) rfl)
          have q36 := isE.out F36
          have e36 := ev36.trans q36
          have f36 := em36.trans (congrArg some q36)
          clear ev36 em36 F36
          rw [if_pos (by rfl)]
          go_simp
          exact hK _ _ (fun _ _ _ h => h) (isE.mk rfl) ⟨(Js.neutral h.world.1 rfl), (Fn.neutral h.world.2 (by decide) (by decide) _)⟩
        case r4 =>
          intro listed a u h hu hd K hK
          have hA : (fun W => Below wq.heap.size wq W) u := h.world.1
          obtain ⟨v37, ev37, em37, F37⟩ := h.slot (i := 3) rfl rfl (hd _ (Array.mem_of_getElem? (i := 0) rfl) rfl)
          have q37 := isE.out F37
          have e37 := ev37.trans q37
          have f37 := em37.trans (congrArg some q37)
          clear ev37 em37 F37
          rw [if_pos (by rfl)]
          obtain ⟨g0, g1, g2, g3, gf⟩ := (HXq.out.go hA).facts
          obtain ⟨t0_, t1_, t2_, tf_⟩ := (HT.out.go hA).facts
          obtain ⟨m0, m1, m2, ma, mb, mc⟩ := (HR2.out.go hA).at3 hlt
          rw [vc0] at m0
          rw [vc1] at m1
          rw [vc2] at m2
          go_simp
          exact hK _ _ (fun _ _ _ h => h) (isE.mk rfl) ⟨(Js.nil (hA)), (Fn.neutral h.world.2 (by decide) (by decide) _)⟩
        case r5 =>
          intro listed a u h hu hd K hK
          have e8 : a.tmps.getD 8 undef = .int .i64 (k : Int) := h.base (by kernel_rfl)
          have f8 : a.tmps[8]? = some (.int .i64 (k : Int)) := h.old (by kernel_rfl)
          rw [if_pos (by rfl)]
          go_simp
          exact hK _ _ (fun _ _ _ h => h) (isE.mk rfl) ⟨(Js.neutral h.world.1 rfl), (Fn.neutral h.world.2 (by decide) (by decide) _)⟩
        case r6 =>
          intro listed a u h hu hd K hK
          obtain ⟨v38, ev38, em38, F38⟩ := h.slot (i := 4) rfl rfl (hd _ (Array.mem_of_getElem? (i := 0) rfl) rfl)
          have q38 := isE.out F38
          have e38 := ev38.trans q38
          have f38 := em38.trans (congrArg some q38)
          clear ev38 em38 F38
          obtain ⟨v39, ev39, em39, F39⟩ := h.slot (i := 5) rfl rfl (hd _ (Array.mem_of_getElem? (i := 1) rfl) rfl)
          have q39 := isE.out F39
          have e39 := ev39.trans q39
          have f39 := em39.trans (congrArg some q39)
          clear ev39 em39 F39
          rw [if_pos (by rfl)]
          go_simp
          exact hK _ _ (fun _ _ _ h => h) (isE.mk rfl) ⟨(Js.neutral h.world.1 rfl), (Fn.neutral h.world.2 (by decide) (by decide) _)⟩
        case r7 =>
          intro listed a u h hu hd K hK
          have hA : (fun W => Below wq.heap.size wq W) u := h.world.1
          obtain ⟨v40, ev40, em40, F40⟩ := h.slot (i := 6) rfl rfl (hd _ (Array.mem_of_getElem? (i := 0) rfl) rfl)
          have q40 := isE.out F40
          have e40 := ev40.trans q40
          have f40 := em40.trans (congrArg some q40)
          clear ev40 em40 F40
          rw [if_pos (by rfl)]
          obtain ⟨g0, g1, g2, g3, gf⟩ := (HXq.out.go hA).facts
          obtain ⟨t0_, t1_, t2_, tf_⟩ := (HT.out.go hA).facts
          obtain ⟨m0, m1, m2, ma, mb, mc⟩ := (HR2.out.go hA).at3 hlt
          rw [vc0] at m0
          rw [vc1] at m1
          rw [vc2] at m2
          go_simp
          exact hK _ _ (fun _ _ _ h => h) (isE.mk rfl) ⟨(Js.nil (hA)), (Fn.neutral h.world.2 (by decide) (by decide) _)⟩
        case r8 =>
          intro listed a u h hu hd K hK
          have hA : (fun W => Below wq.heap.size wq W) u := h.world.1
          obtain ⟨v34, ev34, em34, F34⟩ := h.slot (i := 0) rfl rfl (hd _ (Array.mem_of_getElem? (i := 0) rfl) rfl)
          have q34 := isE.out F34
          have e34 := ev34.trans q34
          have f34 := em34.trans (congrArg some q34)
          clear ev34 em34 F34
          obtain ⟨v41, ev41, em41, F41⟩ := h.slot (i := 7) rfl rfl (hd _ (Array.mem_of_getElem? (i := 1) rfl) rfl)
          have q41 := isE.out F41
          have e41 := ev41.trans q41
          have f41 := em41.trans (congrArg some q41)
          clear ev41 em41 F41
          rw [if_pos (by rfl)]
          go_simp
          refine Calls.mono (spec_l01Less _ _ _ _ _ _ u) ?_
          rintro e u2 ⟨a0_, a1_, a2_, rfl, _, r0, r1, r2, hb⟩
          have hR : Gw u u2 := hb
          exact hK _ _ (fun j v hn hF => AllStX.fact0 (R := Gw) (i := 8) (by exact ⟨fun _ _ _ _ _ h => h, fun _ _ _ _ _ h => h, fun _ _ _ _ _ h => h, fun _ _ _ _ _ h => h, fun _ _ _ _ _ h => h, fun _ _ _ _ _ h => h, fun _ _ _ _ _ h => h, fun _ _ _ _ _ h => h, fun hn => absurd rfl hn, fun _ _ _ _ _ h => h, fun _ _ _ _ _ h => h, fun _ _ _ _ hW h => isP.go h hW, fun _ _ _ _ _ h => h, trivial⟩) hR j v hn hF) (isV.mk ⟨r0, r1, r2⟩) ⟨(Js.nil ((hA.trans (hb.mono hA.size)))), (Fn.no (RI3.wait' h (getD_un hu) (T := 12) rfl (Array.mem_of_getElem? (i := 11) rfl) rfl rfl) (by decide))⟩
        case r9 =>
          intro listed a u h hu hd K hK
          have e2 : a.tmps.getD 2 undef = .float .f32 f := h.base (by kernel_rfl)
          have f2 : a.tmps[2]? = some (.float .f32 f) := h.old (by kernel_rfl)
          rw [if_pos (by rfl)]
          go_simp
          exact hK _ _ (fun _ _ _ h => h) (isE.mk rfl) ⟨(Js.neutral h.world.1 rfl), (Fn.neutral h.world.2 (by decide) (by decide) _)⟩
        case r10 =>
          intro listed a u h hu hd K hK
          have hA : (fun W => Below wq.heap.size wq W) u := h.world.1
          obtain ⟨v42, ev42, em42, F42⟩ := h.slot (i := 8) rfl rfl (hd _ (Array.mem_of_getElem? (i := 0) rfl) rfl)
          obtain ⟨x42, y42, z42, q42, s42⟩ := isV.out F42
          have e42 := ev42.trans q42
          have f42 := em42.trans (congrArg some q42)
          clear ev42 em42 F42
          obtain ⟨v43, ev43, em43, F43⟩ := h.slot (i := 9) rfl rfl (hd _ (Array.mem_of_getElem? (i := 1) rfl) rfl)
          have q43 := isE.out F43
          have e43 := ev43.trans q43
          have f43 := em43.trans (congrArg some q43)
          clear ev43 em43 F43
          rw [if_pos (by rfl)]
          go_simp
          refine Calls.mono (spec_l01Scale _ _ _ _ u) ?_
          rintro e u2 ⟨a0_, a1_, a2_, rfl, _, r0, r1, r2, hb⟩
          have hR : Gw u u2 := hb
          exact hK _ _ (fun j v hn hF => AllStX.fact0 (R := Gw) (i := 10) (by exact ⟨fun _ _ _ _ _ h => h, fun _ _ _ _ _ h => h, fun _ _ _ _ _ h => h, fun _ _ _ _ _ h => h, fun _ _ _ _ _ h => h, fun _ _ _ _ _ h => h, fun _ _ _ _ _ h => h, fun _ _ _ _ _ h => h, fun _ _ _ _ _ h => h, fun _ _ _ _ _ h => h, fun hn => absurd rfl hn, fun _ _ _ _ hW h => isP.go h hW, fun _ _ _ _ _ h => h, trivial⟩) hR j v hn hF) (isV.mk ⟨r0.trans (fmul_sim s42.1 (Sim.refl _ _)), r1.trans (fmul_sim s42.2.1 (Sim.refl _ _)), r2.trans (fmul_sim s42.2.2 (Sim.refl _ _))⟩) ⟨(Js.nil ((hA.trans (hb.mono hA.size)))), (Fn.no (RI3.wait' h (getD_un hu) (T := 12) rfl (Array.mem_of_getElem? (i := 1) rfl) rfl rfl) (by decide))⟩
        case r11 =>
          intro listed a u h hu hd K hK
          have hA : (fun W => Below wq.heap.size wq W) u := h.world.1
          rw [if_pos (by rfl)]
          go_simp
          have hR : Gw u (u.alloc (.cells #[.float .f32 0, .float .f32 0, .float .f32 0] 38)) := Below.alloc (Below.refl _ _) (Nat.le_refl _) _
          exact hK _ _ (fun j v hn hF => AllStX.fact0 (R := Gw) (i := 11) (by exact ⟨fun _ _ _ _ _ h => h, fun _ _ _ _ _ h => h, fun _ _ _ _ _ h => h, fun _ _ _ _ _ h => h, fun _ _ _ _ _ h => h, fun _ _ _ _ _ h => h, fun _ _ _ _ _ h => h, fun _ _ _ _ _ h => h, fun _ _ _ _ _ h => h, fun _ _ _ _ _ h => h, fun _ _ _ _ _ h => h, fun hn => absurd rfl hn, fun _ _ _ _ _ h => h, trivial⟩) hR j v hn hF) ⟨_, _, _, _, rfl, hA.size, Tx.new_ _ _ _ _ _⟩ ⟨(Js.nil (Below.alloc hA hA.size _)), (Fn.no (RI3.wait' h (getD_un hu) (T := 12) rfl (Array.mem_of_getElem? (i := 0) rfl) rfl rfl) (by decide))⟩
        case r12 =>
          intro listed a u h hu hd K hK
          have hA : (fun W => Below wq.heap.size wq W) u := h.world.1
          obtain ⟨v10, ev10, em10, F10⟩ := h.slot (i := 11) rfl rfl (hd _ (Array.mem_of_getElem? (i := 0) rfl) rfl)
          obtain ⟨k10, xa10, xb10, xc10, q10, hk10, hx10⟩ : isP wq.heap.size v10 u := F10
          have e10 := ev10.trans q10
          have f10 := em10.trans (congrArg some q10)
          clear ev10 em10
          obtain ⟨v44, ev44, em44, F44⟩ := h.slot (i := 10) rfl rfl (hd _ (Array.mem_of_getElem? (i := 1) rfl) rfl)
          obtain ⟨x44, y44, z44, q44, s44⟩ := isV.out F44
          have e44 := ev44.trans q44
          have f44 := em44.trans (congrArg some q44)
          clear ev44 em44 F44
          rw [if_pos (by rfl)]
          obtain ⟨g0, g1, g2, g3, gf⟩ := (HXq.out.go hA).facts
          obtain ⟨t0_, t1_, t2_, tf_⟩ := (HT.out.go hA).facts
          obtain ⟨m0, m1, m2, ma, mb, mc⟩ := (HR2.out.go hA).at3 hlt
          rw [vc0] at m0
          rw [vc1] at m1
          rw [vc2] at m2
          obtain ⟨y0_, y1_, y2_, yf_⟩ := hx10.facts
          have ly_ := hx10.lt
          go_simp
          have hY := hx10.setAll (.float .f32 x44) (.float .f32 y44) (.float .f32 z44)
          have hR : Pw u (((u.setCell ⟨k10, 0, none⟩ (.float .f32 x44)).setCell ⟨k10, 1, none⟩ (.float .f32 y44)).setCell ⟨k10, 2, none⟩ (.float .f32 z44)) := ⟨_, _, _, _, _, _, _, hx10, Wr.set3 u k10 0 1 2 _ _ _, hY⟩
          exact hK undef _ (fun j v hn hF => AllStX.fact0 (R := Pw) (i := 12) (by exact ⟨fun _ _ _ _ _ h => h, fun _ _ _ _ _ h => h, fun _ _ _ _ _ h => h, fun _ _ _ _ _ h => h, fun _ _ _ _ _ h => h, fun _ _ _ _ _ h => h, fun _ _ _ _ _ h => h, fun _ _ _ _ _ h => h, fun _ _ _ _ _ h => h, fun _ _ _ _ _ h => h, fun _ _ _ _ _ h => h, fun _ _ _ _ hW h => isP.st h hW, fun hn => absurd rfl hn, trivial⟩) hR j v hn hF) trivial ⟨(Js.nil ((Tx.bel hA hk10 _ _ _))), (Fn.hit f10 (⟨k10, x44, y44, z44, rfl, hk10, hY, s44⟩))⟩
        case hend =>
          intro listed a u h hall
          have hB : (fun W => Below wq.heap.size wq W) u := h.world.1
          obtain ⟨m10, hm10, hf10⟩ := h.world.2 (hall 12 (by decide))
          obtain ⟨v10, ev10, em10, F10⟩ := h.slot (i := 11) rfl rfl (hall 11 (by decide))
          obtain ⟨k10, xa10, xb10, xc10, q10, hk10, hx10⟩ : isP wq.heap.size v10 u := F10
          have f10 := em10.trans (congrArg some q10)
          clear ev10 em10
          obtain ⟨v34, ev34, em34, F34⟩ := h.slot (i := 0) rfl rfl (hall 0 (by decide))
          have q34 := isE.out F34
          have f34 := em34.trans (congrArg some q34)
          clear ev34 em34 F34
          obtain ⟨v35, ev35, em35, F35⟩ := h.slot (i := 1) rfl rfl (hall 1 (by decide))
          have q35 := isE.out F35
          have f35 := em35.trans (congrArg some q35)
          clear ev35 em35 F35
          obtain ⟨v36, ev36, em36, F36⟩ := h.slot (i := 2) rfl rfl (hall 2 (by decide))
          have q36 := isE.out F36
          have f36 := em36.trans (congrArg some q36)
          clear ev36 em36 F36
          obtain ⟨v37, ev37, em37, F37⟩ := h.slot (i := 3) rfl rfl (hall 3 (by decide))
          have q37 := isE.out F37
          have f37 := em37.trans (congrArg some q37)
          clear ev37 em37 F37
          obtain ⟨v38, ev38, em38, F38⟩ := h.slot (i := 4) rfl rfl (hall 4 (by decide))
          have q38 := isE.out F38
          have f38 := em38.trans (congrArg some q38)
          clear ev38 em38 F38
          obtain ⟨v39, ev39, em39, F39⟩ := h.slot (i := 5) rfl rfl (hall 5 (by decide))
          have q39 := isE.out F39
          have f39 := em39.trans (congrArg some q39)
          clear ev39 em39 F39
          obtain ⟨v40, ev40, em40, F40⟩ := h.slot (i := 6) rfl rfl (hall 6 (by decide))
          have q40 := isE.out F40
          have f40 := em40.trans (congrArg some q40)
          clear ev40 em40 F40
          obtain ⟨v41, ev41, em41, F41⟩ := h.slot (i := 7) rfl rfl (hall 7 (by decide))
          have q41 := isE.out F41
          have f41 := em41.trans (congrArg some q41)
          clear ev41 em41 F41
          obtain ⟨v42, ev42, em42, F42⟩ := h.slot (i := 8) rfl rfl (hall 8 (by decide))
          obtain ⟨x42, y42, z42, q42, s42⟩ := isV.out F42
          have f42 := em42.trans (congrArg some q42)
          clear ev42 em42 F42
          obtain ⟨v43, ev43, em43, F43⟩ := h.slot (i := 9) rfl rfl (hall 9 (by decide))
          have q43 := isE.out F43
          have f43 := em43.trans (congrArg some q43)
          clear ev43 em43 F43
          obtain ⟨v44, ev44, em44, F44⟩ := h.slot (i := 10) rfl rfl (hall 10 (by decide))
          obtain ⟨x44, y44, z44, q44, s44⟩ := isV.out F44
          have f44 := em44.trans (congrArg some q44)
          clear ev44 em44 F44
          obtain rfl : m10 = _ := Option.some.inj (hm10.symm.trans f10)
          have ha := h.act [10, 34, 35, 36, 37, 38, 39, 40, 41, 42, 43, 44] [_, _, _, _, _, _, _, _, _, _, _, _] (by kernel_rfl) ⟨f10, f34, f35, f36, f37, f38, f39, f40, f41, f42, f43, f44, trivial⟩
          clear f10 f34 f35 f36 f37 f38 f39 f40 f41 f42 f43 f44
          simp only [setAll, List.setIfInBounds_toArray, List.set_cons_zero, List.set_cons_succ] at ha
          subst ha
          clear h hall
          obtain ⟨kv, v0, v1, v2, hke, hkv, hxv, hsv⟩ := hf10
          cases hke
          obtain ⟨wt, rfl⟩ : ∃ z : World, z = u := ⟨u, rfl⟩
          have HV := Lib.hid hxv
          have SV := Lib.hid hsv
          have lv := hxv.lt
          have yt := hB.size
          have HXt := Lib.hid (HXq.out.go hB)
          have HOt := Lib.hid (HOq.out.go hB)
          have HTt := Lib.hid (HT.out.go hB)
          have HR1t := Lib.hid (HR1.out.go hB)
          have HR2t := Lib.hid (HR2.out.go hB)
          have Y0t := Lib.hid (Y0q.out.go hB)
          have HBt := Lib.hid (HBq.out.trans (hB.mono (by omega)))
          clear hxv hsv hB hw0 hm10 HXq HOq HT HR1 HR2 HR3 Y0q HBq
          have hw0 : Below wt.heap.size wt wt.drew := (Below.refl _ _).drew
          go_upto_region 7 with fail
          refine region_inv (stat [isE (.pointer (some ⟨g, 0, none⟩)), isE (.pointer (some ⟨g, 0, none⟩)), isE (.pointer (some ⟨g, 0, none⟩)), isE (.slice (some ⟨b1, 0, none⟩) n c1), isE (.int .i64 (k : Int)), isE (.agg #[.float .f32 (D1.P k).x, .float .f32 (D1.P k).y, .float .f32 (D1.P k).z]), isE (.agg #[.float .f32 v0, .float .f32 v1, .float .f32 v2]), isV (vadd (D1.P k) (vmul (vsub (D1.P k) (D1.B k)) f)), isE (.agg #[.float .f32 q.x, .float .f32 q.y, .float .f32 q.z]), isE (.float .f32 t), isE (.float .f32 t), isF (F.mul t t), isV (vmul q (F.mul t t)), isV (vadd (vadd (D1.P k) (vmul (vsub (D1.P k) (D1.B k)) f)) (vmul q (F.mul t t))), isE (.pointer (some ⟨b1, k * 3, none⟩)), fun _ => True]) (fun l W => Js [(15, fun W => ∃ W5 r0 r1 r2, Below wt.heap.size wt W5 ∧ SimP ⟨r0, r1, r2⟩ (vadd (vadd (D1.P k) (vmul (vsub (D1.P k) (D1.B k)) f)) (vmul q (F.mul t t))) ∧ W = (((W5.setCell ⟨b1, k * 3, none⟩ (.float .f32 r0)).setCell ⟨b1, k * 3 + 1, none⟩ (.float .f32 r1)).setCell ⟨b1, k * 3 + 2, none⟩ (.float .f32 r2)))] (fun W => Below wt.heap.size wt W) l W) (by kernel_rfl) (by kernel_rfl) (by kernel_rfl) (Js.first hw0) ⟨?r0, ?r1, ?r2, ?r3, ?r4, ?r5, ?r6, ?r7, ?r8, ?r9, ?r10, ?r11, ?r12, ?r13, ?r14, ?r15, trivial⟩ ?hend
          case r0 =>
            intro listed a u h hu hd K hK
            have e0 : a.tmps.getD 0 undef = .pointer (some ⟨g, 0, none⟩) := h.base (by kernel_rfl)
            have f0 : a.tmps[0]? = some (.pointer (some ⟨g, 0, none⟩)) := h.old (by kernel_rfl)
            rw [if_pos (by rfl)]
            go_simp
            exact hK _ _ (fact_stat _ _ _) (isE.mk rfl) (Js.neutral h.world rfl)
          case r1 =>
            intro listed a u h hu hd K hK
            obtain ⟨v45, ev45, em45, F45⟩ := h.slot (i := 0) rfl rfl (hd _ (Array.mem_of_getElem? (i := 0) rfl) rfl)
            have e45 := ev45.trans (isE.out F45)
            have f45 := em45.trans (congrArg some (isE.out F45))
            clear ev45 em45 F45
            rw [if_pos (by rfl)]
            go_simp
            exact hK _ _ (fact_stat _ _ _) (isE.mk rfl) (Js.neutral h.world rfl)
          case r2 =>
            intro listed a u h hu hd K hK
            obtain ⟨v46, ev46, em46, F46⟩ := h.slot (i := 1) rfl rfl (hd _ (Array.mem_of_getElem? (i := 0) rfl) rfl)
            have e46 := ev46.trans (isE.out F46)
            have f46 := em46.trans (congrArg some (isE.out F46))
            clear ev46 em46 F46
            rw [if_pos (by rfl)]
            go_simp
            exact hK _ _ (fact_stat _ _ _) (isE.mk rfl) (Js.neutral h.world rfl)
          case r3 =>
            intro listed a u h hu hd K hK
            have hw := (RI.wait' h (getD_un hu) (T := 15) rfl (Array.mem_of_getElem? (i := 6) rfl) rfl rfl)
            have hA := Js.now h.world hw
            obtain ⟨v47, ev47, em47, F47⟩ := h.slot (i := 2) rfl rfl (hd _ (Array.mem_of_getElem? (i := 0) rfl) rfl)
            have e47 := ev47.trans (isE.out F47)
            have f47 := em47.trans (congrArg some (isE.out F47))
            clear ev47 em47 F47
            rw [if_pos (by rfl)]
            obtain ⟨g0, g1, g2, g3, gf⟩ := (HXt.out.go hA).facts
            obtain ⟨t0_, t1_, t2_, tf_⟩ := (HTt.out.go hA).facts
            obtain ⟨v0_, v1_, v2_, vf_⟩ := (HV.out.go hA).facts
            obtain ⟨w0_, w1_, w2_, wf_⟩ := (Y0t.out.go hA).facts
            obtain ⟨m0, m1, m2, ma, mb, mc⟩ := (HR1t.out.go hA).at3 hlt
            rw [vc0] at m0
            rw [vc1] at m1
            rw [vc2] at m2
            have lm_ := (HR1t.out.go hA).lt
            go_simp
            exact hK _ _ (fact_stat _ _ _) (isE.mk rfl) (Js.stay hw (by decide) hA)
          case r4 =>
            intro listed a u h hu hd K hK
            have e8 : a.tmps.getD 8 undef = .int .i64 (k : Int) := h.base (by kernel_rfl)
            have f8 : a.tmps[8]? = some (.int .i64 (k : Int)) := h.old (by kernel_rfl)
            rw [if_pos (by rfl)]
            go_simp
            exact hK _ _ (fact_stat _ _ _) (isE.mk rfl) (Js.neutral h.world rfl)
          case r5 =>
            intro listed a u h hu hd K hK
            have hw := (RI.wait' h (getD_un hu) (T := 15) rfl (Array.mem_of_getElem? (i := 8) rfl) rfl rfl)
            have hA := Js.now h.world hw
            have e9 : a.tmps.getD 9 undef = .pointer (some ⟨wr.heap.size, 0, none⟩) := h.base (by kernel_rfl)
            have f9 : a.tmps[9]? = some (.pointer (some ⟨wr.heap.size, 0, none⟩)) := h.old (by kernel_rfl)
            rw [if_pos (by rfl)]
            obtain ⟨g0, g1, g2, g3, gf⟩ := (HXt.out.go hA).facts
            obtain ⟨t0_, t1_, t2_, tf_⟩ := (HTt.out.go hA).facts
            obtain ⟨v0_, v1_, v2_, vf_⟩ := (HV.out.go hA).facts
            obtain ⟨w0_, w1_, w2_, wf_⟩ := (Y0t.out.go hA).facts
            obtain ⟨m0, m1, m2, ma, mb, mc⟩ := (HR1t.out.go hA).at3 hlt
            rw [vc0] at m0
            rw [vc1] at m1
            rw [vc2] at m2
            have lm_ := (HR1t.out.go hA).lt
            go_simp
            exact hK _ _ (fact_stat _ _ _) (isE.mk rfl) (Js.stay hw (by decide) hA)
          case r6 =>
            intro listed a u h hu hd K hK
            have hw := (RI.wait' h (getD_un hu) (T := 15) rfl (Array.mem_of_getElem? (i := 9) rfl) rfl rfl)
            have hA := Js.now h.world hw
            have e10 : a.tmps.getD 10 undef = .pointer (some ⟨k10, 0, none⟩) := h.base (by kernel_rfl)
            have f10 : a.tmps[10]? = some (.pointer (some ⟨k10, 0, none⟩)) := h.old (by kernel_rfl)
            rw [if_pos (by rfl)]
            obtain ⟨g0, g1, g2, g3, gf⟩ := (HXt.out.go hA).facts
            obtain ⟨t0_, t1_, t2_, tf_⟩ := (HTt.out.go hA).facts
            obtain ⟨v0_, v1_, v2_, vf_⟩ := (HV.out.go hA).facts
            obtain ⟨w0_, w1_, w2_, wf_⟩ := (Y0t.out.go hA).facts
            obtain ⟨m0, m1, m2, ma, mb, mc⟩ := (HR1t.out.go hA).at3 hlt
            rw [vc0] at m0
            rw [vc1] at m1
            rw [vc2] at m2
            have lm_ := (HR1t.out.go hA).lt
            go_simp
            exact hK _ _ (fact_stat _ _ _) (isE.mk rfl) (Js.stay hw (by decide) hA)
          case r7 =>
            intro listed a u h hu hd K hK
            have hw := (RI.wait' h (getD_un hu) (T := 15) rfl (Array.mem_of_getElem? (i := 10) rfl) rfl rfl)
            have hA := Js.now h.world hw
            obtain ⟨v50, ev50, em50, F50⟩ := h.slot (i := 5) rfl rfl (hd _ (Array.mem_of_getElem? (i := 0) rfl) rfl)
            have e50 := ev50.trans (isE.out F50)
            have f50 := em50.trans (congrArg some (isE.out F50))
            clear ev50 em50 F50
            obtain ⟨v51, ev51, em51, F51⟩ := h.slot (i := 6) rfl rfl (hd _ (Array.mem_of_getElem? (i := 1) rfl) rfl)
            have e51 := ev51.trans (isE.out F51)
            have f51 := em51.trans (congrArg some (isE.out F51))
            clear ev51 em51 F51
            rw [if_pos (by rfl)]
            go_simp
            refine Calls.mono (spec_l01Add _ _ _ _ _ _ u) ?_
            rintro e u2 ⟨a0_, a1_, a2_, rfl, _, r0, r1, r2, hb⟩
            exact hK _ _ (fact_stat _ _ _) (isV.mk ⟨r0.trans (fadd_sim (Sim.refl _ _) SV.out.1), r1.trans (fadd_sim (Sim.refl _ _) SV.out.2.1), r2.trans (fadd_sim (Sim.refl _ _) SV.out.2.2)⟩) (Js.stay hw (by decide) (hA.trans (hb.mono hA.size)))
          case r8 =>
            intro listed a u h hu hd K hK
            have hw := (RI.wait' h (getD_un hu) (T := 15) rfl (Array.mem_of_getElem? (i := 11) rfl) rfl rfl)
            have hA := Js.now h.world hw
            have e5 : a.tmps.getD 5 undef = .pointer (some ⟨w.heap.size, 0, none⟩) := h.base (by kernel_rfl)
            have f5 : a.tmps[5]? = some (.pointer (some ⟨w.heap.size, 0, none⟩)) := h.old (by kernel_rfl)
            rw [if_pos (by rfl)]
            obtain ⟨g0, g1, g2, g3, gf⟩ := (HXt.out.go hA).facts
            obtain ⟨t0_, t1_, t2_, tf_⟩ := (HTt.out.go hA).facts
            obtain ⟨v0_, v1_, v2_, vf_⟩ := (HV.out.go hA).facts
            obtain ⟨w0_, w1_, w2_, wf_⟩ := (Y0t.out.go hA).facts
            obtain ⟨m0, m1, m2, ma, mb, mc⟩ := (HR1t.out.go hA).at3 hlt
            rw [vc0] at m0
            rw [vc1] at m1
            rw [vc2] at m2
            have lm_ := (HR1t.out.go hA).lt
            go_simp
            exact hK _ _ (fact_stat _ _ _) (isE.mk rfl) (Js.stay hw (by decide) hA)
          case r9 =>
            intro listed a u h hu hd K hK
            have e3 : a.tmps.getD 3 undef = .float .f32 t := h.base (by kernel_rfl)
            have f3 : a.tmps[3]? = some (.float .f32 t) := h.old (by kernel_rfl)
            rw [if_pos (by rfl)]
            go_simp
            exact hK _ _ (fact_stat _ _ _) (isE.mk rfl) (Js.neutral h.world rfl)
          case r10 =>
            intro listed a u h hu hd K hK
            have e3 : a.tmps.getD 3 undef = .float .f32 t := h.base (by kernel_rfl)
            have f3 : a.tmps[3]? = some (.float .f32 t) := h.old (by kernel_rfl)
            rw [if_pos (by rfl)]
            go_simp
            exact hK _ _ (fact_stat _ _ _) (isE.mk rfl) (Js.neutral h.world rfl)
          case r11 =>
            intro listed a u h hu hd K hK
            have hw := (RI.wait' h (getD_un hu) (T := 15) rfl (Array.mem_of_getElem? (i := 14) rfl) rfl rfl)
            have hA := Js.now h.world hw
            obtain ⟨v54, ev54, em54, F54⟩ := h.slot (i := 9) rfl rfl (hd _ (Array.mem_of_getElem? (i := 0) rfl) rfl)
            have e54 := ev54.trans (isE.out F54)
            have f54 := em54.trans (congrArg some (isE.out F54))
            clear ev54 em54 F54
            obtain ⟨v55, ev55, em55, F55⟩ := h.slot (i := 10) rfl rfl (hd _ (Array.mem_of_getElem? (i := 1) rfl) rfl)
            have e55 := ev55.trans (isE.out F55)
            have f55 := em55.trans (congrArg some (isE.out F55))
            clear ev55 em55 F55
            rw [if_pos (by rfl)]
            go_simp
            exact hK _ _ (fact_stat _ _ _) (isF.mk (opV_lt32 _ _ _ _ _) (mul_sim (Sim.refl _ _) (Sim.refl _ _) _ _)) (Js.stay hw (by decide) (below_dn hA _))
          case r12 =>
            intro listed a u h hu hd K hK
            have hw := (RI.wait' h (getD_un hu) (T := 15) rfl (Array.mem_of_getElem? (i := 15) rfl) rfl rfl)
            have hA := Js.now h.world hw
            obtain ⟨v53, ev53, em53, F53⟩ := h.slot (i := 8) rfl rfl (hd _ (Array.mem_of_getElem? (i := 0) rfl) rfl)
            have e53 := ev53.trans (isE.out F53)
            have f53 := em53.trans (congrArg some (isE.out F53))
            clear ev53 em53 F53
            obtain ⟨v56, ev56, em56, F56⟩ := h.slot (i := 11) rfl rfl (hd _ (Array.mem_of_getElem? (i := 1) rfl) rfl)
            obtain ⟨x56, q56, l56, s56⟩ := isF.out F56
            have e56 := ev56.trans q56
            have f56 := em56.trans (congrArg some q56)
            clear ev56 em56 F56
            rw [if_pos (by rfl)]
            go_simp
            refine Calls.mono (spec_l01Scale _ _ _ _ u) ?_
            rintro e u2 ⟨a0_, a1_, a2_, rfl, _, r0, r1, r2, hb⟩
            exact hK _ _ (fact_stat _ _ _) (isV.mk ⟨r0.trans (fmul_sim (Sim.refl _ _) s56), r1.trans (fmul_sim (Sim.refl _ _) s56), r2.trans (fmul_sim (Sim.refl _ _) s56)⟩) (Js.stay hw (by decide) (hA.trans (hb.mono hA.size)))
          case r13 =>
            intro listed a u h hu hd K hK
            have hw := (RI.wait' h (getD_un hu) (T := 15) rfl (Array.mem_of_getElem? (i := 1) rfl) rfl rfl)
            have hA := Js.now h.world hw
            obtain ⟨v52, ev52, em52, F52⟩ := h.slot (i := 7) rfl rfl (hd _ (Array.mem_of_getElem? (i := 0) rfl) rfl)
            obtain ⟨x52, y52, z52, q52, s52⟩ := isV.out F52
            have e52 := ev52.trans q52
            have f52 := em52.trans (congrArg some q52)
            clear ev52 em52 F52
            obtain ⟨v57, ev57, em57, F57⟩ := h.slot (i := 12) rfl rfl (hd _ (Array.mem_of_getElem? (i := 1) rfl) rfl)
            obtain ⟨x57, y57, z57, q57, s57⟩ := isV.out F57
            have e57 := ev57.trans q57
            have f57 := em57.trans (congrArg some q57)
            clear ev57 em57 F57
            rw [if_pos (by rfl)]
            go_simp
            refine Calls.mono (spec_l01Add _ _ _ _ _ _ u) ?_
            rintro e u2 ⟨a0_, a1_, a2_, rfl, _, r0, r1, r2, hb⟩
            exact hK _ _ (fact_stat _ _ _) (isV.mk ⟨r0.trans (fadd_sim s52.1 s57.1), r1.trans (fadd_sim s52.2.1 s57.2.1), r2.trans (fadd_sim s52.2.2 s57.2.2)⟩) (Js.stay hw (by decide) (hA.trans (hb.mono hA.size)))
          case r14 =>
            intro listed a u h hu hd K hK
            obtain ⟨v48, ev48, em48, F48⟩ := h.slot (i := 3) rfl rfl (hd _ (Array.mem_of_getElem? (i := 0) rfl) rfl)
            have e48 := ev48.trans (isE.out F48)
            have f48 := em48.trans (congrArg some (isE.out F48))
            clear ev48 em48 F48
            obtain ⟨v49, ev49, em49, F49⟩ := h.slot (i := 4) rfl rfl (hd _ (Array.mem_of_getElem? (i := 1) rfl) rfl)
            have e49 := ev49.trans (isE.out F49)
            have f49 := em49.trans (congrArg some (isE.out F49))
            clear ev49 em49 F49
            rw [if_pos (by rfl)]
            go_simp
            exact hK _ _ (fact_stat _ _ _) (isE.mk rfl) (Js.neutral h.world rfl)
          case r15 =>
            intro listed a u h hu hd K hK
            have hw := getD_un hu
            have hA := Js.now h.world hw
            obtain ⟨v59, ev59, em59, F59⟩ := h.slot (i := 14) rfl rfl (hd _ (Array.mem_of_getElem? (i := 0) rfl) rfl)
            have e59 := ev59.trans (isE.out F59)
            have f59 := em59.trans (congrArg some (isE.out F59))
            clear ev59 em59 F59
            obtain ⟨v58, ev58, em58, F58⟩ := h.slot (i := 13) rfl rfl (hd _ (Array.mem_of_getElem? (i := 1) rfl) rfl)
            obtain ⟨x58, y58, z58, q58, s58⟩ := isV.out F58
            have e58 := ev58.trans q58
            have f58 := em58.trans (congrArg some q58)
            clear ev58 em58 F58
            rw [if_pos (by rfl)]
            obtain ⟨g0, g1, g2, g3, gf⟩ := (HXt.out.go hA).facts
            obtain ⟨t0_, t1_, t2_, tf_⟩ := (HTt.out.go hA).facts
            obtain ⟨v0_, v1_, v2_, vf_⟩ := (HV.out.go hA).facts
            obtain ⟨w0_, w1_, w2_, wf_⟩ := (Y0t.out.go hA).facts
            obtain ⟨m0, m1, m2, ma, mb, mc⟩ := (HR1t.out.go hA).at3 hlt
            rw [vc0] at m0
            rw [vc1] at m1
            rw [vc2] at m2
            have lm_ := (HR1t.out.go hA).lt
            go_simp
            exact hK undef _ (fact_stat _ _ _) trivial (Js.hit (un_lt hu) (Js.nil ⟨u, x58, y58, z58, hA, s58, rfl⟩))
          case hend =>
            intro listed a u h hall
            have hB : (fun W => ∃ W5 r0 r1 r2, Below wt.heap.size wt W5 ∧ SimP ⟨r0, r1, r2⟩ (vadd (vadd (D1.P k) (vmul (vsub (D1.P k) (D1.B k)) f)) (vmul q (F.mul t t))) ∧ W = (((W5.setCell ⟨b1, k * 3, none⟩ (.float .f32 r0)).setCell ⟨b1, k * 3 + 1, none⟩ (.float .f32 r1)).setCell ⟨b1, k * 3 + 2, none⟩ (.float .f32 r2))) u := (Js.past h.world (hall 15 (by decide)))
            obtain ⟨v45, ev45, em45, F45⟩ := h.slot (i := 0) rfl rfl (hall 0 (by decide))
            have f45 := em45.trans (congrArg some (isE.out F45))
            clear ev45 em45 F45
            obtain ⟨v46, ev46, em46, F46⟩ := h.slot (i := 1) rfl rfl (hall 1 (by decide))
            have f46 := em46.trans (congrArg some (isE.out F46))
            clear ev46 em46 F46
            obtain ⟨v47, ev47, em47, F47⟩ := h.slot (i := 2) rfl rfl (hall 2 (by decide))
            have f47 := em47.trans (congrArg some (isE.out F47))
            clear ev47 em47 F47
            obtain ⟨v48, ev48, em48, F48⟩ := h.slot (i := 3) rfl rfl (hall 3 (by decide))
            have f48 := em48.trans (congrArg some (isE.out F48))
            clear ev48 em48 F48
            obtain ⟨v49, ev49, em49, F49⟩ := h.slot (i := 4) rfl rfl (hall 4 (by decide))
            have f49 := em49.trans (congrArg some (isE.out F49))
            clear ev49 em49 F49
            obtain ⟨v50, ev50, em50, F50⟩ := h.slot (i := 5) rfl rfl (hall 5 (by decide))
            have f50 := em50.trans (congrArg some (isE.out F50))
            clear ev50 em50 F50
            obtain ⟨v51, ev51, em51, F51⟩ := h.slot (i := 6) rfl rfl (hall 6 (by decide))
            have f51 := em51.trans (congrArg some (isE.out F51))
            clear ev51 em51 F51
            obtain ⟨v52, ev52, em52, F52⟩ := h.slot (i := 7) rfl rfl (hall 7 (by decide))
            obtain ⟨x52, y52, z52, q52, s52⟩ := isV.out F52
            have f52 := em52.trans (congrArg some q52)
            clear ev52 em52 F52
            obtain ⟨v53, ev53, em53, F53⟩ := h.slot (i := 8) rfl rfl (hall 8 (by decide))
            have f53 := em53.trans (congrArg some (isE.out F53))
            clear ev53 em53 F53
            obtain ⟨v54, ev54, em54, F54⟩ := h.slot (i := 9) rfl rfl (hall 9 (by decide))
            have f54 := em54.trans (congrArg some (isE.out F54))
            clear ev54 em54 F54
            obtain ⟨v55, ev55, em55, F55⟩ := h.slot (i := 10) rfl rfl (hall 10 (by decide))
            have f55 := em55.trans (congrArg some (isE.out F55))
            clear ev55 em55 F55
            obtain ⟨v56, ev56, em56, F56⟩ := h.slot (i := 11) rfl rfl (hall 11 (by decide))
            obtain ⟨x56, q56, l56, s56⟩ := isF.out F56
            have f56 := em56.trans (congrArg some q56)
            clear ev56 em56 F56
            obtain ⟨v57, ev57, em57, F57⟩ := h.slot (i := 12) rfl rfl (hall 12 (by decide))
            obtain ⟨x57, y57, z57, q57, s57⟩ := isV.out F57
            have f57 := em57.trans (congrArg some q57)
            clear ev57 em57 F57
            obtain ⟨v58, ev58, em58, F58⟩ := h.slot (i := 13) rfl rfl (hall 13 (by decide))
            obtain ⟨x58, y58, z58, q58, s58⟩ := isV.out F58
            have f58 := em58.trans (congrArg some q58)
            clear ev58 em58 F58
            obtain ⟨v59, ev59, em59, F59⟩ := h.slot (i := 14) rfl rfl (hall 14 (by decide))
            have f59 := em59.trans (congrArg some (isE.out F59))
            clear ev59 em59 F59
            have ha := h.act [45, 46, 47, 48, 49, 50, 51, 52, 53, 54, 55, 56, 57, 58, 59] [_, _, _, _, _, _, _, _, _, _, _, _, _, _, _] (by kernel_rfl) ⟨f45, f46, f47, f48, f49, f50, f51, f52, f53, f54, f55, f56, f57, f58, f59, trivial⟩
            clear f45 f46 f47 f48 f49 f50 f51 f52 f53 f54 f55 f56 f57 f58 f59
            simp only [setAll, List.setIfInBounds_toArray, List.set_cons_zero, List.set_cons_succ] at ha
            subst ha
            clear h hall
            obtain ⟨W5, r0, r1, r2, hb5, hs5, hu5⟩ := hB
            obtain ⟨wv, rfl⟩ : ∃ z : World, z = u := ⟨u, rfl⟩
            have S5 := Lib.hid hs5
            have y5 := hb5.size
            have HXv := Lib.hid (show Bx wv g 32 (.slice (some ⟨b1, 0, none⟩) n c1) (.slice (some ⟨b2, 0, none⟩) n c2) (.slice (some ⟨b3, 0, none⟩) n c3) (.slice A4 m c4) by rw [hu5]; exact (HXt.out.go hb5).far3' hn1 _ _ _)
            have HOv := Lib.hid (show Own wv M (some ⟨b1, 0, none⟩) (some ⟨b2, 0, none⟩) (some ⟨b3, 0, none⟩) A4 c1 c2 c3 c4 n n n m (setP D1 k ⟨r0, r1, r2⟩) by rw [hu5]; exact (HOt.out.go hb5).setP rfl hlt r0 r1 r2)
            have HTv := Lib.hid (show Tx wv wr.heap.size 38 (.float .f32 (D1.P k).x) (.float .f32 (D1.P k).y) (.float .f32 (D1.P k).z) by rw [hu5]; exact (HTt.out.go hb5).far3' (by omega) _ _ _)
            have HR2v := Lib.hid (show Rw wv b2 38 (c2 * 3) (n * 3) (vc D1.B) by rw [hu5]; exact (HR2t.out.go hb5).far3 hn12 _ _ _)
            have Y0v := Lib.hid (show Tx wv w.heap.size 38 (.float .f32 q.x) (.float .f32 q.y) (.float .f32 q.z) by rw [hu5]; exact (Y0t.out.go hb5).far3' (by omega) _ _ _)
            have HBv := Lib.hid (show Below M w wv by rw [hu5]; exact Tx.bel3 (HBt.out.trans (hb5.mono (by omega))) HB1 _ _ _)
            have yv : w.heap.size < wv.heap.size := by rw [hu5]; simp [World.setCell]; omega
            clear hu5 hb5 hs5 hw0 HXt HOt HTt HR1t HR2t Y0t HBt HV
            go_upto_region 8 with fail
            have lq2 := HR2v.out.lt
            obtain ⟨g0, g1, g2, g3, gf⟩ := HXv.out.facts
            have lg := HXv.out.lt
            obtain ⟨t0_, t1_, t2_, tf_⟩ := HTv.out.facts
            have lt_ := HTv.out.lt
            obtain ⟨m0, m1, m2, ma, mb, mc⟩ := HR2v.out.at3 hlt
            rw [vc0] at m0
            rw [vc1] at m1
            rw [vc2] at m2
            go_region
            all_goals
              clear g0 g1 g2 g3 gf lg t0_ t1_ t2_ tf_ lt_ m0 m1 m2 ma mb mc lq2
              go_wp2_with fail
              go_roundw
              case rel =>
                refine ⟨k + 1, setB (setP D1 k ⟨r0, r1, r2⟩) k (D1.P k), by omega, by go_num, ?_, (HOv.out.drewN _).setB rfl hlt _ _ _, (HXv.out.drewN _).far3' hn2 _ _ _, (Y0v.out.drewN _).far3' (by omega) _ _ _, Tx.bel3 (below_dn HBv.out _) HB2 _ _ _, ?_⟩
                · show SimD n n n m _ (setB (match nzW (D.W k) with | true => setP (flyD D q f t k) k (flyQ D q f t k) | false => flyD D q f t k) k (D.P k))
                  rw [← HWK.out, hnz]
                  exact setB_sim (setP_sim HS.out (S5.out.trans (vadd_sim (vadd_sim HPK.out (vmul_sim (vsub_sim HPK.out HBK.out) (Sim.refl _ _))) (SimP.refl _)))) HPK.out
                · have := HBv.out.size
                  simp [World.setCell]
                  omega
              case measure => simp [intOf]; omega
    · obtain rfl : n = k := by omega
      have HS := Lib.hid hS
      have HO1 := Lib.hid hO
      have HX1 := Lib.hid hX
      have HB1 := Lib.hid hB
      clear hS hO hX hB hY
      go_wp2_with fail
      refine bodyPost_end (results_none rfl _ _ _) rfl ?_
      exact ⟨rfl, HB1.out, D1, HS.out, HO1.out, HX1.out⟩
end Go.Proofs.Ytlhgaihfghobmaa
