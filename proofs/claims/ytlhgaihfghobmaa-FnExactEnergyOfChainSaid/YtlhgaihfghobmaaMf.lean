/- EnergyOfChain: contracts. -/
import Derived.Test.YtlhgaihfghobmaaRl
import Derived.Test.YtlhgaihfghobmaaRk
import Derived.Test.YtlhgaihfghobmaaDf
import Derived.Test.YtlhgaihfghobmaaDg
namespace Go.Proofs.Ytlhgaihfghobmaa
open Go.ChangeShapes Go.WideShapes Go.ChangeAt Go.RowKit Go.Deep

theorem RI.before {ops : Array Oper} {md : Region.Mode} {a0 : Act} {Fs : List (Value → World → Prop)} {J : Array Bool → World → Prop} {listed : Array Bool} {a : Act} {w : World} (h : RI md ops a0 Fs J listed a w) (ho : once ops a0.tmps.size = true) {j : Nat} {o : Oper} {t : Tmp} (hj : ops[j]? = some o) (ht : o.dst = some t) (hu : listed.getD j false = false) : a.tmps[t]? = a0.tmps[t]? :=
  h.keep t fun i q hi hq => by
    have e := once_spec ho hj ht hi hq
    subst e
    have hs : i < listed.size := by rw [h.size]; exact (Array.getElem?_eq_some_iff.1 hj).1
    simp [hs] at hu ⊢
    exact hu
def innV (p q : V3) : Nat := F.inner p.x p.y p.z q.x q.y q.z
def enV (D : D4) (t k : Nat) : V3 := vmul (vsub (D.P k) (D.B k)) (F.quo 1065353216 t)
/-- the energy of a place. -/
def enQ (D : D4) (q : V3) (t k : Nat) : Nat := F.sub (F.mul (F.mul 1056964608 (D.W k)) (innV (enV D t k) (enV D t k))) (F.mul (D.W k) (innV q (D.P k)))
set_option maxHeartbeats 8000000 in
set_option maxRecDepth 100000 in
theorem impl_energy (g B : Nat) (A1 A2 A3 A4 : Option Addr) (c1 c2 c3 c4 n m : Nat) (D : D4) (q : V3) (t : Nat) (w : World) (hx : Bx w g 32 (.slice A1 n c1) (.slice A2 n c2) (.slice A3 n c3) (.slice A4 m c4)) (ho : Own w B A1 A2 A3 A4 c1 c2 c3 c4 n n n m D) (hn : n ≤ 24) :
    Calls Try.prog 103 #[.pointer (some ⟨g, 0, none⟩), .agg #[.float .f32 q.x, .float .f32 q.y, .float .f32 q.z], .float .f32 t] w (RetF .f32 (sumF (enQ D q t) n) w) := by
  have HX := Lib.hid (hx.alloc (.cells #[.float .f32 q.x, .float .f32 q.y, .float .f32 q.z] 38))
  have HO := Lib.hid (ho.go (w' := w.alloc (.cells #[.float .f32 q.x, .float .f32 q.y, .float .f32 q.z] 38)) (by repeat' (first | with_reducible exact Below.refl _ _ | with_reducible assumption | with_reducible refine below_dn ?_ _ | with_reducible refine Below.drew ?_ | with_reducible refine below_step ?_ (by assumption) | with_reducible refine Below.setCell ?_ ?_ _ | with_reducible refine Below.alloc ?_ ?_ _ | with_reducible exact Nat.le_refl _ | (simp; done) | (simp; omega) | omega)))
  have Y0 := Lib.hid (Tx.new_ w 38 (.float .f32 q.x) (.float .f32 q.y) (.float .f32 q.z))
  obtain ⟨w0, hw0⟩ : ∃ z : World, z = w.alloc (.cells #[.float .f32 q.x, .float .f32 q.y, .float .f32 q.z] 38) := ⟨_, rfl⟩
  have hb0 : Below w.heap.size w w0 := by rw [hw0]; exact Below.alloc (Below.refl _ _) (Nat.le_refl _) _
  rw [← hw0] at HX HO Y0
  have B0 := Lib.hid hb0
  obtain ⟨p0, p1, p2, p3, pf⟩ := hx.facts
  have lp := hx.lt
  clear hx ho hb0
  go_enter Try.func103, Try.ntmps103
  go_wp2_with fail
  clear p0 p1 p2 p3 pf lp
  go_loopw [7, 17] (fun s i wr => ∃ (k x : Nat), k ≤ n ∧ s = .float .f32 x ∧ i = .int .i64 k ∧ x < 4294967296 ∧ Sim .f32 x (sumF (enQ D q t) k) ∧ Below w0.heap.size w0 wr) (fun _ i _ => n - (intOf i).toNat)
  case atStart => exact ⟨0, 0, Nat.zero_le _, rfl, rfl, by decide, Sim.refl _ _, by rw [hw0]; exact Below.refl _ _⟩
  case round =>
    obtain ⟨k, x, hk, rfl, rfl, hx1, hS, hB⟩ := hrel
    have HS := Lib.hid hS
    have HB := Lib.hid hB
    by_cases hlt : k < n
    · obtain ⟨b1, hA1, _, _, _, hr1⟩ := (HO.out.go hB).s1 (by omega)
      obtain ⟨b2, hA2, _, _, _, hr2⟩ := (HO.out.go hB).s2 (by omega)
      obtain ⟨b3, hA3, _, _, _, hr3⟩ := (HO.out.go hB).s3 (by omega)
      subst hA1
      subst hA2
      subst hA3
      have hk0 : (0 : Int) ≤ (k : Int) := by omega
      have hk1 : (k : Int) < (n : Int) := by omega
      have hXr := HX.out.go hB
      have hYr := Y0.out.go hB
      obtain ⟨g0, g1, g2, g3, gf⟩ := hXr.facts
      have lg := hXr.lt
      obtain ⟨e0, e1, e2, _, _, _⟩ := hr1.at3 hlt
      rw [vc0] at e0
      rw [vc1] at e1
      rw [vc2] at e2
      have l1 := hr1.lt
      obtain ⟨wq, hwq⟩ : ∃ wq : World, wq = wr.alloc (.cells #[.float .f32 (D.P k).x, .float .f32 (D.P k).y, .float .f32 (D.P k).z] 38) := ⟨_, rfl⟩
      have hBq : Below wr.heap.size wr wq := by rw [hwq]; exact Below.alloc (Below.refl _ _) (Nat.le_refl _) _
      have HT := Lib.hid (show Tx wq wr.heap.size 38 (.float .f32 (D.P k).x) (.float .f32 (D.P k).y) (.float .f32 (D.P k).z) by rw [hwq]; exact Tx.new_ _ _ _ _ _)
      have HXq := Lib.hid (hXr.go hBq)
      have Y0q := Lib.hid (hYr.go hBq)
      have HR2 := Lib.hid (hr2.go hBq)
      have HR3 := Lib.hid (hr3.go hBq)
      have HBQ := Lib.hid (below_step hB hBq)
      clear hS hB hr1 hr2 hr3 hXr hYr hBq HB
      have HB := HBQ
      clear HBQ
      go_upto_region 5 with fail
      rw [← hwq]
      clear hwq g0 g1 g2 g3 gf lg e0 e1 e2 l1
      have hw0 : Below wq.heap.size wq wq.drew := (Below.refl _ _).drew
      refine region_inv3 [fun v _ => isE (.agg #[.float .f32 (D.P k).x, .float .f32 (D.P k).y, .float .f32 (D.P k).z]) v, fun v _ => isE (.pointer (some ⟨g, 0, none⟩)) v, fun v _ => isE (.pointer (some ⟨g, 0, none⟩)) v, fun v _ => isE (.pointer (some ⟨g, 1, none⟩)) v, fun v _ => isE (.slice (some ⟨b2, 0, none⟩) n c2) v, fun v _ => isE (.int .i64 (k : Int)) v, fun v _ => isE (.pointer (some ⟨b2, k * 3, none⟩)) v, fun v _ => isE (.agg #[.float .f32 (D.B k).x, .float .f32 (D.B k).y, .float .f32 (D.B k).z]) v, fun v _ => isV (vsub (D.P k) (D.B k)) v, fun v _ => isE (.float .f32 t) v, fun v _ => isF (F.quo 1065353216 t) v, fun v _ => isV (enV D t k) v, fun v _ => isE (.pointer (some ⟨g, 0, none⟩)) v, fun v _ => isE (.pointer (some ⟨g, 0, none⟩)) v, fun v _ => isE (.pointer (some ⟨g, 2, none⟩)) v, fun v _ => isE (.slice (some ⟨b3, 0, none⟩) n c3) v, fun v _ => isE (.int .i64 (k : Int)) v, fun v _ => isE (.pointer (some ⟨b3, k, none⟩)) v, fun v _ => isE (.float .f32 (D.W k)) v, isP wq.heap.size, fun _ _ => True, fun v _ => isE (.float .f32 (D.W k)) v] (fun l a W => Js [] (fun W => Below wq.heap.size wq W) l W ∧ Fn 20 10 (isPV wq.heap.size (enV D t k)) l a W) (by kernel_rfl) (by kernel_rfl) (by kernel_rfl) ⟨Js.nil hw0, Fn.first⟩ ⟨?r0, ?r1, ?r2, ?r3, ?r4, ?r5, ?r6, ?r7, ?r8, ?r9, ?r10, ?r11, ?r12, ?r13, ?r14, ?r15, ?r16, ?r17, ?r18, ?r19, ?r20, ?r21, trivial⟩ ?hend
      case r0 =>
        intro listed a u h hu hd K hK
        have hA : (fun W => Below wq.heap.size wq W) u := h.world.1
        have e9 : a.tmps.getD 9 undef = .pointer (some ⟨wr.heap.size, 0, none⟩) := h.base (by kernel_rfl)
        have f9 : a.tmps[9]? = some (.pointer (some ⟨wr.heap.size, 0, none⟩)) := h.old (by kernel_rfl)
        rw [if_pos (by rfl)]
        obtain ⟨g0, g1, g2, g3, gf⟩ := (HXq.out.go hA).facts
        obtain ⟨t0_, t1_, t2_, tf_⟩ := (HT.out.go hA).facts
        obtain ⟨m0, m1, m2, ma, mb, mc⟩ := (HR2.out.go hA).at3 hlt
        rw [vc0] at m0
        rw [vc1] at m1
        rw [vc2] at m2
        have i3 := (HR3.out.go hA).cell (j := k) (by omega)
        unfold fc at i3
        go_simp
        exact hK _ _ (fun _ _ _ h => h) (isE.mk rfl) ⟨(Js.nil (hA)), (Fn.neutral h.world.2 (by decide) (by decide) _)⟩
      case r1 =>
        intro listed a u h hu hd K hK
        have e0 : a.tmps.getD 0 undef = .pointer (some ⟨g, 0, none⟩) := h.base (by kernel_rfl)
        have f0 : a.tmps[0]? = some (.pointer (some ⟨g, 0, none⟩)) := h.old (by kernel_rfl)
        rw [if_pos (by rfl)]
        go_simp
        exact hK _ _ (fun _ _ _ h => h) (isE.mk rfl) ⟨(Js.neutral h.world.1 rfl), (Fn.neutral h.world.2 (by decide) (by decide) _)⟩
      case r2 =>
        intro listed a u h hu hd K hK
        obtain ⟨v23, ev23, em23, F23⟩ := h.slot (i := 1) rfl rfl (hd _ (Array.mem_of_getElem? (i := 0) rfl) rfl)
        have q23 := isE.out F23
        have e23 := ev23.trans q23
        have f23 := em23.trans (congrArg some q23)
        clear ev23 em23 F23
        rw [if_pos (by rfl)]
        go_simp
        exact hK _ _ (fun _ _ _ h => h) (isE.mk rfl) ⟨(Js.neutral h.world.1 rfl), (Fn.neutral h.world.2 (by decide) (by decide) _)⟩
      case r3 =>
        intro listed a u h hu hd K hK
        obtain ⟨v24, ev24, em24, F24⟩ := h.slot (i := 2) rfl rfl (hd _ (Array.mem_of_getElem? (i := 0) rfl) rfl)
        have q24 := isE.out F24
        have e24 := ev24.trans q24
        have f24 := em24.trans (congrArg some q24)
        clear ev24 em24 F24
        rw [if_pos (by rfl)]
        go_simp
        exact hK _ _ (fun _ _ _ h => h) (isE.mk rfl) ⟨(Js.neutral h.world.1 rfl), (Fn.neutral h.world.2 (by decide) (by decide) _)⟩
      case r4 =>
        intro listed a u h hu hd K hK
        have hA : (fun W => Below wq.heap.size wq W) u := h.world.1
        obtain ⟨v25, ev25, em25, F25⟩ := h.slot (i := 3) rfl rfl (hd _ (Array.mem_of_getElem? (i := 0) rfl) rfl)
        have q25 := isE.out F25
        have e25 := ev25.trans q25
        have f25 := em25.trans (congrArg some q25)
        clear ev25 em25 F25
        rw [if_pos (by rfl)]
        obtain ⟨g0, g1, g2, g3, gf⟩ := (HXq.out.go hA).facts
        obtain ⟨t0_, t1_, t2_, tf_⟩ := (HT.out.go hA).facts
        obtain ⟨m0, m1, m2, ma, mb, mc⟩ := (HR2.out.go hA).at3 hlt
        rw [vc0] at m0
        rw [vc1] at m1
        rw [vc2] at m2
        have i3 := (HR3.out.go hA).cell (j := k) (by omega)
        unfold fc at i3
        go_simp
        exact hK _ _ (fun _ _ _ h => h) (isE.mk rfl) ⟨(Js.nil (hA)), (Fn.neutral h.world.2 (by decide) (by decide) _)⟩
      case r5 =>
        intro listed a u h hu hd K hK
        have e8 : a.tmps.getD 8 undef = .int .i64 (k : Int) := h.base (by kernel_rfl)
        have f8 : a.tmps[8]? = some (.int .i64 (k : Int)) := h.old (by kernel_rfl)
        rw [if_pos (by rfl)]
        go_simp
        exact hK _ _ (fun _ _ _ h => h) (isE.mk rfl) ⟨(Js.neutral h.world.1 rfl), (Fn.neutral h.world.2 (by decide) (by decide) _)⟩
      case r6 =>
        intro listed a u h hu hd K hK
        obtain ⟨v26, ev26, em26, F26⟩ := h.slot (i := 4) rfl rfl (hd _ (Array.mem_of_getElem? (i := 0) rfl) rfl)
        have q26 := isE.out F26
        have e26 := ev26.trans q26
        have f26 := em26.trans (congrArg some q26)
        clear ev26 em26 F26
        obtain ⟨v27, ev27, em27, F27⟩ := h.slot (i := 5) rfl rfl (hd _ (Array.mem_of_getElem? (i := 1) rfl) rfl)
        have q27 := isE.out F27
        have e27 := ev27.trans q27
        have f27 := em27.trans (congrArg some q27)
        clear ev27 em27 F27
        rw [if_pos (by rfl)]
        go_simp
        exact hK _ _ (fun _ _ _ h => h) (isE.mk rfl) ⟨(Js.neutral h.world.1 rfl), (Fn.neutral h.world.2 (by decide) (by decide) _)⟩
      case r7 =>
        intro listed a u h hu hd K hK
        have hA : (fun W => Below wq.heap.size wq W) u := h.world.1
        obtain ⟨v28, ev28, em28, F28⟩ := h.slot (i := 6) rfl rfl (hd _ (Array.mem_of_getElem? (i := 0) rfl) rfl)
        have q28 := isE.out F28
        have e28 := ev28.trans q28
        have f28 := em28.trans (congrArg some q28)
        clear ev28 em28 F28
        rw [if_pos (by rfl)]
        obtain ⟨g0, g1, g2, g3, gf⟩ := (HXq.out.go hA).facts
        obtain ⟨t0_, t1_, t2_, tf_⟩ := (HT.out.go hA).facts
        obtain ⟨m0, m1, m2, ma, mb, mc⟩ := (HR2.out.go hA).at3 hlt
        rw [vc0] at m0
        rw [vc1] at m1
        rw [vc2] at m2
        have i3 := (HR3.out.go hA).cell (j := k) (by omega)
        unfold fc at i3
        go_simp
        exact hK _ _ (fun _ _ _ h => h) (isE.mk rfl) ⟨(Js.nil (hA)), (Fn.neutral h.world.2 (by decide) (by decide) _)⟩
      case r8 =>
        intro listed a u h hu hd K hK
        have hA : (fun W => Below wq.heap.size wq W) u := h.world.1
        obtain ⟨v22, ev22, em22, F22⟩ := h.slot (i := 0) rfl rfl (hd _ (Array.mem_of_getElem? (i := 0) rfl) rfl)
        have q22 := isE.out F22
        have e22 := ev22.trans q22
        have f22 := em22.trans (congrArg some q22)
        clear ev22 em22 F22
        obtain ⟨v29, ev29, em29, F29⟩ := h.slot (i := 7) rfl rfl (hd _ (Array.mem_of_getElem? (i := 1) rfl) rfl)
        have q29 := isE.out F29
        have e29 := ev29.trans q29
        have f29 := em29.trans (congrArg some q29)
        clear ev29 em29 F29
        rw [if_pos (by rfl)]
        go_simp
        refine Calls.mono (impl_LessVectors _ _ _ _ _ _ u) ?_
        rintro e u2 ⟨a0_, a1_, a2_, rfl, _, r0, r1, r2, hb⟩
        have hR : Gw u u2 := hb
        exact hK _ _ (fun j v hn hF => AllStX.fact0 (R := Gw) (i := 8) (by exact ⟨fun _ _ _ _ _ h => h, fun _ _ _ _ _ h => h, fun _ _ _ _ _ h => h, fun _ _ _ _ _ h => h, fun _ _ _ _ _ h => h, fun _ _ _ _ _ h => h, fun _ _ _ _ _ h => h, fun _ _ _ _ _ h => h, fun hn => absurd rfl hn, fun _ _ _ _ _ h => h, fun _ _ _ _ _ h => h, fun _ _ _ _ _ h => h, fun _ _ _ _ _ h => h, fun _ _ _ _ _ h => h, fun _ _ _ _ _ h => h, fun _ _ _ _ _ h => h, fun _ _ _ _ _ h => h, fun _ _ _ _ _ h => h, fun _ _ _ _ _ h => h, fun _ _ _ _ hW h => isP.go h hW, fun _ _ _ _ _ h => h, fun _ _ _ _ _ h => h, trivial⟩) hR j v hn hF) (isV.mk ⟨r0, r1, r2⟩) ⟨(Js.nil ((hA.trans (hb.mono hA.size)))), (Fn.no (RI3.wait' h (getD_un hu) (T := 20) rfl (Array.mem_of_getElem? (i := 11) rfl) rfl rfl) (by decide))⟩
      case r9 =>
        intro listed a u h hu hd K hK
        have e2 : a.tmps.getD 2 undef = .float .f32 t := h.base (by kernel_rfl)
        have f2 : a.tmps[2]? = some (.float .f32 t) := h.old (by kernel_rfl)
        rw [if_pos (by rfl)]
        go_simp
        exact hK _ _ (fun _ _ _ h => h) (isE.mk rfl) ⟨(Js.neutral h.world.1 rfl), (Fn.neutral h.world.2 (by decide) (by decide) _)⟩
      case r10 =>
        intro listed a u h hu hd K hK
        have hA : (fun W => Below wq.heap.size wq W) u := h.world.1
        obtain ⟨v31, ev31, em31, F31⟩ := h.slot (i := 9) rfl rfl (hd _ (Array.mem_of_getElem? (i := 0) rfl) rfl)
        have q31 := isE.out F31
        have e31 := ev31.trans q31
        have f31 := em31.trans (congrArg some q31)
        clear ev31 em31 F31
        rw [if_pos (by rfl)]
        go_simp
        exact hK _ _ (fun j v hn hF => AllStX.fact0 (R := Gw) (i := 10) (by exact ⟨fun _ _ _ _ _ h => h, fun _ _ _ _ _ h => h, fun _ _ _ _ _ h => h, fun _ _ _ _ _ h => h, fun _ _ _ _ _ h => h, fun _ _ _ _ _ h => h, fun _ _ _ _ _ h => h, fun _ _ _ _ _ h => h, fun _ _ _ _ _ h => h, fun _ _ _ _ _ h => h, fun hn => absurd rfl hn, fun _ _ _ _ _ h => h, fun _ _ _ _ _ h => h, fun _ _ _ _ _ h => h, fun _ _ _ _ _ h => h, fun _ _ _ _ _ h => h, fun _ _ _ _ _ h => h, fun _ _ _ _ _ h => h, fun _ _ _ _ _ h => h, fun _ _ _ _ hW h => isP.go h hW, fun _ _ _ _ _ h => h, fun _ _ _ _ _ h => h, trivial⟩) (below_n _ _ _) j v hn hF) (isF.mk (opV_lt32 _ _ _ _ _) (quo_sim (Sim.refl _ _) (Sim.refl _ _) _ _)) ⟨(Js.nil ((below_dn hA _))), (Fn.no (RI3.wait' h (getD_un hu) (T := 20) rfl (Array.mem_of_getElem? (i := 13) rfl) rfl rfl) (by decide))⟩
      case r11 =>
        intro listed a u h hu hd K hK
        have hA : (fun W => Below wq.heap.size wq W) u := h.world.1
        obtain ⟨v30, ev30, em30, F30⟩ := h.slot (i := 8) rfl rfl (hd _ (Array.mem_of_getElem? (i := 0) rfl) rfl)
        obtain ⟨x30, y30, z30, q30, s30⟩ := isV.out F30
        have e30 := ev30.trans q30
        have f30 := em30.trans (congrArg some q30)
        clear ev30 em30 F30
        obtain ⟨v32, ev32, em32, F32⟩ := h.slot (i := 10) rfl rfl (hd _ (Array.mem_of_getElem? (i := 1) rfl) rfl)
        obtain ⟨x32, q32, l32, s32⟩ := isF.out F32
        have e32 := ev32.trans q32
        have f32 := em32.trans (congrArg some q32)
        clear ev32 em32 F32
        rw [if_pos (by rfl)]
        go_simp
        refine Calls.mono (impl_ScaleVector _ _ _ _ u) ?_
        rintro e u2 ⟨a0_, a1_, a2_, rfl, _, r0, r1, r2, hb⟩
        have hR : Gw u u2 := hb
        exact hK _ _ (fun j v hn hF => AllStX.fact0 (R := Gw) (i := 11) (by exact ⟨fun _ _ _ _ _ h => h, fun _ _ _ _ _ h => h, fun _ _ _ _ _ h => h, fun _ _ _ _ _ h => h, fun _ _ _ _ _ h => h, fun _ _ _ _ _ h => h, fun _ _ _ _ _ h => h, fun _ _ _ _ _ h => h, fun _ _ _ _ _ h => h, fun _ _ _ _ _ h => h, fun _ _ _ _ _ h => h, fun hn => absurd rfl hn, fun _ _ _ _ _ h => h, fun _ _ _ _ _ h => h, fun _ _ _ _ _ h => h, fun _ _ _ _ _ h => h, fun _ _ _ _ _ h => h, fun _ _ _ _ _ h => h, fun _ _ _ _ _ h => h, fun _ _ _ _ hW h => isP.go h hW, fun _ _ _ _ _ h => h, fun _ _ _ _ _ h => h, trivial⟩) hR j v hn hF) (isV.mk ⟨r0.trans (fmul_sim s30.1 s32), r1.trans (fmul_sim s30.2.1 s32), r2.trans (fmul_sim s30.2.2 s32)⟩) ⟨(Js.nil ((hA.trans (hb.mono hA.size)))), (Fn.no (RI3.wait' h (getD_un hu) (T := 20) rfl (Array.mem_of_getElem? (i := 1) rfl) rfl rfl) (by decide))⟩
      case r12 =>
        intro listed a u h hu hd K hK
        have e0 : a.tmps.getD 0 undef = .pointer (some ⟨g, 0, none⟩) := h.base (by kernel_rfl)
        have f0 : a.tmps[0]? = some (.pointer (some ⟨g, 0, none⟩)) := h.old (by kernel_rfl)
        rw [if_pos (by rfl)]
        go_simp
        exact hK _ _ (fun _ _ _ h => h) (isE.mk rfl) ⟨(Js.neutral h.world.1 rfl), (Fn.neutral h.world.2 (by decide) (by decide) _)⟩
      case r13 =>
        intro listed a u h hu hd K hK
        obtain ⟨v34, ev34, em34, F34⟩ := h.slot (i := 12) rfl rfl (hd _ (Array.mem_of_getElem? (i := 0) rfl) rfl)
        have q34 := isE.out F34
        have e34 := ev34.trans q34
        have f34 := em34.trans (congrArg some q34)
        clear ev34 em34 F34
        rw [if_pos (by rfl)]
        go_simp
        exact hK _ _ (fun _ _ _ h => h) (isE.mk rfl) ⟨(Js.neutral h.world.1 rfl), (Fn.neutral h.world.2 (by decide) (by decide) _)⟩
      case r14 =>
        intro listed a u h hu hd K hK
        obtain ⟨v35, ev35, em35, F35⟩ := h.slot (i := 13) rfl rfl (hd _ (Array.mem_of_getElem? (i := 0) rfl) rfl)
        have q35 := isE.out F35
        have e35 := ev35.trans q35
        have f35 := em35.trans (congrArg some q35)
        clear ev35 em35 F35
        rw [if_pos (by rfl)]
        go_simp
        exact hK _ _ (fun _ _ _ h => h) (isE.mk rfl) ⟨(Js.neutral h.world.1 rfl), (Fn.neutral h.world.2 (by decide) (by decide) _)⟩
      case r15 =>
        intro listed a u h hu hd K hK
        have hA : (fun W => Below wq.heap.size wq W) u := h.world.1
        obtain ⟨v36, ev36, em36, F36⟩ := h.slot (i := 14) rfl rfl (hd _ (Array.mem_of_getElem? (i := 0) rfl) rfl)
        have q36 := isE.out F36
        have e36 := ev36.trans q36
        have f36 := em36.trans (congrArg some q36)
        clear ev36 em36 F36
        rw [if_pos (by rfl)]
        obtain ⟨g0, g1, g2, g3, gf⟩ := (HXq.out.go hA).facts
        obtain ⟨t0_, t1_, t2_, tf_⟩ := (HT.out.go hA).facts
        obtain ⟨m0, m1, m2, ma, mb, mc⟩ := (HR2.out.go hA).at3 hlt
        rw [vc0] at m0
        rw [vc1] at m1
        rw [vc2] at m2
        have i3 := (HR3.out.go hA).cell (j := k) (by omega)
        unfold fc at i3
        go_simp
        exact hK _ _ (fun _ _ _ h => h) (isE.mk rfl) ⟨(Js.nil (hA)), (Fn.neutral h.world.2 (by decide) (by decide) _)⟩
      case r16 =>
        intro listed a u h hu hd K hK
        have e8 : a.tmps.getD 8 undef = .int .i64 (k : Int) := h.base (by kernel_rfl)
        have f8 : a.tmps[8]? = some (.int .i64 (k : Int)) := h.old (by kernel_rfl)
        rw [if_pos (by rfl)]
        go_simp
        exact hK _ _ (fun _ _ _ h => h) (isE.mk rfl) ⟨(Js.neutral h.world.1 rfl), (Fn.neutral h.world.2 (by decide) (by decide) _)⟩
      case r17 =>
        intro listed a u h hu hd K hK
        obtain ⟨v37, ev37, em37, F37⟩ := h.slot (i := 15) rfl rfl (hd _ (Array.mem_of_getElem? (i := 0) rfl) rfl)
        have q37 := isE.out F37
        have e37 := ev37.trans q37
        have f37 := em37.trans (congrArg some q37)
        clear ev37 em37 F37
        obtain ⟨v38, ev38, em38, F38⟩ := h.slot (i := 16) rfl rfl (hd _ (Array.mem_of_getElem? (i := 1) rfl) rfl)
        have q38 := isE.out F38
        have e38 := ev38.trans q38
        have f38 := em38.trans (congrArg some q38)
        clear ev38 em38 F38
        rw [if_pos (by rfl)]
        go_simp
        exact hK _ _ (fun _ _ _ h => h) (isE.mk rfl) ⟨(Js.neutral h.world.1 rfl), (Fn.neutral h.world.2 (by decide) (by decide) _)⟩
      case r18 =>
        intro listed a u h hu hd K hK
        have hA : (fun W => Below wq.heap.size wq W) u := h.world.1
        obtain ⟨v39, ev39, em39, F39⟩ := h.slot (i := 17) rfl rfl (hd _ (Array.mem_of_getElem? (i := 0) rfl) rfl)
        have q39 := isE.out F39
        have e39 := ev39.trans q39
        have f39 := em39.trans (congrArg some q39)
        clear ev39 em39 F39
        rw [if_pos (by rfl)]
        obtain ⟨g0, g1, g2, g3, gf⟩ := (HXq.out.go hA).facts
        obtain ⟨t0_, t1_, t2_, tf_⟩ := (HT.out.go hA).facts
        obtain ⟨m0, m1, m2, ma, mb, mc⟩ := (HR2.out.go hA).at3 hlt
        rw [vc0] at m0
        rw [vc1] at m1
        rw [vc2] at m2
        have i3 := (HR3.out.go hA).cell (j := k) (by omega)
        unfold fc at i3
        go_simp
        exact hK _ _ (fun _ _ _ h => h) (isE.mk rfl) ⟨(Js.nil (hA)), (Fn.neutral h.world.2 (by decide) (by decide) _)⟩
      case r19 =>
        intro listed a u h hu hd K hK
        have hA : (fun W => Below wq.heap.size wq W) u := h.world.1
        rw [if_pos (by rfl)]
        go_simp
        have hR : Gw u (u.alloc (.cells #[.float .f32 0, .float .f32 0, .float .f32 0] 38)) := Below.alloc (Below.refl _ _) (Nat.le_refl _) _
        exact hK _ _ (fun j v hn hF => AllStX.fact0 (R := Gw) (i := 19) (by exact ⟨fun _ _ _ _ _ h => h, fun _ _ _ _ _ h => h, fun _ _ _ _ _ h => h, fun _ _ _ _ _ h => h, fun _ _ _ _ _ h => h, fun _ _ _ _ _ h => h, fun _ _ _ _ _ h => h, fun _ _ _ _ _ h => h, fun _ _ _ _ _ h => h, fun _ _ _ _ _ h => h, fun _ _ _ _ _ h => h, fun _ _ _ _ _ h => h, fun _ _ _ _ _ h => h, fun _ _ _ _ _ h => h, fun _ _ _ _ _ h => h, fun _ _ _ _ _ h => h, fun _ _ _ _ _ h => h, fun _ _ _ _ _ h => h, fun _ _ _ _ _ h => h, fun hn => absurd rfl hn, fun _ _ _ _ _ h => h, fun _ _ _ _ _ h => h, trivial⟩) hR j v hn hF) ⟨_, _, _, _, rfl, hA.size, Tx.new_ _ _ _ _ _⟩ ⟨(Js.nil (Below.alloc hA hA.size _)), (Fn.no (RI3.wait' h (getD_un hu) (T := 20) rfl (Array.mem_of_getElem? (i := 0) rfl) rfl rfl) (by decide))⟩
      case r20 =>
        intro listed a u h hu hd K hK
        have hA : (fun W => Below wq.heap.size wq W) u := h.world.1
        obtain ⟨v10, ev10, em10, F10⟩ := h.slot (i := 19) rfl rfl (hd _ (Array.mem_of_getElem? (i := 0) rfl) rfl)
        obtain ⟨k10, xa10, xb10, xc10, q10, hk10, hx10⟩ : isP wq.heap.size v10 u := F10
        have e10 := ev10.trans q10
        have f10 := em10.trans (congrArg some q10)
        clear ev10 em10
        obtain ⟨v33, ev33, em33, F33⟩ := h.slot (i := 11) rfl rfl (hd _ (Array.mem_of_getElem? (i := 1) rfl) rfl)
        obtain ⟨x33, y33, z33, q33, s33⟩ := isV.out F33
        have e33 := ev33.trans q33
        have f33 := em33.trans (congrArg some q33)
        clear ev33 em33 F33
        rw [if_pos (by rfl)]
        obtain ⟨g0, g1, g2, g3, gf⟩ := (HXq.out.go hA).facts
        obtain ⟨t0_, t1_, t2_, tf_⟩ := (HT.out.go hA).facts
        obtain ⟨m0, m1, m2, ma, mb, mc⟩ := (HR2.out.go hA).at3 hlt
        rw [vc0] at m0
        rw [vc1] at m1
        rw [vc2] at m2
        have i3 := (HR3.out.go hA).cell (j := k) (by omega)
        unfold fc at i3
        obtain ⟨y0_, y1_, y2_, yf_⟩ := hx10.facts
        have ly_ := hx10.lt
        go_simp
        have hY := hx10.setAll (.float .f32 x33) (.float .f32 y33) (.float .f32 z33)
        have hR : Pw u (((u.setCell ⟨k10, 0, none⟩ (.float .f32 x33)).setCell ⟨k10, 1, none⟩ (.float .f32 y33)).setCell ⟨k10, 2, none⟩ (.float .f32 z33)) := ⟨_, _, _, _, _, _, _, hx10, Wr.set3 u k10 0 1 2 _ _ _, hY⟩
        exact hK undef _ (fun j v hn hF => AllStX.fact0 (R := Pw) (i := 20) (by exact ⟨fun _ _ _ _ _ h => h, fun _ _ _ _ _ h => h, fun _ _ _ _ _ h => h, fun _ _ _ _ _ h => h, fun _ _ _ _ _ h => h, fun _ _ _ _ _ h => h, fun _ _ _ _ _ h => h, fun _ _ _ _ _ h => h, fun _ _ _ _ _ h => h, fun _ _ _ _ _ h => h, fun _ _ _ _ _ h => h, fun _ _ _ _ _ h => h, fun _ _ _ _ _ h => h, fun _ _ _ _ _ h => h, fun _ _ _ _ _ h => h, fun _ _ _ _ _ h => h, fun _ _ _ _ _ h => h, fun _ _ _ _ _ h => h, fun _ _ _ _ _ h => h, fun _ _ _ _ hW h => isP.st h hW, fun hn => absurd rfl hn, fun _ _ _ _ _ h => h, trivial⟩) hR j v hn hF) trivial ⟨(Js.nil ((Tx.bel hA hk10 _ _ _))), (Fn.hit f10 (⟨k10, x33, y33, z33, rfl, hk10, hY, s33⟩))⟩
      case r21 =>
        intro listed a u h hu hd K hK
        obtain ⟨v40, ev40, em40, F40⟩ := h.slot (i := 18) rfl rfl (hd _ (Array.mem_of_getElem? (i := 0) rfl) rfl)
        have q40 := isE.out F40
        have e40 := ev40.trans q40
        have f40 := em40.trans (congrArg some q40)
        clear ev40 em40 F40
        rw [if_pos (by rfl)]
        go_simp
        exact hK _ _ (fun _ _ _ h => h) (isE.mk rfl) ⟨(Js.neutral h.world.1 rfl), (Fn.neutral h.world.2 (by decide) (by decide) _)⟩
      case hend =>
        intro listed a u h hall
        have hB : (fun W => Below wq.heap.size wq W) u := h.world.1
        obtain ⟨m10, hm10, hf10⟩ := h.world.2 (hall 20 (by decide))
        obtain ⟨v10, ev10, em10, F10⟩ := h.slot (i := 19) rfl rfl (hall 19 (by decide))
        obtain ⟨k10, xa10, xb10, xc10, q10, hk10, hx10⟩ : isP wq.heap.size v10 u := F10
        have f10 := em10.trans (congrArg some q10)
        clear ev10 em10
        obtain ⟨v11, ev11, em11, F11⟩ := h.slot (i := 21) rfl rfl (hall 21 (by decide))
        have q11 := isE.out F11
        have f11 := em11.trans (congrArg some q11)
        clear ev11 em11 F11
        obtain ⟨v22, ev22, em22, F22⟩ := h.slot (i := 0) rfl rfl (hall 0 (by decide))
        have q22 := isE.out F22
        have f22 := em22.trans (congrArg some q22)
        clear ev22 em22 F22
        obtain ⟨v23, ev23, em23, F23⟩ := h.slot (i := 1) rfl rfl (hall 1 (by decide))
        have q23 := isE.out F23
        have f23 := em23.trans (congrArg some q23)
        clear ev23 em23 F23
        obtain ⟨v24, ev24, em24, F24⟩ := h.slot (i := 2) rfl rfl (hall 2 (by decide))
        have q24 := isE.out F24
        have f24 := em24.trans (congrArg some q24)
        clear ev24 em24 F24
        obtain ⟨v25, ev25, em25, F25⟩ := h.slot (i := 3) rfl rfl (hall 3 (by decide))
        have q25 := isE.out F25
        have f25 := em25.trans (congrArg some q25)
        clear ev25 em25 F25
        obtain ⟨v26, ev26, em26, F26⟩ := h.slot (i := 4) rfl rfl (hall 4 (by decide))
        have q26 := isE.out F26
        have f26 := em26.trans (congrArg some q26)
        clear ev26 em26 F26
        obtain ⟨v27, ev27, em27, F27⟩ := h.slot (i := 5) rfl rfl (hall 5 (by decide))
        have q27 := isE.out F27
        have f27 := em27.trans (congrArg some q27)
        clear ev27 em27 F27
        obtain ⟨v28, ev28, em28, F28⟩ := h.slot (i := 6) rfl rfl (hall 6 (by decide))
        have q28 := isE.out F28
        have f28 := em28.trans (congrArg some q28)
        clear ev28 em28 F28
        obtain ⟨v29, ev29, em29, F29⟩ := h.slot (i := 7) rfl rfl (hall 7 (by decide))
        have q29 := isE.out F29
        have f29 := em29.trans (congrArg some q29)
        clear ev29 em29 F29
        obtain ⟨v30, ev30, em30, F30⟩ := h.slot (i := 8) rfl rfl (hall 8 (by decide))
        obtain ⟨x30, y30, z30, q30, s30⟩ := isV.out F30
        have f30 := em30.trans (congrArg some q30)
        clear ev30 em30 F30
        obtain ⟨v31, ev31, em31, F31⟩ := h.slot (i := 9) rfl rfl (hall 9 (by decide))
        have q31 := isE.out F31
        have f31 := em31.trans (congrArg some q31)
        clear ev31 em31 F31
        obtain ⟨v32, ev32, em32, F32⟩ := h.slot (i := 10) rfl rfl (hall 10 (by decide))
        obtain ⟨x32, q32, l32, s32⟩ := isF.out F32
        have f32 := em32.trans (congrArg some q32)
        clear ev32 em32 F32
        obtain ⟨v33, ev33, em33, F33⟩ := h.slot (i := 11) rfl rfl (hall 11 (by decide))
        obtain ⟨x33, y33, z33, q33, s33⟩ := isV.out F33
        have f33 := em33.trans (congrArg some q33)
        clear ev33 em33 F33
        obtain ⟨v34, ev34, em34, F34⟩ := h.slot (i := 12) rfl rfl (hall 12 (by decide))
        have q34 := isE.out F34
        have f34 := em34.trans (congrArg some q34)
        clear ev34 em34 F34
        obtain ⟨v35, ev35, em35, F35⟩ := h.slot (i := 13) rfl rfl (hall 13 (by decide))
        have q35 := isE.out F35
        have f35 := em35.trans (congrArg some q35)
        clear ev35 em35 F35
        obtain ⟨v36, ev36, em36, F36⟩ := h.slot (i := 14) rfl rfl (hall 14 (by decide))
        have q36 := isE.out F36
        have f36 := em36.trans (congrArg some q36)
        clear ev36 em36 F36
        obtain ⟨v37, ev37, em37, F37⟩ := h.slot (i := 15) rfl rfl (hall 15 (by decide))
        have q37 := isE.out F37
        have f37 := em37.trans (congrArg some q37)
        clear ev37 em37 F37
        obtain ⟨v38, ev38, em38, F38⟩ := h.slot (i := 16) rfl rfl (hall 16 (by decide))
        have q38 := isE.out F38
        have f38 := em38.trans (congrArg some q38)
        clear ev38 em38 F38
        obtain ⟨v39, ev39, em39, F39⟩ := h.slot (i := 17) rfl rfl (hall 17 (by decide))
        have q39 := isE.out F39
        have f39 := em39.trans (congrArg some q39)
        clear ev39 em39 F39
        obtain ⟨v40, ev40, em40, F40⟩ := h.slot (i := 18) rfl rfl (hall 18 (by decide))
        have q40 := isE.out F40
        have f40 := em40.trans (congrArg some q40)
        clear ev40 em40 F40
        obtain rfl : m10 = _ := Option.some.inj (hm10.symm.trans f10)
        have ha := h.act [10, 11, 22, 23, 24, 25, 26, 27, 28, 29, 30, 31, 32, 33, 34, 35, 36, 37, 38, 39, 40] [_, _, _, _, _, _, _, _, _, _, _, _, _, _, _, _, _, _, _, _, _] (by kernel_rfl) ⟨f10, f11, f22, f23, f24, f25, f26, f27, f28, f29, f30, f31, f32, f33, f34, f35, f36, f37, f38, f39, f40, trivial⟩
        clear f10 f11 f22 f23 f24 f25 f26 f27 f28 f29 f30 f31 f32 f33 f34 f35 f36 f37 f38 f39 f40
        simp only [setAll, List.setIfInBounds_toArray, List.set_cons_zero, List.set_cons_succ] at ha
        subst ha
        clear h hall
        obtain ⟨kv, v0, v1, v2, hke, hkv, hxv, hsv⟩ := hf10
        cases hke
        obtain ⟨wt, rfl⟩ : ∃ z : World, z = u := ⟨u, rfl⟩
        have HV := Lib.hid hxv
        have SV := Lib.hid hsv
        have lv := hxv.lt
        have HXt := Lib.hid (HXq.out.go hB)
        have HTt := Lib.hid (HT.out.go hB)
        have Y0t := Lib.hid (Y0q.out.go hB)
        have HBt := Lib.hid (below_step HB.out hB)
        clear hxv hsv hB hw0 hm10 HXq Y0q HB HR2 HR3 HT
        have hw0 : Below wt.heap.size wt wt.drew := (Below.refl _ _).drew
        go_upto_region 6 with fail
        refine region_inv (stat [isE (.float .f32 x), isE (.float .f32 (D.W k)), isF (F.mul 1056964608 (D.W k)), isE (.agg #[.float .f32 v0, .float .f32 v1, .float .f32 v2]), isE (.agg #[.float .f32 v0, .float .f32 v1, .float .f32 v2]), isF (innV (enV D t k) (enV D t k)), isF (F.mul (F.mul 1056964608 (D.W k)) (innV (enV D t k) (enV D t k))), isE (.float .f32 (D.W k)), isE (.agg #[.float .f32 q.x, .float .f32 q.y, .float .f32 q.z]), isE (.agg #[.float .f32 (D.P k).x, .float .f32 (D.P k).y, .float .f32 (D.P k).z]), isF (innV q (D.P k)), isF (F.mul (D.W k) (innV q (D.P k))), isF (enQ D q t k), isF (sumF (enQ D q t) (k + 1)), isF (sumF (enQ D q t) (k + 1))]) (fun l W => Js [] (fun W => Below wt.heap.size wt W) l W) (by kernel_rfl) (by kernel_rfl) (by kernel_rfl) (Js.nil hw0) ⟨?r0, ?r1, ?r2, ?r3, ?r4, ?r5, ?r6, ?r7, ?r8, ?r9, ?r10, ?r11, ?r12, ?r13, ?r14, trivial⟩ ?hend
        case r0 =>
          intro listed a u h hu hd K hK
          have f7 : a.tmps[7]? = some (.float .f32 x) := RI.before h (by kernel_rfl) (j := 14) rfl rfl (RI.wait' h (getD_un hu) (T := 14) rfl (Array.mem_of_getElem? (i := 2) rfl) rfl rfl)
          have e7 : a.tmps.getD 7 undef = .float .f32 x := by rw [Array.getD_eq_getD_getElem?, f7]; rfl
          rw [if_pos (by rfl)]
          go_simp
          exact hK _ _ (fact_stat _ _ _) (isE.mk rfl) (Js.neutral h.world rfl)
        case r1 =>
          intro listed a u h hu hd K hK
          have e11 : a.tmps.getD 11 undef = .float .f32 (D.W k) := h.base (by kernel_rfl)
          have f11 : a.tmps[11]? = some (.float .f32 (D.W k)) := h.old (by kernel_rfl)
          rw [if_pos (by rfl)]
          go_simp
          exact hK _ _ (fact_stat _ _ _) (isE.mk rfl) (Js.neutral h.world rfl)
        case r2 =>
          intro listed a u h hu hd K hK
          have hA : (fun W => Below wt.heap.size wt W) u := h.world
          obtain ⟨v42, ev42, em42, F42⟩ := h.slot (i := 1) rfl rfl (hd _ (Array.mem_of_getElem? (i := 0) rfl) rfl)
          have e42 := ev42.trans (isE.out F42)
          have f42 := em42.trans (congrArg some (isE.out F42))
          clear ev42 em42 F42
          rw [if_pos (by rfl)]
          go_simp
          exact hK _ _ (fact_stat _ _ _) (isF.mk (opV_lt32 _ _ _ _ _) (mul_sim (Sim.refl _ _) (Sim.refl _ _) _ _)) (Js.nil (below_dn hA _))
        case r3 =>
          intro listed a u h hu hd K hK
          have hA : (fun W => Below wt.heap.size wt W) u := h.world
          have e10 : a.tmps.getD 10 undef = .pointer (some ⟨k10, 0, none⟩) := h.base (by kernel_rfl)
          have f10 : a.tmps[10]? = some (.pointer (some ⟨k10, 0, none⟩)) := h.old (by kernel_rfl)
          rw [if_pos (by rfl)]
          obtain ⟨v0_, v1_, v2_, vf_⟩ := (HV.out.go hA).facts
          obtain ⟨w0_, w1_, w2_, wf_⟩ := (Y0t.out.go hA).facts
          obtain ⟨t0_, t1_, t2_, tf_⟩ := (HTt.out.go hA).facts
          go_simp
          exact hK _ _ (fact_stat _ _ _) (isE.mk rfl) (Js.nil hA)
        case r4 =>
          intro listed a u h hu hd K hK
          have hA : (fun W => Below wt.heap.size wt W) u := h.world
          have e10 : a.tmps.getD 10 undef = .pointer (some ⟨k10, 0, none⟩) := h.base (by kernel_rfl)
          have f10 : a.tmps[10]? = some (.pointer (some ⟨k10, 0, none⟩)) := h.old (by kernel_rfl)
          rw [if_pos (by rfl)]
          obtain ⟨v0_, v1_, v2_, vf_⟩ := (HV.out.go hA).facts
          obtain ⟨w0_, w1_, w2_, wf_⟩ := (Y0t.out.go hA).facts
          obtain ⟨t0_, t1_, t2_, tf_⟩ := (HTt.out.go hA).facts
          go_simp
          exact hK _ _ (fact_stat _ _ _) (isE.mk rfl) (Js.nil hA)
        case r5 =>
          intro listed a u h hu hd K hK
          have hA : (fun W => Below wt.heap.size wt W) u := h.world
          obtain ⟨v44, ev44, em44, F44⟩ := h.slot (i := 3) rfl rfl (hd _ (Array.mem_of_getElem? (i := 0) rfl) rfl)
          have e44 := ev44.trans (isE.out F44)
          have f44 := em44.trans (congrArg some (isE.out F44))
          clear ev44 em44 F44
          obtain ⟨v45, ev45, em45, F45⟩ := h.slot (i := 4) rfl rfl (hd _ (Array.mem_of_getElem? (i := 1) rfl) rfl)
          have e45 := ev45.trans (isE.out F45)
          have f45 := em45.trans (congrArg some (isE.out F45))
          clear ev45 em45 F45
          rw [if_pos (by rfl)]
          go_simp
          refine Calls.mono (impl_InnerOf _ _ _ _ _ _ u) ?_
          rintro e u2 ⟨r, rfl, hlt_, hs, hbb⟩
          exact hK _ _ (fact_stat _ _ _) (isF.mk hlt_ (hs.trans (inner_sim' SV.out.1 SV.out.2.1 SV.out.2.2 SV.out.1 SV.out.2.1 SV.out.2.2))) (Js.nil (hA.trans (hbb.mono hA.size)))
        case r6 =>
          intro listed a u h hu hd K hK
          have hA : (fun W => Below wt.heap.size wt W) u := h.world
          obtain ⟨v43, ev43, em43, F43⟩ := h.slot (i := 2) rfl rfl (hd _ (Array.mem_of_getElem? (i := 0) rfl) rfl)
          obtain ⟨x43, q43, l43, s43⟩ := isF.out F43
          have e43 := ev43.trans q43
          have f43 := em43.trans (congrArg some q43)
          clear ev43 em43 F43
          obtain ⟨v46, ev46, em46, F46⟩ := h.slot (i := 5) rfl rfl (hd _ (Array.mem_of_getElem? (i := 1) rfl) rfl)
          obtain ⟨x46, q46, l46, s46⟩ := isF.out F46
          have e46 := ev46.trans q46
          have f46 := em46.trans (congrArg some q46)
          clear ev46 em46 F46
          rw [if_pos (by rfl)]
          go_simp
          exact hK _ _ (fact_stat _ _ _) (isF.mk (opV_lt32 _ _ _ _ _) (mul_sim s43 s46 _ _)) (Js.nil (below_dn hA _))
        case r7 =>
          intro listed a u h hu hd K hK
          have e11 : a.tmps.getD 11 undef = .float .f32 (D.W k) := h.base (by kernel_rfl)
          have f11 : a.tmps[11]? = some (.float .f32 (D.W k)) := h.old (by kernel_rfl)
          rw [if_pos (by rfl)]
          go_simp
          exact hK _ _ (fact_stat _ _ _) (isE.mk rfl) (Js.neutral h.world rfl)
        case r8 =>
          intro listed a u h hu hd K hK
          have hA : (fun W => Below wt.heap.size wt W) u := h.world
          have e4 : a.tmps.getD 4 undef = .pointer (some ⟨w.heap.size, 0, none⟩) := h.base (by kernel_rfl)
          have f4 : a.tmps[4]? = some (.pointer (some ⟨w.heap.size, 0, none⟩)) := h.old (by kernel_rfl)
          rw [if_pos (by rfl)]
          obtain ⟨v0_, v1_, v2_, vf_⟩ := (HV.out.go hA).facts
          obtain ⟨w0_, w1_, w2_, wf_⟩ := (Y0t.out.go hA).facts
          obtain ⟨t0_, t1_, t2_, tf_⟩ := (HTt.out.go hA).facts
          go_simp
          exact hK _ _ (fact_stat _ _ _) (isE.mk rfl) (Js.nil hA)
        case r9 =>
          intro listed a u h hu hd K hK
          have hA : (fun W => Below wt.heap.size wt W) u := h.world
          have e9 : a.tmps.getD 9 undef = .pointer (some ⟨wr.heap.size, 0, none⟩) := h.base (by kernel_rfl)
          have f9 : a.tmps[9]? = some (.pointer (some ⟨wr.heap.size, 0, none⟩)) := h.old (by kernel_rfl)
          rw [if_pos (by rfl)]
          obtain ⟨v0_, v1_, v2_, vf_⟩ := (HV.out.go hA).facts
          obtain ⟨w0_, w1_, w2_, wf_⟩ := (Y0t.out.go hA).facts
          obtain ⟨t0_, t1_, t2_, tf_⟩ := (HTt.out.go hA).facts
          go_simp
          exact hK _ _ (fact_stat _ _ _) (isE.mk rfl) (Js.nil hA)
        case r10 =>
          intro listed a u h hu hd K hK
          have hA : (fun W => Below wt.heap.size wt W) u := h.world
          obtain ⟨v49, ev49, em49, F49⟩ := h.slot (i := 8) rfl rfl (hd _ (Array.mem_of_getElem? (i := 0) rfl) rfl)
          have e49 := ev49.trans (isE.out F49)
          have f49 := em49.trans (congrArg some (isE.out F49))
          clear ev49 em49 F49
          obtain ⟨v50, ev50, em50, F50⟩ := h.slot (i := 9) rfl rfl (hd _ (Array.mem_of_getElem? (i := 1) rfl) rfl)
          have e50 := ev50.trans (isE.out F50)
          have f50 := em50.trans (congrArg some (isE.out F50))
          clear ev50 em50 F50
          rw [if_pos (by rfl)]
          go_simp
          refine Calls.mono (impl_InnerOf _ _ _ _ _ _ u) ?_
          rintro e u2 ⟨r, rfl, hlt_, hs, hbb⟩
          exact hK _ _ (fact_stat _ _ _) (isF.mk hlt_ (hs)) (Js.nil (hA.trans (hbb.mono hA.size)))
        case r11 =>
          intro listed a u h hu hd K hK
          have hA : (fun W => Below wt.heap.size wt W) u := h.world
          obtain ⟨v48, ev48, em48, F48⟩ := h.slot (i := 7) rfl rfl (hd _ (Array.mem_of_getElem? (i := 0) rfl) rfl)
          have e48 := ev48.trans (isE.out F48)
          have f48 := em48.trans (congrArg some (isE.out F48))
          clear ev48 em48 F48
          obtain ⟨v51, ev51, em51, F51⟩ := h.slot (i := 10) rfl rfl (hd _ (Array.mem_of_getElem? (i := 1) rfl) rfl)
          obtain ⟨x51, q51, l51, s51⟩ := isF.out F51
          have e51 := ev51.trans q51
          have f51 := em51.trans (congrArg some q51)
          clear ev51 em51 F51
          rw [if_pos (by rfl)]
          go_simp
          exact hK _ _ (fact_stat _ _ _) (isF.mk (opV_lt32 _ _ _ _ _) (mul_sim (Sim.refl _ _) s51 _ _)) (Js.nil (below_dn hA _))
        case r12 =>
          intro listed a u h hu hd K hK
          have hA : (fun W => Below wt.heap.size wt W) u := h.world
          obtain ⟨v47, ev47, em47, F47⟩ := h.slot (i := 6) rfl rfl (hd _ (Array.mem_of_getElem? (i := 0) rfl) rfl)
          obtain ⟨x47, q47, l47, s47⟩ := isF.out F47
          have e47 := ev47.trans q47
          have f47 := em47.trans (congrArg some q47)
          clear ev47 em47 F47
          obtain ⟨v52, ev52, em52, F52⟩ := h.slot (i := 11) rfl rfl (hd _ (Array.mem_of_getElem? (i := 1) rfl) rfl)
          obtain ⟨x52, q52, l52, s52⟩ := isF.out F52
          have e52 := ev52.trans q52
          have f52 := em52.trans (congrArg some q52)
          clear ev52 em52 F52
          rw [if_pos (by rfl)]
          go_simp
          exact hK _ _ (fact_stat _ _ _) (isF.mk (opV_lt32 _ _ _ _ _) (sub_sim s47 s52 _ _)) (Js.nil (below_dn hA _))
        case r13 =>
          intro listed a u h hu hd K hK
          have hA : (fun W => Below wt.heap.size wt W) u := h.world
          obtain ⟨v41, ev41, em41, F41⟩ := h.slot (i := 0) rfl rfl (hd _ (Array.mem_of_getElem? (i := 0) rfl) rfl)
          have e41 := ev41.trans (isE.out F41)
          have f41 := em41.trans (congrArg some (isE.out F41))
          clear ev41 em41 F41
          obtain ⟨v53, ev53, em53, F53⟩ := h.slot (i := 12) rfl rfl (hd _ (Array.mem_of_getElem? (i := 1) rfl) rfl)
          obtain ⟨x53, q53, l53, s53⟩ := isF.out F53
          have e53 := ev53.trans q53
          have f53 := em53.trans (congrArg some q53)
          clear ev53 em53 F53
          rw [if_pos (by rfl)]
          go_simp
          exact hK _ _ (fact_stat _ _ _) (isF.mk (opV_lt32 _ _ _ _ _) (add_sim HS.out s53 _ _)) (Js.nil (below_dn hA _))
        case r14 =>
          intro listed a u h hu hd K hK
          obtain ⟨v54, ev54, em54, F54⟩ := h.slot (i := 13) rfl rfl (hd _ (Array.mem_of_getElem? (i := 0) rfl) rfl)
          obtain ⟨x54, q54, l54, s54⟩ := isF.out F54
          have e54 := ev54.trans q54
          have f54 := em54.trans (congrArg some q54)
          clear ev54 em54 F54
          rw [if_pos (by rfl)]
          go_simp
          exact hK _ _ (fact_stat _ _ _) (isF.mk l54 s54) (Js.neutral h.world rfl)
        case hend =>
          intro listed a u h hall
          have hB : (fun W => Below wt.heap.size wt W) u := h.world
          obtain ⟨v7, ev7, em7, F7⟩ := h.slot (i := 14) rfl rfl (hall 14 (by decide))
          obtain ⟨x7, q7, l7, s7⟩ := isF.out F7
          have f7 := em7.trans (congrArg some q7)
          clear ev7 em7 F7
          obtain ⟨v41, ev41, em41, F41⟩ := h.slot (i := 0) rfl rfl (hall 0 (by decide))
          have f41 := em41.trans (congrArg some (isE.out F41))
          clear ev41 em41 F41
          obtain ⟨v42, ev42, em42, F42⟩ := h.slot (i := 1) rfl rfl (hall 1 (by decide))
          have f42 := em42.trans (congrArg some (isE.out F42))
          clear ev42 em42 F42
          obtain ⟨v43, ev43, em43, F43⟩ := h.slot (i := 2) rfl rfl (hall 2 (by decide))
          obtain ⟨x43, q43, l43, s43⟩ := isF.out F43
          have f43 := em43.trans (congrArg some q43)
          clear ev43 em43 F43
          obtain ⟨v44, ev44, em44, F44⟩ := h.slot (i := 3) rfl rfl (hall 3 (by decide))
          have f44 := em44.trans (congrArg some (isE.out F44))
          clear ev44 em44 F44
          obtain ⟨v45, ev45, em45, F45⟩ := h.slot (i := 4) rfl rfl (hall 4 (by decide))
          have f45 := em45.trans (congrArg some (isE.out F45))
          clear ev45 em45 F45
          obtain ⟨v46, ev46, em46, F46⟩ := h.slot (i := 5) rfl rfl (hall 5 (by decide))
          obtain ⟨x46, q46, l46, s46⟩ := isF.out F46
          have f46 := em46.trans (congrArg some q46)
          clear ev46 em46 F46
          obtain ⟨v47, ev47, em47, F47⟩ := h.slot (i := 6) rfl rfl (hall 6 (by decide))
          obtain ⟨x47, q47, l47, s47⟩ := isF.out F47
          have f47 := em47.trans (congrArg some q47)
          clear ev47 em47 F47
          obtain ⟨v48, ev48, em48, F48⟩ := h.slot (i := 7) rfl rfl (hall 7 (by decide))
          have f48 := em48.trans (congrArg some (isE.out F48))
          clear ev48 em48 F48
          obtain ⟨v49, ev49, em49, F49⟩ := h.slot (i := 8) rfl rfl (hall 8 (by decide))
          have f49 := em49.trans (congrArg some (isE.out F49))
          clear ev49 em49 F49
          obtain ⟨v50, ev50, em50, F50⟩ := h.slot (i := 9) rfl rfl (hall 9 (by decide))
          have f50 := em50.trans (congrArg some (isE.out F50))
          clear ev50 em50 F50
          obtain ⟨v51, ev51, em51, F51⟩ := h.slot (i := 10) rfl rfl (hall 10 (by decide))
          obtain ⟨x51, q51, l51, s51⟩ := isF.out F51
          have f51 := em51.trans (congrArg some q51)
          clear ev51 em51 F51
          obtain ⟨v52, ev52, em52, F52⟩ := h.slot (i := 11) rfl rfl (hall 11 (by decide))
          obtain ⟨x52, q52, l52, s52⟩ := isF.out F52
          have f52 := em52.trans (congrArg some q52)
          clear ev52 em52 F52
          obtain ⟨v53, ev53, em53, F53⟩ := h.slot (i := 12) rfl rfl (hall 12 (by decide))
          obtain ⟨x53, q53, l53, s53⟩ := isF.out F53
          have f53 := em53.trans (congrArg some q53)
          clear ev53 em53 F53
          obtain ⟨v54, ev54, em54, F54⟩ := h.slot (i := 13) rfl rfl (hall 13 (by decide))
          obtain ⟨x54, q54, l54, s54⟩ := isF.out F54
          have f54 := em54.trans (congrArg some q54)
          clear ev54 em54 F54
          have ha := h.act [7, 41, 42, 43, 44, 45, 46, 47, 48, 49, 50, 51, 52, 53, 54] [_, _, _, _, _, _, _, _, _, _, _, _, _, _, _] (by kernel_rfl) ⟨f7, f41, f42, f43, f44, f45, f46, f47, f48, f49, f50, f51, f52, f53, f54, trivial⟩
          clear f7 f41 f42 f43 f44 f45 f46 f47 f48 f49 f50 f51 f52 f53 f54
          simp only [setAll, List.setIfInBounds_toArray, List.set_cons_zero, List.set_cons_succ] at ha
          subst ha
          clear h hall
          have HBu := Lib.hid (below_step HBt.out hB)
          have S7 := Lib.hid s7
          have yz := hB.size
          clear hB s7 s43 s46 s47 s51 s52 s53 s54 hw0 HXt Y0t HBt HV
          go_wp2_with fail
          go_roundw
          case rel => exact ⟨k + 1, x7, by omega, rfl, by go_num, l7, S7.out, HBu.out⟩
          case measure => simp [intOf]; omega
    · obtain rfl : n = k := by omega
      clear hS hB
      go_wp2_with fail
      go_ret
      exact ⟨x, rfl, hx1, HS.out, below_step B0.out HB.out⟩
set_option maxHeartbeats 8000000 in
set_option maxRecDepth 100000 in
theorem spec_energy (g B : Nat) (A1 A2 A3 A4 : Option Addr) (c1 c2 c3 c4 n m : Nat) (D : D4) (q : V3) (t : Nat) (w : World) (hx : Bx w g 32 (.slice A1 n c1) (.slice A2 n c2) (.slice A3 n c3) (.slice A4 m c4)) (ho : Own w B A1 A2 A3 A4 c1 c2 c3 c4 n n n m D) (hn : n ≤ 24) :
    Calls Try.prog 101 #[.pointer (some ⟨g, 0, none⟩), .agg #[.float .f32 q.x, .float .f32 q.y, .float .f32 q.z], .float .f32 t] w (RetF .f32 (sumF (enQ D q t) n) w) := by
  have HX := Lib.hid (hx.alloc (.cells #[.float .f32 q.x, .float .f32 q.y, .float .f32 q.z] 38))
  have HO := Lib.hid (ho.go (w' := w.alloc (.cells #[.float .f32 q.x, .float .f32 q.y, .float .f32 q.z] 38)) (by repeat' (first | with_reducible exact Below.refl _ _ | with_reducible assumption | with_reducible refine below_dn ?_ _ | with_reducible refine Below.drew ?_ | with_reducible refine below_step ?_ (by assumption) | with_reducible refine Below.setCell ?_ ?_ _ | with_reducible refine Below.alloc ?_ ?_ _ | with_reducible exact Nat.le_refl _ | (simp; done) | (simp; omega) | omega)))
  have Y0 := Lib.hid (Tx.new_ w 38 (.float .f32 q.x) (.float .f32 q.y) (.float .f32 q.z))
  obtain ⟨w0, hw0⟩ : ∃ z : World, z = w.alloc (.cells #[.float .f32 q.x, .float .f32 q.y, .float .f32 q.z] 38) := ⟨_, rfl⟩
  have hb0 : Below w.heap.size w w0 := by rw [hw0]; exact Below.alloc (Below.refl _ _) (Nat.le_refl _) _
  rw [← hw0] at HX HO Y0
  have B0 := Lib.hid hb0
  obtain ⟨p0, p1, p2, p3, pf⟩ := hx.facts
  have lp := hx.lt
  clear hx ho hb0
  go_enter Try.func101, Try.ntmps101
  go_wp2_with fail
  clear p0 p1 p2 p3 pf lp
  go_loopw [7, 16] (fun s i wr => ∃ (k x : Nat), k ≤ n ∧ s = .float .f32 x ∧ i = .int .i64 k ∧ x < 4294967296 ∧ Sim .f32 x (sumF (enQ D q t) k) ∧ Below w0.heap.size w0 wr) (fun _ i _ => n - (intOf i).toNat)
  case atStart => exact ⟨0, 0, Nat.zero_le _, rfl, rfl, by decide, Sim.refl _ _, by rw [hw0]; exact Below.refl _ _⟩
  case round =>
    obtain ⟨k, x, hk, rfl, rfl, hx1, hS, hB⟩ := hrel
    have HS := Lib.hid hS
    have HB := Lib.hid hB
    by_cases hlt : k < n
    · obtain ⟨b1, hA1, _, _, _, hr1⟩ := (HO.out.go hB).s1 (by omega)
      obtain ⟨b2, hA2, _, _, _, hr2⟩ := (HO.out.go hB).s2 (by omega)
      obtain ⟨b3, hA3, _, _, _, hr3⟩ := (HO.out.go hB).s3 (by omega)
      subst hA1
      subst hA2
      subst hA3
      have hk0 : (0 : Int) ≤ (k : Int) := by omega
      have hk1 : (k : Int) < (n : Int) := by omega
      have hXr := HX.out.go hB
      have hYr := Y0.out.go hB
      obtain ⟨g0, g1, g2, g3, gf⟩ := hXr.facts
      have lg := hXr.lt
      have i3 := hr3.cell (j := k) (by omega)
      have l3 := hr3.lt
      unfold fc at i3
      obtain ⟨wq, hwq⟩ : ∃ z : World, z = wr := ⟨_, rfl⟩
      have HXq := Lib.hid hXr
      have Y0q := Lib.hid hYr
      have HR1 := Lib.hid hr1
      have HR2 := Lib.hid hr2
      have HR3 := Lib.hid hr3
      clear hS hB hr1 hr2 hr3 hXr hYr
      go_upto_region 6 with fail
      rw [← hwq]
      rw [← hwq] at HXq Y0q HR1 HR2 HR3 HB
      clear hwq g0 g1 g2 g3 gf lg i3 l3
      have hw0 : Below wq.heap.size wq wq.drew := (Below.refl _ _).drew
      refine region_inv3 [fun v _ => isE (.pointer (some ⟨g, 0, none⟩)) v, fun v _ => isE (.pointer (some ⟨g, 0, none⟩)) v, fun v _ => isE (.pointer (some ⟨g, 0, none⟩)) v, fun v _ => isE (.slice (some ⟨b1, 0, none⟩) n c1) v, fun v _ => isE (.int .i64 (k : Int)) v, fun v _ => isE (.pointer (some ⟨b1, k * 3, none⟩)) v, fun v _ => isE (.agg #[.float .f32 (D.P k).x, .float .f32 (D.P k).y, .float .f32 (D.P k).z]) v, fun v _ => isE (.pointer (some ⟨g, 0, none⟩)) v, fun v _ => isE (.pointer (some ⟨g, 0, none⟩)) v, fun v _ => isE (.pointer (some ⟨g, 1, none⟩)) v, fun v _ => isE (.slice (some ⟨b2, 0, none⟩) n c2) v, fun v _ => isE (.int .i64 (k : Int)) v, fun v _ => isE (.pointer (some ⟨b2, k * 3, none⟩)) v, fun v _ => isE (.agg #[.float .f32 (D.B k).x, .float .f32 (D.B k).y, .float .f32 (D.B k).z]) v, fun v _ => isV (vsub (D.P k) (D.B k)) v, fun v _ => isE (.float .f32 t) v, fun v _ => isF (F.quo 1065353216 t) v, fun v _ => isV (enV D t k) v, isP wq.heap.size, fun _ _ => True] (fun l a W => Js [] (fun W => Below wq.heap.size wq W) l W ∧ Fn 19 10 (isPV wq.heap.size (enV D t k)) l a W) (by kernel_rfl) (by kernel_rfl) (by kernel_rfl) ⟨Js.nil hw0, Fn.first⟩ ⟨?r0, ?r1, ?r2, ?r3, ?r4, ?r5, ?r6, ?r7, ?r8, ?r9, ?r10, ?r11, ?r12, ?r13, ?r14, ?r15, ?r16, ?r17, ?r18, ?r19, trivial⟩ ?hend
      case r0 =>
        intro listed a u h hu hd K hK
        have e0 : a.tmps.getD 0 undef = .pointer (some ⟨g, 0, none⟩) := h.base (by kernel_rfl)
        have f0 : a.tmps[0]? = some (.pointer (some ⟨g, 0, none⟩)) := h.old (by kernel_rfl)
        rw [if_pos (by rfl)]
        go_simp
        exact hK _ _ (fun _ _ _ h => h) (isE.mk rfl) ⟨(Js.neutral h.world.1 rfl), (Fn.neutral h.world.2 (by decide) (by decide) _)⟩
      case r1 =>
        intro listed a u h hu hd K hK
        obtain ⟨v26, ev26, em26, F26⟩ := h.slot (i := 0) rfl rfl (hd _ (Array.mem_of_getElem? (i := 0) rfl) rfl)
        have q26 := isE.out F26
        have e26 := ev26.trans q26
        have f26 := em26.trans (congrArg some q26)
        clear ev26 em26 F26
        rw [if_pos (by rfl)]
        go_simp
        exact hK _ _ (fun _ _ _ h => h) (isE.mk rfl) ⟨(Js.neutral h.world.1 rfl), (Fn.neutral h.world.2 (by decide) (by decide) _)⟩
      case r2 =>
        intro listed a u h hu hd K hK
        obtain ⟨v27, ev27, em27, F27⟩ := h.slot (i := 1) rfl rfl (hd _ (Array.mem_of_getElem? (i := 0) rfl) rfl)
        have q27 := isE.out F27
        have e27 := ev27.trans q27
        have f27 := em27.trans (congrArg some q27)
        clear ev27 em27 F27
        rw [if_pos (by rfl)]
        go_simp
        exact hK _ _ (fun _ _ _ h => h) (isE.mk rfl) ⟨(Js.neutral h.world.1 rfl), (Fn.neutral h.world.2 (by decide) (by decide) _)⟩
      case r3 =>
        intro listed a u h hu hd K hK
        have hA : (fun W => Below wq.heap.size wq W) u := h.world.1
        obtain ⟨v28, ev28, em28, F28⟩ := h.slot (i := 2) rfl rfl (hd _ (Array.mem_of_getElem? (i := 0) rfl) rfl)
        have q28 := isE.out F28
        have e28 := ev28.trans q28
        have f28 := em28.trans (congrArg some q28)
        clear ev28 em28 F28
        rw [if_pos (by rfl)]
        obtain ⟨g0, g1, g2, g3, gf⟩ := (HXq.out.go hA).facts
        obtain ⟨o0, o1, o2, oa, ob, oc⟩ := (HR1.out.go hA).at3 hlt
        rw [vc0] at o0
        rw [vc1] at o1
        rw [vc2] at o2
        obtain ⟨m0, m1, m2, ma, mb, mc⟩ := (HR2.out.go hA).at3 hlt
        rw [vc0] at m0
        rw [vc1] at m1
        rw [vc2] at m2
        have i3 := (HR3.out.go hA).cell (j := k) (by omega)
        unfold fc at i3
        go_simp
        exact hK _ _ (fun _ _ _ h => h) (isE.mk rfl) ⟨(Js.nil (hA)), (Fn.neutral h.world.2 (by decide) (by decide) _)⟩
      case r4 =>
        intro listed a u h hu hd K hK
        have e8 : a.tmps.getD 8 undef = .int .i64 (k : Int) := h.base (by kernel_rfl)
        have f8 : a.tmps[8]? = some (.int .i64 (k : Int)) := h.old (by kernel_rfl)
        rw [if_pos (by rfl)]
        go_simp
        exact hK _ _ (fun _ _ _ h => h) (isE.mk rfl) ⟨(Js.neutral h.world.1 rfl), (Fn.neutral h.world.2 (by decide) (by decide) _)⟩
      case r5 =>
        intro listed a u h hu hd K hK
        obtain ⟨v29, ev29, em29, F29⟩ := h.slot (i := 3) rfl rfl (hd _ (Array.mem_of_getElem? (i := 0) rfl) rfl)
        have q29 := isE.out F29
        have e29 := ev29.trans q29
        have f29 := em29.trans (congrArg some q29)
        clear ev29 em29 F29
        obtain ⟨v30, ev30, em30, F30⟩ := h.slot (i := 4) rfl rfl (hd _ (Array.mem_of_getElem? (i := 1) rfl) rfl)
        have q30 := isE.out F30
        have e30 := ev30.trans q30
        have f30 := em30.trans (congrArg some q30)
        clear ev30 em30 F30
        rw [if_pos (by rfl)]
        go_simp
        exact hK _ _ (fun _ _ _ h => h) (isE.mk rfl) ⟨(Js.neutral h.world.1 rfl), (Fn.neutral h.world.2 (by decide) (by decide) _)⟩
      case r6 =>
        intro listed a u h hu hd K hK
        have hA : (fun W => Below wq.heap.size wq W) u := h.world.1
        obtain ⟨v31, ev31, em31, F31⟩ := h.slot (i := 5) rfl rfl (hd _ (Array.mem_of_getElem? (i := 0) rfl) rfl)
        have q31 := isE.out F31
        have e31 := ev31.trans q31
        have f31 := em31.trans (congrArg some q31)
        clear ev31 em31 F31
        rw [if_pos (by rfl)]
        obtain ⟨g0, g1, g2, g3, gf⟩ := (HXq.out.go hA).facts
        obtain ⟨o0, o1, o2, oa, ob, oc⟩ := (HR1.out.go hA).at3 hlt
        rw [vc0] at o0
        rw [vc1] at o1
        rw [vc2] at o2
        obtain ⟨m0, m1, m2, ma, mb, mc⟩ := (HR2.out.go hA).at3 hlt
        rw [vc0] at m0
        rw [vc1] at m1
        rw [vc2] at m2
        have i3 := (HR3.out.go hA).cell (j := k) (by omega)
        unfold fc at i3
        go_simp
        exact hK _ _ (fun _ _ _ h => h) (isE.mk rfl) ⟨(Js.nil (hA)), (Fn.neutral h.world.2 (by decide) (by decide) _)⟩
      case r7 =>
        intro listed a u h hu hd K hK
        have e0 : a.tmps.getD 0 undef = .pointer (some ⟨g, 0, none⟩) := h.base (by kernel_rfl)
        have f0 : a.tmps[0]? = some (.pointer (some ⟨g, 0, none⟩)) := h.old (by kernel_rfl)
        rw [if_pos (by rfl)]
        go_simp
        exact hK _ _ (fun _ _ _ h => h) (isE.mk rfl) ⟨(Js.neutral h.world.1 rfl), (Fn.neutral h.world.2 (by decide) (by decide) _)⟩
      case r8 =>
        intro listed a u h hu hd K hK
        obtain ⟨v33, ev33, em33, F33⟩ := h.slot (i := 7) rfl rfl (hd _ (Array.mem_of_getElem? (i := 0) rfl) rfl)
        have q33 := isE.out F33
        have e33 := ev33.trans q33
        have f33 := em33.trans (congrArg some q33)
        clear ev33 em33 F33
        rw [if_pos (by rfl)]
        go_simp
        exact hK _ _ (fun _ _ _ h => h) (isE.mk rfl) ⟨(Js.neutral h.world.1 rfl), (Fn.neutral h.world.2 (by decide) (by decide) _)⟩
      case r9 =>
        intro listed a u h hu hd K hK
        obtain ⟨v34, ev34, em34, F34⟩ := h.slot (i := 8) rfl rfl (hd _ (Array.mem_of_getElem? (i := 0) rfl) rfl)
        have q34 := isE.out F34
        have e34 := ev34.trans q34
        have f34 := em34.trans (congrArg some q34)
        clear ev34 em34 F34
        rw [if_pos (by rfl)]
        go_simp
        exact hK _ _ (fun _ _ _ h => h) (isE.mk rfl) ⟨(Js.neutral h.world.1 rfl), (Fn.neutral h.world.2 (by decide) (by decide) _)⟩
      case r10 =>
        intro listed a u h hu hd K hK
        have hA : (fun W => Below wq.heap.size wq W) u := h.world.1
        obtain ⟨v35, ev35, em35, F35⟩ := h.slot (i := 9) rfl rfl (hd _ (Array.mem_of_getElem? (i := 0) rfl) rfl)
        have q35 := isE.out F35
        have e35 := ev35.trans q35
        have f35 := em35.trans (congrArg some q35)
        clear ev35 em35 F35
        rw [if_pos (by rfl)]
        obtain ⟨g0, g1, g2, g3, gf⟩ := (HXq.out.go hA).facts
        obtain ⟨o0, o1, o2, oa, ob, oc⟩ := (HR1.out.go hA).at3 hlt
        rw [vc0] at o0
        rw [vc1] at o1
        rw [vc2] at o2
        obtain ⟨m0, m1, m2, ma, mb, mc⟩ := (HR2.out.go hA).at3 hlt
        rw [vc0] at m0
        rw [vc1] at m1
        rw [vc2] at m2
        have i3 := (HR3.out.go hA).cell (j := k) (by omega)
        unfold fc at i3
        go_simp
        exact hK _ _ (fun _ _ _ h => h) (isE.mk rfl) ⟨(Js.nil (hA)), (Fn.neutral h.world.2 (by decide) (by decide) _)⟩
      case r11 =>
        intro listed a u h hu hd K hK
        have e8 : a.tmps.getD 8 undef = .int .i64 (k : Int) := h.base (by kernel_rfl)
        have f8 : a.tmps[8]? = some (.int .i64 (k : Int)) := h.old (by kernel_rfl)
        rw [if_pos (by rfl)]
        go_simp
        exact hK _ _ (fun _ _ _ h => h) (isE.mk rfl) ⟨(Js.neutral h.world.1 rfl), (Fn.neutral h.world.2 (by decide) (by decide) _)⟩
      case r12 =>
        intro listed a u h hu hd K hK
        obtain ⟨v36, ev36, em36, F36⟩ := h.slot (i := 10) rfl rfl (hd _ (Array.mem_of_getElem? (i := 0) rfl) rfl)
        have q36 := isE.out F36
        have e36 := ev36.trans q36
        have f36 := em36.trans (congrArg some q36)
        clear ev36 em36 F36
        obtain ⟨v37, ev37, em37, F37⟩ := h.slot (i := 11) rfl rfl (hd _ (Array.mem_of_getElem? (i := 1) rfl) rfl)
        have q37 := isE.out F37
        have e37 := ev37.trans q37
        have f37 := em37.trans (congrArg some q37)
        clear ev37 em37 F37
        rw [if_pos (by rfl)]
        go_simp
        exact hK _ _ (fun _ _ _ h => h) (isE.mk rfl) ⟨(Js.neutral h.world.1 rfl), (Fn.neutral h.world.2 (by decide) (by decide) _)⟩
      case r13 =>
        intro listed a u h hu hd K hK
        have hA : (fun W => Below wq.heap.size wq W) u := h.world.1
        obtain ⟨v38, ev38, em38, F38⟩ := h.slot (i := 12) rfl rfl (hd _ (Array.mem_of_getElem? (i := 0) rfl) rfl)
        have q38 := isE.out F38
        have e38 := ev38.trans q38
        have f38 := em38.trans (congrArg some q38)
        clear ev38 em38 F38
        rw [if_pos (by rfl)]
        obtain ⟨g0, g1, g2, g3, gf⟩ := (HXq.out.go hA).facts
        obtain ⟨o0, o1, o2, oa, ob, oc⟩ := (HR1.out.go hA).at3 hlt
        rw [vc0] at o0
        rw [vc1] at o1
        rw [vc2] at o2
        obtain ⟨m0, m1, m2, ma, mb, mc⟩ := (HR2.out.go hA).at3 hlt
        rw [vc0] at m0
        rw [vc1] at m1
        rw [vc2] at m2
        have i3 := (HR3.out.go hA).cell (j := k) (by omega)
        unfold fc at i3
        go_simp
        exact hK _ _ (fun _ _ _ h => h) (isE.mk rfl) ⟨(Js.nil (hA)), (Fn.neutral h.world.2 (by decide) (by decide) _)⟩
      case r14 =>
        intro listed a u h hu hd K hK
        have hA : (fun W => Below wq.heap.size wq W) u := h.world.1
        obtain ⟨v32, ev32, em32, F32⟩ := h.slot (i := 6) rfl rfl (hd _ (Array.mem_of_getElem? (i := 0) rfl) rfl)
        have q32 := isE.out F32
        have e32 := ev32.trans q32
        have f32 := em32.trans (congrArg some q32)
        clear ev32 em32 F32
        obtain ⟨v39, ev39, em39, F39⟩ := h.slot (i := 13) rfl rfl (hd _ (Array.mem_of_getElem? (i := 1) rfl) rfl)
        have q39 := isE.out F39
        have e39 := ev39.trans q39
        have f39 := em39.trans (congrArg some q39)
        clear ev39 em39 F39
        rw [if_pos (by rfl)]
        go_simp
        refine Calls.mono (spec_l01Less _ _ _ _ _ _ u) ?_
        rintro e u2 ⟨a0_, a1_, a2_, rfl, _, r0, r1, r2, hb⟩
        have hR : Gw u u2 := hb
        exact hK _ _ (fun j v hn hF => AllStX.fact0 (R := Gw) (i := 14) (by exact ⟨fun _ _ _ _ _ h => h, fun _ _ _ _ _ h => h, fun _ _ _ _ _ h => h, fun _ _ _ _ _ h => h, fun _ _ _ _ _ h => h, fun _ _ _ _ _ h => h, fun _ _ _ _ _ h => h, fun _ _ _ _ _ h => h, fun _ _ _ _ _ h => h, fun _ _ _ _ _ h => h, fun _ _ _ _ _ h => h, fun _ _ _ _ _ h => h, fun _ _ _ _ _ h => h, fun _ _ _ _ _ h => h, fun hn => absurd rfl hn, fun _ _ _ _ _ h => h, fun _ _ _ _ _ h => h, fun _ _ _ _ _ h => h, fun _ _ _ _ hW h => isP.go h hW, fun _ _ _ _ _ h => h, trivial⟩) hR j v hn hF) (isV.mk ⟨r0, r1, r2⟩) ⟨(Js.nil ((hA.trans (hb.mono hA.size)))), (Fn.no (RI3.wait' h (getD_un hu) (T := 19) rfl (Array.mem_of_getElem? (i := 17) rfl) rfl rfl) (by decide))⟩
      case r15 =>
        intro listed a u h hu hd K hK
        have e2 : a.tmps.getD 2 undef = .float .f32 t := h.base (by kernel_rfl)
        have f2 : a.tmps[2]? = some (.float .f32 t) := h.old (by kernel_rfl)
        rw [if_pos (by rfl)]
        go_simp
        exact hK _ _ (fun _ _ _ h => h) (isE.mk rfl) ⟨(Js.neutral h.world.1 rfl), (Fn.neutral h.world.2 (by decide) (by decide) _)⟩
      case r16 =>
        intro listed a u h hu hd K hK
        have hA : (fun W => Below wq.heap.size wq W) u := h.world.1
        obtain ⟨v41, ev41, em41, F41⟩ := h.slot (i := 15) rfl rfl (hd _ (Array.mem_of_getElem? (i := 0) rfl) rfl)
        have q41 := isE.out F41
        have e41 := ev41.trans q41
        have f41 := em41.trans (congrArg some q41)
        clear ev41 em41 F41
        rw [if_pos (by rfl)]
        go_simp
        exact hK _ _ (fun j v hn hF => AllStX.fact0 (R := Gw) (i := 16) (by exact ⟨fun _ _ _ _ _ h => h, fun _ _ _ _ _ h => h, fun _ _ _ _ _ h => h, fun _ _ _ _ _ h => h, fun _ _ _ _ _ h => h, fun _ _ _ _ _ h => h, fun _ _ _ _ _ h => h, fun _ _ _ _ _ h => h, fun _ _ _ _ _ h => h, fun _ _ _ _ _ h => h, fun _ _ _ _ _ h => h, fun _ _ _ _ _ h => h, fun _ _ _ _ _ h => h, fun _ _ _ _ _ h => h, fun _ _ _ _ _ h => h, fun _ _ _ _ _ h => h, fun hn => absurd rfl hn, fun _ _ _ _ _ h => h, fun _ _ _ _ hW h => isP.go h hW, fun _ _ _ _ _ h => h, trivial⟩) (below_n _ _ _) j v hn hF) (isF.mk (opV_lt32 _ _ _ _ _) (quo_sim (Sim.refl _ _) (Sim.refl _ _) _ _)) ⟨(Js.nil ((below_dn hA _))), (Fn.no (RI3.wait' h (getD_un hu) (T := 19) rfl (Array.mem_of_getElem? (i := 19) rfl) rfl rfl) (by decide))⟩
      case r17 =>
        intro listed a u h hu hd K hK
        have hA : (fun W => Below wq.heap.size wq W) u := h.world.1
        obtain ⟨v40, ev40, em40, F40⟩ := h.slot (i := 14) rfl rfl (hd _ (Array.mem_of_getElem? (i := 0) rfl) rfl)
        obtain ⟨x40, y40, z40, q40, s40⟩ := isV.out F40
        have e40 := ev40.trans q40
        have f40 := em40.trans (congrArg some q40)
        clear ev40 em40 F40
        obtain ⟨v42, ev42, em42, F42⟩ := h.slot (i := 16) rfl rfl (hd _ (Array.mem_of_getElem? (i := 1) rfl) rfl)
        obtain ⟨x42, q42, l42, s42⟩ := isF.out F42
        have e42 := ev42.trans q42
        have f42 := em42.trans (congrArg some q42)
        clear ev42 em42 F42
        rw [if_pos (by rfl)]
        go_simp
        refine Calls.mono (spec_l01Scale _ _ _ _ u) ?_
        rintro e u2 ⟨a0_, a1_, a2_, rfl, _, r0, r1, r2, hb⟩
        have hR : Gw u u2 := hb
        exact hK _ _ (fun j v hn hF => AllStX.fact0 (R := Gw) (i := 17) (by exact ⟨fun _ _ _ _ _ h => h, fun _ _ _ _ _ h => h, fun _ _ _ _ _ h => h, fun _ _ _ _ _ h => h, fun _ _ _ _ _ h => h, fun _ _ _ _ _ h => h, fun _ _ _ _ _ h => h, fun _ _ _ _ _ h => h, fun _ _ _ _ _ h => h, fun _ _ _ _ _ h => h, fun _ _ _ _ _ h => h, fun _ _ _ _ _ h => h, fun _ _ _ _ _ h => h, fun _ _ _ _ _ h => h, fun _ _ _ _ _ h => h, fun _ _ _ _ _ h => h, fun _ _ _ _ _ h => h, fun hn => absurd rfl hn, fun _ _ _ _ hW h => isP.go h hW, fun _ _ _ _ _ h => h, trivial⟩) hR j v hn hF) (isV.mk ⟨r0.trans (fmul_sim s40.1 s42), r1.trans (fmul_sim s40.2.1 s42), r2.trans (fmul_sim s40.2.2 s42)⟩) ⟨(Js.nil ((hA.trans (hb.mono hA.size)))), (Fn.no (RI3.wait' h (getD_un hu) (T := 19) rfl (Array.mem_of_getElem? (i := 1) rfl) rfl rfl) (by decide))⟩
      case r18 =>
        intro listed a u h hu hd K hK
        have hA : (fun W => Below wq.heap.size wq W) u := h.world.1
        rw [if_pos (by rfl)]
        go_simp
        have hR : Gw u (u.alloc (.cells #[.float .f32 0, .float .f32 0, .float .f32 0] 38)) := Below.alloc (Below.refl _ _) (Nat.le_refl _) _
        exact hK _ _ (fun j v hn hF => AllStX.fact0 (R := Gw) (i := 18) (by exact ⟨fun _ _ _ _ _ h => h, fun _ _ _ _ _ h => h, fun _ _ _ _ _ h => h, fun _ _ _ _ _ h => h, fun _ _ _ _ _ h => h, fun _ _ _ _ _ h => h, fun _ _ _ _ _ h => h, fun _ _ _ _ _ h => h, fun _ _ _ _ _ h => h, fun _ _ _ _ _ h => h, fun _ _ _ _ _ h => h, fun _ _ _ _ _ h => h, fun _ _ _ _ _ h => h, fun _ _ _ _ _ h => h, fun _ _ _ _ _ h => h, fun _ _ _ _ _ h => h, fun _ _ _ _ _ h => h, fun _ _ _ _ _ h => h, fun hn => absurd rfl hn, fun _ _ _ _ _ h => h, trivial⟩) hR j v hn hF) ⟨_, _, _, _, rfl, hA.size, Tx.new_ _ _ _ _ _⟩ ⟨(Js.nil (Below.alloc hA hA.size _)), (Fn.no (RI3.wait' h (getD_un hu) (T := 19) rfl (Array.mem_of_getElem? (i := 0) rfl) rfl rfl) (by decide))⟩
      case r19 =>
        intro listed a u h hu hd K hK
        have hA : (fun W => Below wq.heap.size wq W) u := h.world.1
        obtain ⟨v10, ev10, em10, F10⟩ := h.slot (i := 18) rfl rfl (hd _ (Array.mem_of_getElem? (i := 0) rfl) rfl)
        obtain ⟨k10, xa10, xb10, xc10, q10, hk10, hx10⟩ : isP wq.heap.size v10 u := F10
        have e10 := ev10.trans q10
        have f10 := em10.trans (congrArg some q10)
        clear ev10 em10
        obtain ⟨v43, ev43, em43, F43⟩ := h.slot (i := 17) rfl rfl (hd _ (Array.mem_of_getElem? (i := 1) rfl) rfl)
        obtain ⟨x43, y43, z43, q43, s43⟩ := isV.out F43
        have e43 := ev43.trans q43
        have f43 := em43.trans (congrArg some q43)
        clear ev43 em43 F43
        rw [if_pos (by rfl)]
        obtain ⟨g0, g1, g2, g3, gf⟩ := (HXq.out.go hA).facts
        obtain ⟨o0, o1, o2, oa, ob, oc⟩ := (HR1.out.go hA).at3 hlt
        rw [vc0] at o0
        rw [vc1] at o1
        rw [vc2] at o2
        obtain ⟨m0, m1, m2, ma, mb, mc⟩ := (HR2.out.go hA).at3 hlt
        rw [vc0] at m0
        rw [vc1] at m1
        rw [vc2] at m2
        have i3 := (HR3.out.go hA).cell (j := k) (by omega)
        unfold fc at i3
        obtain ⟨y0_, y1_, y2_, yf_⟩ := hx10.facts
        have ly_ := hx10.lt
        go_simp
        have hY := hx10.setAll (.float .f32 x43) (.float .f32 y43) (.float .f32 z43)
        have hR : Pw u (((u.setCell ⟨k10, 0, none⟩ (.float .f32 x43)).setCell ⟨k10, 1, none⟩ (.float .f32 y43)).setCell ⟨k10, 2, none⟩ (.float .f32 z43)) := ⟨_, _, _, _, _, _, _, hx10, Wr.set3 u k10 0 1 2 _ _ _, hY⟩
        exact hK undef _ (fun j v hn hF => AllStX.fact0 (R := Pw) (i := 19) (by exact ⟨fun _ _ _ _ _ h => h, fun _ _ _ _ _ h => h, fun _ _ _ _ _ h => h, fun _ _ _ _ _ h => h, fun _ _ _ _ _ h => h, fun _ _ _ _ _ h => h, fun _ _ _ _ _ h => h, fun _ _ _ _ _ h => h, fun _ _ _ _ _ h => h, fun _ _ _ _ _ h => h, fun _ _ _ _ _ h => h, fun _ _ _ _ _ h => h, fun _ _ _ _ _ h => h, fun _ _ _ _ _ h => h, fun _ _ _ _ _ h => h, fun _ _ _ _ _ h => h, fun _ _ _ _ _ h => h, fun _ _ _ _ _ h => h, fun _ _ _ _ hW h => isP.st h hW, fun hn => absurd rfl hn, trivial⟩) hR j v hn hF) trivial ⟨(Js.nil ((Tx.bel hA hk10 _ _ _))), (Fn.hit f10 (⟨k10, x43, y43, z43, rfl, hk10, hY, s43⟩))⟩
      case hend =>
        intro listed a u h hall
        have hB : (fun W => Below wq.heap.size wq W) u := h.world.1
        obtain ⟨m10, hm10, hf10⟩ := h.world.2 (hall 19 (by decide))
        obtain ⟨v10, ev10, em10, F10⟩ := h.slot (i := 18) rfl rfl (hall 18 (by decide))
        obtain ⟨k10, xa10, xb10, xc10, q10, hk10, hx10⟩ : isP wq.heap.size v10 u := F10
        have f10 := em10.trans (congrArg some q10)
        clear ev10 em10
        obtain ⟨v26, ev26, em26, F26⟩ := h.slot (i := 0) rfl rfl (hall 0 (by decide))
        have q26 := isE.out F26
        have f26 := em26.trans (congrArg some q26)
        clear ev26 em26 F26
        obtain ⟨v27, ev27, em27, F27⟩ := h.slot (i := 1) rfl rfl (hall 1 (by decide))
        have q27 := isE.out F27
        have f27 := em27.trans (congrArg some q27)
        clear ev27 em27 F27
        obtain ⟨v28, ev28, em28, F28⟩ := h.slot (i := 2) rfl rfl (hall 2 (by decide))
        have q28 := isE.out F28
        have f28 := em28.trans (congrArg some q28)
        clear ev28 em28 F28
        obtain ⟨v29, ev29, em29, F29⟩ := h.slot (i := 3) rfl rfl (hall 3 (by decide))
        have q29 := isE.out F29
        have f29 := em29.trans (congrArg some q29)
        clear ev29 em29 F29
        obtain ⟨v30, ev30, em30, F30⟩ := h.slot (i := 4) rfl rfl (hall 4 (by decide))
        have q30 := isE.out F30
        have f30 := em30.trans (congrArg some q30)
        clear ev30 em30 F30
        obtain ⟨v31, ev31, em31, F31⟩ := h.slot (i := 5) rfl rfl (hall 5 (by decide))
        have q31 := isE.out F31
        have f31 := em31.trans (congrArg some q31)
        clear ev31 em31 F31
        obtain ⟨v32, ev32, em32, F32⟩ := h.slot (i := 6) rfl rfl (hall 6 (by decide))
        have q32 := isE.out F32
        have f32 := em32.trans (congrArg some q32)
        clear ev32 em32 F32
        obtain ⟨v33, ev33, em33, F33⟩ := h.slot (i := 7) rfl rfl (hall 7 (by decide))
        have q33 := isE.out F33
        have f33 := em33.trans (congrArg some q33)
        clear ev33 em33 F33
        obtain ⟨v34, ev34, em34, F34⟩ := h.slot (i := 8) rfl rfl (hall 8 (by decide))
        have q34 := isE.out F34
        have f34 := em34.trans (congrArg some q34)
        clear ev34 em34 F34
        obtain ⟨v35, ev35, em35, F35⟩ := h.slot (i := 9) rfl rfl (hall 9 (by decide))
        have q35 := isE.out F35
        have f35 := em35.trans (congrArg some q35)
        clear ev35 em35 F35
        obtain ⟨v36, ev36, em36, F36⟩ := h.slot (i := 10) rfl rfl (hall 10 (by decide))
        have q36 := isE.out F36
        have f36 := em36.trans (congrArg some q36)
        clear ev36 em36 F36
        obtain ⟨v37, ev37, em37, F37⟩ := h.slot (i := 11) rfl rfl (hall 11 (by decide))
        have q37 := isE.out F37
        have f37 := em37.trans (congrArg some q37)
        clear ev37 em37 F37
        obtain ⟨v38, ev38, em38, F38⟩ := h.slot (i := 12) rfl rfl (hall 12 (by decide))
        have q38 := isE.out F38
        have f38 := em38.trans (congrArg some q38)
        clear ev38 em38 F38
        obtain ⟨v39, ev39, em39, F39⟩ := h.slot (i := 13) rfl rfl (hall 13 (by decide))
        have q39 := isE.out F39
        have f39 := em39.trans (congrArg some q39)
        clear ev39 em39 F39
        obtain ⟨v40, ev40, em40, F40⟩ := h.slot (i := 14) rfl rfl (hall 14 (by decide))
        obtain ⟨x40, y40, z40, q40, s40⟩ := isV.out F40
        have f40 := em40.trans (congrArg some q40)
        clear ev40 em40 F40
        obtain ⟨v41, ev41, em41, F41⟩ := h.slot (i := 15) rfl rfl (hall 15 (by decide))
        have q41 := isE.out F41
        have f41 := em41.trans (congrArg some q41)
        clear ev41 em41 F41
        obtain ⟨v42, ev42, em42, F42⟩ := h.slot (i := 16) rfl rfl (hall 16 (by decide))
        obtain ⟨x42, q42, l42, s42⟩ := isF.out F42
        have f42 := em42.trans (congrArg some q42)
        clear ev42 em42 F42
        obtain ⟨v43, ev43, em43, F43⟩ := h.slot (i := 17) rfl rfl (hall 17 (by decide))
        obtain ⟨x43, y43, z43, q43, s43⟩ := isV.out F43
        have f43 := em43.trans (congrArg some q43)
        clear ev43 em43 F43
        obtain rfl : m10 = _ := Option.some.inj (hm10.symm.trans f10)
        have ha := h.act [10, 26, 27, 28, 29, 30, 31, 32, 33, 34, 35, 36, 37, 38, 39, 40, 41, 42, 43] [_, _, _, _, _, _, _, _, _, _, _, _, _, _, _, _, _, _, _] (by kernel_rfl) ⟨f10, f26, f27, f28, f29, f30, f31, f32, f33, f34, f35, f36, f37, f38, f39, f40, f41, f42, f43, trivial⟩
        clear f10 f26 f27 f28 f29 f30 f31 f32 f33 f34 f35 f36 f37 f38 f39 f40 f41 f42 f43
        simp only [setAll, List.setIfInBounds_toArray, List.set_cons_zero, List.set_cons_succ] at ha
        subst ha
        clear h hall
        obtain ⟨kv, v0, v1, v2, hke, hkv, hxv, hsv⟩ := hf10
        cases hke
        obtain ⟨wt, rfl⟩ : ∃ z : World, z = u := ⟨u, rfl⟩
        have HV := Lib.hid hxv
        have SV := Lib.hid hsv
        have lv := hxv.lt
        have HXt := Lib.hid (HXq.out.go hB)
        have HR1t := Lib.hid (HR1.out.go hB)
        have Y0t := Lib.hid (Y0q.out.go hB)
        have HBt := Lib.hid (below_step HB.out hB)
        clear hxv hsv hB hw0 hm10 HXq Y0q HB HR2 HR3 HR1
        have hw0 : Below wt.heap.size wt wt.drew := (Below.refl _ _).drew
        go_upto_region 7 with fail
        refine region_inv (stat [isE (.float .f32 x), isE (.float .f32 (D.W k)), isF (F.mul 1056964608 (D.W k)), isE (.agg #[.float .f32 v0, .float .f32 v1, .float .f32 v2]), isE (.agg #[.float .f32 v0, .float .f32 v1, .float .f32 v2]), isF (innV (enV D t k) (enV D t k)), isF (F.mul (F.mul 1056964608 (D.W k)) (innV (enV D t k) (enV D t k))), isE (.float .f32 (D.W k)), isE (.agg #[.float .f32 q.x, .float .f32 q.y, .float .f32 q.z]), isE (.pointer (some ⟨g, 0, none⟩)), isE (.pointer (some ⟨g, 0, none⟩)), isE (.pointer (some ⟨g, 0, none⟩)), isE (.slice (some ⟨b1, 0, none⟩) n c1), isE (.int .i64 (k : Int)), isE (.pointer (some ⟨b1, k * 3, none⟩)), isE (.agg #[.float .f32 (D.P k).x, .float .f32 (D.P k).y, .float .f32 (D.P k).z]), isF (innV q (D.P k)), isF (F.mul (D.W k) (innV q (D.P k))), isF (enQ D q t k), isF (sumF (enQ D q t) (k + 1)), isF (sumF (enQ D q t) (k + 1))]) (fun l W => Js [] (fun W => Below wt.heap.size wt W) l W) (by kernel_rfl) (by kernel_rfl) (by kernel_rfl) (Js.nil hw0) ⟨?r0, ?r1, ?r2, ?r3, ?r4, ?r5, ?r6, ?r7, ?r8, ?r9, ?r10, ?r11, ?r12, ?r13, ?r14, ?r15, ?r16, ?r17, ?r18, ?r19, ?r20, trivial⟩ ?hend
        case r0 =>
          intro listed a u h hu hd K hK
          have f7 : a.tmps[7]? = some (.float .f32 x) := RI.before h (by kernel_rfl) (j := 20) rfl rfl (RI.wait' h (getD_un hu) (T := 20) rfl (Array.mem_of_getElem? (i := 2) rfl) rfl rfl)
          have e7 : a.tmps.getD 7 undef = .float .f32 x := by rw [Array.getD_eq_getD_getElem?, f7]; rfl
          rw [if_pos (by rfl)]
          go_simp
          exact hK _ _ (fact_stat _ _ _) (isE.mk rfl) (Js.neutral h.world rfl)
        case r1 =>
          intro listed a u h hu hd K hK
          have e9 : a.tmps.getD 9 undef = .float .f32 (D.W k) := h.base (by kernel_rfl)
          have f9 : a.tmps[9]? = some (.float .f32 (D.W k)) := h.old (by kernel_rfl)
          rw [if_pos (by rfl)]
          go_simp
          exact hK _ _ (fact_stat _ _ _) (isE.mk rfl) (Js.neutral h.world rfl)
        case r2 =>
          intro listed a u h hu hd K hK
          have hA : (fun W => Below wt.heap.size wt W) u := h.world
          obtain ⟨v45, ev45, em45, F45⟩ := h.slot (i := 1) rfl rfl (hd _ (Array.mem_of_getElem? (i := 0) rfl) rfl)
          have e45 := ev45.trans (isE.out F45)
          have f45 := em45.trans (congrArg some (isE.out F45))
          clear ev45 em45 F45
          rw [if_pos (by rfl)]
          go_simp
          exact hK _ _ (fact_stat _ _ _) (isF.mk (opV_lt32 _ _ _ _ _) (mul_sim (Sim.refl _ _) (Sim.refl _ _) _ _)) (Js.nil (below_dn hA _))
        case r3 =>
          intro listed a u h hu hd K hK
          have hA : (fun W => Below wt.heap.size wt W) u := h.world
          have e10 : a.tmps.getD 10 undef = .pointer (some ⟨k10, 0, none⟩) := h.base (by kernel_rfl)
          have f10 : a.tmps[10]? = some (.pointer (some ⟨k10, 0, none⟩)) := h.old (by kernel_rfl)
          rw [if_pos (by rfl)]
          obtain ⟨v0_, v1_, v2_, vf_⟩ := (HV.out.go hA).facts
          obtain ⟨w0_, w1_, w2_, wf_⟩ := (Y0t.out.go hA).facts
          obtain ⟨g0, g1, g2, g3, gf⟩ := (HXt.out.go hA).facts
          obtain ⟨m0, m1, m2, ma, mb, mc⟩ := (HR1t.out.go hA).at3 hlt
          rw [vc0] at m0
          rw [vc1] at m1
          rw [vc2] at m2
          go_simp
          exact hK _ _ (fact_stat _ _ _) (isE.mk rfl) (Js.nil hA)
        case r4 =>
          intro listed a u h hu hd K hK
          have hA : (fun W => Below wt.heap.size wt W) u := h.world
          have e10 : a.tmps.getD 10 undef = .pointer (some ⟨k10, 0, none⟩) := h.base (by kernel_rfl)
          have f10 : a.tmps[10]? = some (.pointer (some ⟨k10, 0, none⟩)) := h.old (by kernel_rfl)
          rw [if_pos (by rfl)]
          obtain ⟨v0_, v1_, v2_, vf_⟩ := (HV.out.go hA).facts
          obtain ⟨w0_, w1_, w2_, wf_⟩ := (Y0t.out.go hA).facts
          obtain ⟨g0, g1, g2, g3, gf⟩ := (HXt.out.go hA).facts
          obtain ⟨m0, m1, m2, ma, mb, mc⟩ := (HR1t.out.go hA).at3 hlt
          rw [vc0] at m0
          rw [vc1] at m1
          rw [vc2] at m2
          go_simp
          exact hK _ _ (fact_stat _ _ _) (isE.mk rfl) (Js.nil hA)
        case r5 =>
          intro listed a u h hu hd K hK
          have hA : (fun W => Below wt.heap.size wt W) u := h.world
          obtain ⟨v47, ev47, em47, F47⟩ := h.slot (i := 3) rfl rfl (hd _ (Array.mem_of_getElem? (i := 0) rfl) rfl)
          have e47 := ev47.trans (isE.out F47)
          have f47 := em47.trans (congrArg some (isE.out F47))
          clear ev47 em47 F47
          obtain ⟨v48, ev48, em48, F48⟩ := h.slot (i := 4) rfl rfl (hd _ (Array.mem_of_getElem? (i := 1) rfl) rfl)
          have e48 := ev48.trans (isE.out F48)
          have f48 := em48.trans (congrArg some (isE.out F48))
          clear ev48 em48 F48
          rw [if_pos (by rfl)]
          go_simp
          refine Calls.mono (spec_l01Inner _ _ _ _ _ _ u) ?_
          rintro e u2 ⟨r, rfl, hlt_, hs, hbb⟩
          exact hK _ _ (fact_stat _ _ _) (isF.mk hlt_ (hs.trans (inner_sim' SV.out.1 SV.out.2.1 SV.out.2.2 SV.out.1 SV.out.2.1 SV.out.2.2))) (Js.nil (hA.trans (hbb.mono hA.size)))
        case r6 =>
          intro listed a u h hu hd K hK
          have hA : (fun W => Below wt.heap.size wt W) u := h.world
          obtain ⟨v46, ev46, em46, F46⟩ := h.slot (i := 2) rfl rfl (hd _ (Array.mem_of_getElem? (i := 0) rfl) rfl)
          obtain ⟨x46, q46, l46, s46⟩ := isF.out F46
          have e46 := ev46.trans q46
          have f46 := em46.trans (congrArg some q46)
          clear ev46 em46 F46
          obtain ⟨v49, ev49, em49, F49⟩ := h.slot (i := 5) rfl rfl (hd _ (Array.mem_of_getElem? (i := 1) rfl) rfl)
          obtain ⟨x49, q49, l49, s49⟩ := isF.out F49
          have e49 := ev49.trans q49
          have f49 := em49.trans (congrArg some q49)
          clear ev49 em49 F49
          rw [if_pos (by rfl)]
          go_simp
          exact hK _ _ (fact_stat _ _ _) (isF.mk (opV_lt32 _ _ _ _ _) (mul_sim s46 s49 _ _)) (Js.nil (below_dn hA _))
        case r7 =>
          intro listed a u h hu hd K hK
          have e9 : a.tmps.getD 9 undef = .float .f32 (D.W k) := h.base (by kernel_rfl)
          have f9 : a.tmps[9]? = some (.float .f32 (D.W k)) := h.old (by kernel_rfl)
          rw [if_pos (by rfl)]
          go_simp
          exact hK _ _ (fact_stat _ _ _) (isE.mk rfl) (Js.neutral h.world rfl)
        case r8 =>
          intro listed a u h hu hd K hK
          have hA : (fun W => Below wt.heap.size wt W) u := h.world
          have e4 : a.tmps.getD 4 undef = .pointer (some ⟨w.heap.size, 0, none⟩) := h.base (by kernel_rfl)
          have f4 : a.tmps[4]? = some (.pointer (some ⟨w.heap.size, 0, none⟩)) := h.old (by kernel_rfl)
          rw [if_pos (by rfl)]
          obtain ⟨v0_, v1_, v2_, vf_⟩ := (HV.out.go hA).facts
          obtain ⟨w0_, w1_, w2_, wf_⟩ := (Y0t.out.go hA).facts
          obtain ⟨g0, g1, g2, g3, gf⟩ := (HXt.out.go hA).facts
          obtain ⟨m0, m1, m2, ma, mb, mc⟩ := (HR1t.out.go hA).at3 hlt
          rw [vc0] at m0
          rw [vc1] at m1
          rw [vc2] at m2
          go_simp
          exact hK _ _ (fact_stat _ _ _) (isE.mk rfl) (Js.nil hA)
        case r9 =>
          intro listed a u h hu hd K hK
          have e0 : a.tmps.getD 0 undef = .pointer (some ⟨g, 0, none⟩) := h.base (by kernel_rfl)
          have f0 : a.tmps[0]? = some (.pointer (some ⟨g, 0, none⟩)) := h.old (by kernel_rfl)
          rw [if_pos (by rfl)]
          go_simp
          exact hK _ _ (fact_stat _ _ _) (isE.mk rfl) (Js.neutral h.world rfl)
        case r10 =>
          intro listed a u h hu hd K hK
          obtain ⟨v53, ev53, em53, F53⟩ := h.slot (i := 9) rfl rfl (hd _ (Array.mem_of_getElem? (i := 0) rfl) rfl)
          have e53 := ev53.trans (isE.out F53)
          have f53 := em53.trans (congrArg some (isE.out F53))
          clear ev53 em53 F53
          rw [if_pos (by rfl)]
          go_simp
          exact hK _ _ (fact_stat _ _ _) (isE.mk rfl) (Js.neutral h.world rfl)
        case r11 =>
          intro listed a u h hu hd K hK
          obtain ⟨v54, ev54, em54, F54⟩ := h.slot (i := 10) rfl rfl (hd _ (Array.mem_of_getElem? (i := 0) rfl) rfl)
          have e54 := ev54.trans (isE.out F54)
          have f54 := em54.trans (congrArg some (isE.out F54))
          clear ev54 em54 F54
          rw [if_pos (by rfl)]
          go_simp
          exact hK _ _ (fact_stat _ _ _) (isE.mk rfl) (Js.neutral h.world rfl)
        case r12 =>
          intro listed a u h hu hd K hK
          have hA : (fun W => Below wt.heap.size wt W) u := h.world
          obtain ⟨v55, ev55, em55, F55⟩ := h.slot (i := 11) rfl rfl (hd _ (Array.mem_of_getElem? (i := 0) rfl) rfl)
          have e55 := ev55.trans (isE.out F55)
          have f55 := em55.trans (congrArg some (isE.out F55))
          clear ev55 em55 F55
          rw [if_pos (by rfl)]
          obtain ⟨v0_, v1_, v2_, vf_⟩ := (HV.out.go hA).facts
          obtain ⟨w0_, w1_, w2_, wf_⟩ := (Y0t.out.go hA).facts
          obtain ⟨g0, g1, g2, g3, gf⟩ := (HXt.out.go hA).facts
          obtain ⟨m0, m1, m2, ma, mb, mc⟩ := (HR1t.out.go hA).at3 hlt
          rw [vc0] at m0
          rw [vc1] at m1
          rw [vc2] at m2
          go_simp
          exact hK _ _ (fact_stat _ _ _) (isE.mk rfl) (Js.nil hA)
        case r13 =>
          intro listed a u h hu hd K hK
          have e8 : a.tmps.getD 8 undef = .int .i64 (k : Int) := h.base (by kernel_rfl)
          have f8 : a.tmps[8]? = some (.int .i64 (k : Int)) := h.old (by kernel_rfl)
          rw [if_pos (by rfl)]
          go_simp
          exact hK _ _ (fact_stat _ _ _) (isE.mk rfl) (Js.neutral h.world rfl)
        case r14 =>
          intro listed a u h hu hd K hK
          obtain ⟨v56, ev56, em56, F56⟩ := h.slot (i := 12) rfl rfl (hd _ (Array.mem_of_getElem? (i := 0) rfl) rfl)
          have e56 := ev56.trans (isE.out F56)
          have f56 := em56.trans (congrArg some (isE.out F56))
          clear ev56 em56 F56
          obtain ⟨v57, ev57, em57, F57⟩ := h.slot (i := 13) rfl rfl (hd _ (Array.mem_of_getElem? (i := 1) rfl) rfl)
          have e57 := ev57.trans (isE.out F57)
          have f57 := em57.trans (congrArg some (isE.out F57))
          clear ev57 em57 F57
          rw [if_pos (by rfl)]
          go_simp
          exact hK _ _ (fact_stat _ _ _) (isE.mk rfl) (Js.neutral h.world rfl)
        case r15 =>
          intro listed a u h hu hd K hK
          have hA : (fun W => Below wt.heap.size wt W) u := h.world
          obtain ⟨v58, ev58, em58, F58⟩ := h.slot (i := 14) rfl rfl (hd _ (Array.mem_of_getElem? (i := 0) rfl) rfl)
          have e58 := ev58.trans (isE.out F58)
          have f58 := em58.trans (congrArg some (isE.out F58))
          clear ev58 em58 F58
          rw [if_pos (by rfl)]
          obtain ⟨v0_, v1_, v2_, vf_⟩ := (HV.out.go hA).facts
          obtain ⟨w0_, w1_, w2_, wf_⟩ := (Y0t.out.go hA).facts
          obtain ⟨g0, g1, g2, g3, gf⟩ := (HXt.out.go hA).facts
          obtain ⟨m0, m1, m2, ma, mb, mc⟩ := (HR1t.out.go hA).at3 hlt
          rw [vc0] at m0
          rw [vc1] at m1
          rw [vc2] at m2
          go_simp
          exact hK _ _ (fact_stat _ _ _) (isE.mk rfl) (Js.nil hA)
        case r16 =>
          intro listed a u h hu hd K hK
          have hA : (fun W => Below wt.heap.size wt W) u := h.world
          obtain ⟨v52, ev52, em52, F52⟩ := h.slot (i := 8) rfl rfl (hd _ (Array.mem_of_getElem? (i := 0) rfl) rfl)
          have e52 := ev52.trans (isE.out F52)
          have f52 := em52.trans (congrArg some (isE.out F52))
          clear ev52 em52 F52
          obtain ⟨v59, ev59, em59, F59⟩ := h.slot (i := 15) rfl rfl (hd _ (Array.mem_of_getElem? (i := 1) rfl) rfl)
          have e59 := ev59.trans (isE.out F59)
          have f59 := em59.trans (congrArg some (isE.out F59))
          clear ev59 em59 F59
          rw [if_pos (by rfl)]
          go_simp
          refine Calls.mono (spec_l01Inner _ _ _ _ _ _ u) ?_
          rintro e u2 ⟨r, rfl, hlt_, hs, hbb⟩
          exact hK _ _ (fact_stat _ _ _) (isF.mk hlt_ (hs)) (Js.nil (hA.trans (hbb.mono hA.size)))
        case r17 =>
          intro listed a u h hu hd K hK
          have hA : (fun W => Below wt.heap.size wt W) u := h.world
          obtain ⟨v51, ev51, em51, F51⟩ := h.slot (i := 7) rfl rfl (hd _ (Array.mem_of_getElem? (i := 0) rfl) rfl)
          have e51 := ev51.trans (isE.out F51)
          have f51 := em51.trans (congrArg some (isE.out F51))
          clear ev51 em51 F51
          obtain ⟨v60, ev60, em60, F60⟩ := h.slot (i := 16) rfl rfl (hd _ (Array.mem_of_getElem? (i := 1) rfl) rfl)
          obtain ⟨x60, q60, l60, s60⟩ := isF.out F60
          have e60 := ev60.trans q60
          have f60 := em60.trans (congrArg some q60)
          clear ev60 em60 F60
          rw [if_pos (by rfl)]
          go_simp
          exact hK _ _ (fact_stat _ _ _) (isF.mk (opV_lt32 _ _ _ _ _) (mul_sim (Sim.refl _ _) s60 _ _)) (Js.nil (below_dn hA _))
        case r18 =>
          intro listed a u h hu hd K hK
          have hA : (fun W => Below wt.heap.size wt W) u := h.world
          obtain ⟨v50, ev50, em50, F50⟩ := h.slot (i := 6) rfl rfl (hd _ (Array.mem_of_getElem? (i := 0) rfl) rfl)
          obtain ⟨x50, q50, l50, s50⟩ := isF.out F50
          have e50 := ev50.trans q50
          have f50 := em50.trans (congrArg some q50)
          clear ev50 em50 F50
          obtain ⟨v61, ev61, em61, F61⟩ := h.slot (i := 17) rfl rfl (hd _ (Array.mem_of_getElem? (i := 1) rfl) rfl)
          obtain ⟨x61, q61, l61, s61⟩ := isF.out F61
          have e61 := ev61.trans q61
          have f61 := em61.trans (congrArg some q61)
          clear ev61 em61 F61
          rw [if_pos (by rfl)]
          go_simp
          exact hK _ _ (fact_stat _ _ _) (isF.mk (opV_lt32 _ _ _ _ _) (sub_sim s50 s61 _ _)) (Js.nil (below_dn hA _))
        case r19 =>
          intro listed a u h hu hd K hK
          have hA : (fun W => Below wt.heap.size wt W) u := h.world
          obtain ⟨v44, ev44, em44, F44⟩ := h.slot (i := 0) rfl rfl (hd _ (Array.mem_of_getElem? (i := 0) rfl) rfl)
          have e44 := ev44.trans (isE.out F44)
          have f44 := em44.trans (congrArg some (isE.out F44))
          clear ev44 em44 F44
          obtain ⟨v62, ev62, em62, F62⟩ := h.slot (i := 18) rfl rfl (hd _ (Array.mem_of_getElem? (i := 1) rfl) rfl)
          obtain ⟨x62, q62, l62, s62⟩ := isF.out F62
          have e62 := ev62.trans q62
          have f62 := em62.trans (congrArg some q62)
          clear ev62 em62 F62
          rw [if_pos (by rfl)]
          go_simp
          exact hK _ _ (fact_stat _ _ _) (isF.mk (opV_lt32 _ _ _ _ _) (add_sim HS.out s62 _ _)) (Js.nil (below_dn hA _))
        case r20 =>
          intro listed a u h hu hd K hK
          obtain ⟨v63, ev63, em63, F63⟩ := h.slot (i := 19) rfl rfl (hd _ (Array.mem_of_getElem? (i := 0) rfl) rfl)
          obtain ⟨x63, q63, l63, s63⟩ := isF.out F63
          have e63 := ev63.trans q63
          have f63 := em63.trans (congrArg some q63)
          clear ev63 em63 F63
          rw [if_pos (by rfl)]
          go_simp
          exact hK _ _ (fact_stat _ _ _) (isF.mk l63 s63) (Js.neutral h.world rfl)
        case hend =>
          intro listed a u h hall
          have hB : (fun W => Below wt.heap.size wt W) u := h.world
          obtain ⟨v7, ev7, em7, F7⟩ := h.slot (i := 20) rfl rfl (hall 20 (by decide))
          obtain ⟨x7, q7, l7, s7⟩ := isF.out F7
          have f7 := em7.trans (congrArg some q7)
          clear ev7 em7 F7
          obtain ⟨v44, ev44, em44, F44⟩ := h.slot (i := 0) rfl rfl (hall 0 (by decide))
          have f44 := em44.trans (congrArg some (isE.out F44))
          clear ev44 em44 F44
          obtain ⟨v45, ev45, em45, F45⟩ := h.slot (i := 1) rfl rfl (hall 1 (by decide))
          have f45 := em45.trans (congrArg some (isE.out F45))
          clear ev45 em45 F45
          obtain ⟨v46, ev46, em46, F46⟩ := h.slot (i := 2) rfl rfl (hall 2 (by decide))
          obtain ⟨x46, q46, l46, s46⟩ := isF.out F46
          have f46 := em46.trans (congrArg some q46)
          clear ev46 em46 F46
          obtain ⟨v47, ev47, em47, F47⟩ := h.slot (i := 3) rfl rfl (hall 3 (by decide))
          have f47 := em47.trans (congrArg some (isE.out F47))
          clear ev47 em47 F47
          obtain ⟨v48, ev48, em48, F48⟩ := h.slot (i := 4) rfl rfl (hall 4 (by decide))
          have f48 := em48.trans (congrArg some (isE.out F48))
          clear ev48 em48 F48
          obtain ⟨v49, ev49, em49, F49⟩ := h.slot (i := 5) rfl rfl (hall 5 (by decide))
          obtain ⟨x49, q49, l49, s49⟩ := isF.out F49
          have f49 := em49.trans (congrArg some q49)
          clear ev49 em49 F49
          obtain ⟨v50, ev50, em50, F50⟩ := h.slot (i := 6) rfl rfl (hall 6 (by decide))
          obtain ⟨x50, q50, l50, s50⟩ := isF.out F50
          have f50 := em50.trans (congrArg some q50)
          clear ev50 em50 F50
          obtain ⟨v51, ev51, em51, F51⟩ := h.slot (i := 7) rfl rfl (hall 7 (by decide))
          have f51 := em51.trans (congrArg some (isE.out F51))
          clear ev51 em51 F51
          obtain ⟨v52, ev52, em52, F52⟩ := h.slot (i := 8) rfl rfl (hall 8 (by decide))
          have f52 := em52.trans (congrArg some (isE.out F52))
          clear ev52 em52 F52
          obtain ⟨v53, ev53, em53, F53⟩ := h.slot (i := 9) rfl rfl (hall 9 (by decide))
          have f53 := em53.trans (congrArg some (isE.out F53))
          clear ev53 em53 F53
          obtain ⟨v54, ev54, em54, F54⟩ := h.slot (i := 10) rfl rfl (hall 10 (by decide))
          have f54 := em54.trans (congrArg some (isE.out F54))
          clear ev54 em54 F54
          obtain ⟨v55, ev55, em55, F55⟩ := h.slot (i := 11) rfl rfl (hall 11 (by decide))
          have f55 := em55.trans (congrArg some (isE.out F55))
          clear ev55 em55 F55
          obtain ⟨v56, ev56, em56, F56⟩ := h.slot (i := 12) rfl rfl (hall 12 (by decide))
          have f56 := em56.trans (congrArg some (isE.out F56))
          clear ev56 em56 F56
          obtain ⟨v57, ev57, em57, F57⟩ := h.slot (i := 13) rfl rfl (hall 13 (by decide))
          have f57 := em57.trans (congrArg some (isE.out F57))
          clear ev57 em57 F57
          obtain ⟨v58, ev58, em58, F58⟩ := h.slot (i := 14) rfl rfl (hall 14 (by decide))
          have f58 := em58.trans (congrArg some (isE.out F58))
          clear ev58 em58 F58
          obtain ⟨v59, ev59, em59, F59⟩ := h.slot (i := 15) rfl rfl (hall 15 (by decide))
          have f59 := em59.trans (congrArg some (isE.out F59))
          clear ev59 em59 F59
          obtain ⟨v60, ev60, em60, F60⟩ := h.slot (i := 16) rfl rfl (hall 16 (by decide))
          obtain ⟨x60, q60, l60, s60⟩ := isF.out F60
          have f60 := em60.trans (congrArg some q60)
          clear ev60 em60 F60
          obtain ⟨v61, ev61, em61, F61⟩ := h.slot (i := 17) rfl rfl (hall 17 (by decide))
          obtain ⟨x61, q61, l61, s61⟩ := isF.out F61
          have f61 := em61.trans (congrArg some q61)
          clear ev61 em61 F61
          obtain ⟨v62, ev62, em62, F62⟩ := h.slot (i := 18) rfl rfl (hall 18 (by decide))
          obtain ⟨x62, q62, l62, s62⟩ := isF.out F62
          have f62 := em62.trans (congrArg some q62)
          clear ev62 em62 F62
          obtain ⟨v63, ev63, em63, F63⟩ := h.slot (i := 19) rfl rfl (hall 19 (by decide))
          obtain ⟨x63, q63, l63, s63⟩ := isF.out F63
          have f63 := em63.trans (congrArg some q63)
          clear ev63 em63 F63
          have ha := h.act [7, 44, 45, 46, 47, 48, 49, 50, 51, 52, 53, 54, 55, 56, 57, 58, 59, 60, 61, 62, 63] [_, _, _, _, _, _, _, _, _, _, _, _, _, _, _, _, _, _, _, _, _] (by kernel_rfl) ⟨f7, f44, f45, f46, f47, f48, f49, f50, f51, f52, f53, f54, f55, f56, f57, f58, f59, f60, f61, f62, f63, trivial⟩
          clear f7 f44 f45 f46 f47 f48 f49 f50 f51 f52 f53 f54 f55 f56 f57 f58 f59 f60 f61 f62 f63
          simp only [setAll, List.setIfInBounds_toArray, List.set_cons_zero, List.set_cons_succ] at ha
          subst ha
          clear h hall
          have HBu := Lib.hid (below_step HBt.out hB)
          have S7 := Lib.hid s7
          have yz := hB.size
          clear hB s7 s46 s49 s50 s60 s61 s62 s63 hw0 HXt Y0t HBt HV
          go_wp2_with fail
          go_roundw
          case rel => exact ⟨k + 1, x7, by omega, rfl, by go_num, l7, S7.out, HBu.out⟩
          case measure => simp [intOf]; omega
    · obtain rfl : n = k := by omega
      clear hS hB
      go_wp2_with fail
      go_ret
      exact ⟨x, rfl, hx1, HS.out, below_step B0.out HB.out⟩
def enB (n1 n2 n3 n4 : Nat) (D : D4) (q : V3) (t : Nat) : Bool := okC n1 n2 n3 n4 D && (finV q && abv t)
def pickN (b : Bool) (x : Nat) : Nat := match b with | true => x | false => 0
set_option maxHeartbeats 4000000 in
set_option maxRecDepth 100000 in
theorem spec_EnergyOfChain (A1 A2 A3 A4 : Option Addr) (c1 c2 c3 c4 n1 n2 n3 n4 B : Nat) (D : D4) (q : V3) (t : Nat) (w : World) (h : Own w B A1 A2 A3 A4 c1 c2 c3 c4 n1 n2 n3 n4 D) :
    Calls Try.prog 33 #[.agg #[.slice A1 n1 c1, .slice A2 n2 c2, .slice A3 n3 c3, .slice A4 n4 c4], .agg #[.float .f32 q.x, .float .f32 q.y, .float .f32 q.z], .float .f32 t] w (RetNB (pickN (enB n1 n2 n3 n4 D q t) (sumF (enQ D q t) n1)) (enB n1 n2 n3 n4 D q t) w) := by
  have H := Lib.hid h
  clear h
  unfold enB
  cases q1 : okC n1 n2 n3 n4 D
  · go_enter Try.func33, Try.ntmps33
    go_wp2_with fail
    refine (spec_l03Is w.heap.size A1 A2 A3 A4 c1 c2 c3 c4 n1 n2 n3 n4 B D _ ((Bx.new_ _ _ _ _ _ _).alloc _) (H.out.go (by repeat' (first | with_reducible exact Below.refl _ _ | with_reducible assumption | with_reducible refine below_dn ?_ _ | with_reducible refine Below.drew ?_ | with_reducible refine below_step ?_ (by assumption) | with_reducible refine Below.setCell ?_ ?_ _ | with_reducible refine Below.alloc ?_ ?_ _ | with_reducible exact Nat.le_refl _ | (simp; done) | (simp; omega) | omega)))).mono ?_
    rintro e w1 ⟨rfl, hb1⟩
    rw [q1]
    have P1 := Lib.hid (((Bx.new_ w 32 (.slice A1 n1 c1) (.slice A2 n2 c2) (.slice A3 n3 c3) (.slice A4 n4 c4)).alloc _).go hb1)
    have e1 : (w.alloc (.cells #[.slice A1 n1 c1, .slice A2 n2 c2, .slice A3 n3 c3, .slice A4 n4 c4] 32)).heap.size = w.heap.size + 1 := by simp
    have V1 := Lib.hid ((Tx.new_ (w.alloc (.cells #[.slice A1 n1 c1, .slice A2 n2 c2, .slice A3 n3 c3, .slice A4 n4 c4] 32)) 38 (.float .f32 q.x) (.float .f32 q.y) (.float .f32 q.z)).go hb1)
    rw [e1] at V1
    have B1 := Lib.hid (show Below w.heap.size w w1 from below_step (w := w) ((by repeat' (first | with_reducible exact Below.refl _ _ | with_reducible assumption | with_reducible refine below_dn ?_ _ | with_reducible refine Below.drew ?_ | with_reducible refine below_step ?_ (by assumption) | with_reducible refine Below.setCell ?_ ?_ _ | with_reducible refine Below.alloc ?_ ?_ _ | with_reducible exact Nat.le_refl _ | (simp; done) | (simp; omega) | omega))) hb1)
    clear hb1 e1
    obtain ⟨v0, v1, v2, vf⟩ := V1.out.facts
    have lv := V1.out.lt
    go_wp2_with fail
    go_ret2
    exact ⟨0, rfl, by decide, Sim.refl _ _, B1.out⟩
  · obtain ⟨s1, rfl, rfl, s4⟩ := okC_sz q1
    cases q2 : finV q
    · go_enter Try.func33, Try.ntmps33
      go_wp2_with fail
      refine (spec_l03Is w.heap.size A1 A2 A3 A4 c1 c2 c3 c4 n3 n3 n3 n4 B D _ ((Bx.new_ _ _ _ _ _ _).alloc _) (H.out.go (by repeat' (first | with_reducible exact Below.refl _ _ | with_reducible assumption | with_reducible refine below_dn ?_ _ | with_reducible refine Below.drew ?_ | with_reducible refine below_step ?_ (by assumption) | with_reducible refine Below.setCell ?_ ?_ _ | with_reducible refine Below.alloc ?_ ?_ _ | with_reducible exact Nat.le_refl _ | (simp; done) | (simp; omega) | omega)))).mono ?_
      rintro e w1 ⟨rfl, hb1⟩
      rw [q1]
      have P1 := Lib.hid (((Bx.new_ w 32 (.slice A1 n3 c1) (.slice A2 n3 c2) (.slice A3 n3 c3) (.slice A4 n4 c4)).alloc _).go hb1)
      have e1 : (w.alloc (.cells #[.slice A1 n3 c1, .slice A2 n3 c2, .slice A3 n3 c3, .slice A4 n4 c4] 32)).heap.size = w.heap.size + 1 := by simp
      have V1 := Lib.hid ((Tx.new_ (w.alloc (.cells #[.slice A1 n3 c1, .slice A2 n3 c2, .slice A3 n3 c3, .slice A4 n4 c4] 32)) 38 (.float .f32 q.x) (.float .f32 q.y) (.float .f32 q.z)).go hb1)
      rw [e1] at V1
      have B1 := Lib.hid (show Below w.heap.size w w1 from below_step (w := w) ((by repeat' (first | with_reducible exact Below.refl _ _ | with_reducible assumption | with_reducible refine below_dn ?_ _ | with_reducible refine Below.drew ?_ | with_reducible refine below_step ?_ (by assumption) | with_reducible refine Below.setCell ?_ ?_ _ | with_reducible refine Below.alloc ?_ ?_ _ | with_reducible exact Nat.le_refl _ | (simp; done) | (simp; omega) | omega))) hb1)
      clear hb1 e1
      obtain ⟨v0, v1, v2, vf⟩ := V1.out.facts
      have lv := V1.out.lt
      go_wp2_with (go_at_call 100; refine (spec_l01VFinite _ _ _ _).mono ?_; rintro e w2 ⟨rfl, hb2⟩; rw [show finV ⟨q.x, q.y, q.z⟩ = finV q from rfl, q2]; have B2 := Lib.hid (below_step B1.out hb2); have V2 := Lib.hid (V1.out.go hb2); have P2 := Lib.hid (P1.out.go hb2); clear hb2 v0 v1 v2 vf lv; obtain ⟨v0, v1, v2, vf⟩ := V2.out.facts; have lv := V2.out.lt)
      go_ret2
      exact ⟨0, rfl, by decide, Sim.refl _ _, B2.out⟩
    · cases q3 : abv t
      · go_enter Try.func33, Try.ntmps33
        go_wp2_with fail
        refine (spec_l03Is w.heap.size A1 A2 A3 A4 c1 c2 c3 c4 n3 n3 n3 n4 B D _ ((Bx.new_ _ _ _ _ _ _).alloc _) (H.out.go (by repeat' (first | with_reducible exact Below.refl _ _ | with_reducible assumption | with_reducible refine below_dn ?_ _ | with_reducible refine Below.drew ?_ | with_reducible refine below_step ?_ (by assumption) | with_reducible refine Below.setCell ?_ ?_ _ | with_reducible refine Below.alloc ?_ ?_ _ | with_reducible exact Nat.le_refl _ | (simp; done) | (simp; omega) | omega)))).mono ?_
        rintro e w1 ⟨rfl, hb1⟩
        rw [q1]
        have P1 := Lib.hid (((Bx.new_ w 32 (.slice A1 n3 c1) (.slice A2 n3 c2) (.slice A3 n3 c3) (.slice A4 n4 c4)).alloc _).go hb1)
        have e1 : (w.alloc (.cells #[.slice A1 n3 c1, .slice A2 n3 c2, .slice A3 n3 c3, .slice A4 n4 c4] 32)).heap.size = w.heap.size + 1 := by simp
        have V1 := Lib.hid ((Tx.new_ (w.alloc (.cells #[.slice A1 n3 c1, .slice A2 n3 c2, .slice A3 n3 c3, .slice A4 n4 c4] 32)) 38 (.float .f32 q.x) (.float .f32 q.y) (.float .f32 q.z)).go hb1)
        rw [e1] at V1
        have B1 := Lib.hid (show Below w.heap.size w w1 from below_step (w := w) ((by repeat' (first | with_reducible exact Below.refl _ _ | with_reducible assumption | with_reducible refine below_dn ?_ _ | with_reducible refine Below.drew ?_ | with_reducible refine below_step ?_ (by assumption) | with_reducible refine Below.setCell ?_ ?_ _ | with_reducible refine Below.alloc ?_ ?_ _ | with_reducible exact Nat.le_refl _ | (simp; done) | (simp; omega) | omega))) hb1)
        clear hb1 e1
        obtain ⟨v0, v1, v2, vf⟩ := V1.out.facts
        have lv := V1.out.lt
        go_wp2_with (first | (go_at_call 100; refine (spec_l01VFinite _ _ _ _).mono ?_; rintro e w2 ⟨rfl, hb2⟩; rw [show finV ⟨q.x, q.y, q.z⟩ = finV q from rfl, q2]; have B2 := Lib.hid (below_step B1.out hb2); have V2 := Lib.hid (V1.out.go hb2); have P2 := Lib.hid (P1.out.go hb2); clear hb2 v0 v1 v2 vf lv; obtain ⟨v0, v1, v2, vf⟩ := V2.out.facts; have lv := V2.out.lt) | (go_at_call 91; refine (spec_l03Above _ _).mono ?_; rintro e w3 ⟨rfl, nz, rfl⟩; rw [q3]))
        go_ret2
        exact ⟨0, rfl, by decide, Sim.refl _ _, below_dn B2.out _⟩
      · go_enter Try.func33, Try.ntmps33
        go_wp2_with fail
        refine (spec_l03Is w.heap.size A1 A2 A3 A4 c1 c2 c3 c4 n3 n3 n3 n4 B D _ ((Bx.new_ _ _ _ _ _ _).alloc _) (H.out.go (by repeat' (first | with_reducible exact Below.refl _ _ | with_reducible assumption | with_reducible refine below_dn ?_ _ | with_reducible refine Below.drew ?_ | with_reducible refine below_step ?_ (by assumption) | with_reducible refine Below.setCell ?_ ?_ _ | with_reducible refine Below.alloc ?_ ?_ _ | with_reducible exact Nat.le_refl _ | (simp; done) | (simp; omega) | omega)))).mono ?_
        rintro e w1 ⟨rfl, hb1⟩
        rw [q1]
        have P1 := Lib.hid (((Bx.new_ w 32 (.slice A1 n3 c1) (.slice A2 n3 c2) (.slice A3 n3 c3) (.slice A4 n4 c4)).alloc _).go hb1)
        have e1 : (w.alloc (.cells #[.slice A1 n3 c1, .slice A2 n3 c2, .slice A3 n3 c3, .slice A4 n4 c4] 32)).heap.size = w.heap.size + 1 := by simp
        have V1 := Lib.hid ((Tx.new_ (w.alloc (.cells #[.slice A1 n3 c1, .slice A2 n3 c2, .slice A3 n3 c3, .slice A4 n4 c4] 32)) 38 (.float .f32 q.x) (.float .f32 q.y) (.float .f32 q.z)).go hb1)
        rw [e1] at V1
        have B1 := Lib.hid (show Below w.heap.size w w1 from below_step (w := w) ((by repeat' (first | with_reducible exact Below.refl _ _ | with_reducible assumption | with_reducible refine below_dn ?_ _ | with_reducible refine Below.drew ?_ | with_reducible refine below_step ?_ (by assumption) | with_reducible refine Below.setCell ?_ ?_ _ | with_reducible refine Below.alloc ?_ ?_ _ | with_reducible exact Nat.le_refl _ | (simp; done) | (simp; omega) | omega))) hb1)
        clear hb1 e1
        obtain ⟨v0, v1, v2, vf⟩ := V1.out.facts
        have lv := V1.out.lt
        go_wp2_with (first | (go_at_call 100; refine (spec_l01VFinite _ _ _ _).mono ?_; rintro e w2 ⟨rfl, hb2⟩; rw [show finV ⟨q.x, q.y, q.z⟩ = finV q from rfl, q2]; have B2 := Lib.hid (below_step B1.out hb2); have V2 := Lib.hid (V1.out.go hb2); have P2 := Lib.hid (P1.out.go hb2); clear hb2 v0 v1 v2 vf lv; obtain ⟨v0, v1, v2, vf⟩ := V2.out.facts; have lv := V2.out.lt) | (go_at_call 91; refine (spec_l03Above _ _).mono ?_; rintro e w3 ⟨rfl, nz, rfl⟩; rw [q3]))
        refine (spec_energy w.heap.size B A1 A2 A3 A4 c1 c2 c3 c4 n3 n4 D q t _ (P2.out.drewN _) ((H.out.go B2.out).drewN _) s1).mono ?_
        rintro e w4 ⟨r, rfl, hlr, hs, hb4⟩
        have B4 := Lib.hid (below_step (below_dn B2.out _) hb4)
        have S4 := Lib.hid hs
        clear hb4 hs v0 v1 v2 vf lv
        go_wp2_with fail
        go_ret2
        exact ⟨r, rfl, hlr, S4.out, B4.out⟩
set_option maxHeartbeats 4000000 in
set_option maxRecDepth 100000 in
theorem impl_EnergyOfChain (A1 A2 A3 A4 : Option Addr) (c1 c2 c3 c4 n1 n2 n3 n4 B : Nat) (D : D4) (q : V3) (t : Nat) (w : World) (h : Own w B A1 A2 A3 A4 c1 c2 c3 c4 n1 n2 n3 n4 D) :
    Calls Try.prog 35 #[.agg #[.slice A1 n1 c1, .slice A2 n2 c2, .slice A3 n3 c3, .slice A4 n4 c4], .agg #[.float .f32 q.x, .float .f32 q.y, .float .f32 q.z], .float .f32 t] w (RetNB (pickN (enB n1 n2 n3 n4 D q t) (sumF (enQ D q t) n1)) (enB n1 n2 n3 n4 D q t) w) := by
  have H := Lib.hid h
  clear h
  unfold enB
  cases q1 : okC n1 n2 n3 n4 D
  · go_enter Try.func35, Try.ntmps35
    go_wp2_with fail
    refine (impl_ValidChain A1 A2 A3 A4 c1 c2 c3 c4 n1 n2 n3 n4 B D _ (H.out.go (by repeat' (first | with_reducible exact Below.refl _ _ | with_reducible assumption | with_reducible refine below_dn ?_ _ | with_reducible refine Below.drew ?_ | with_reducible refine below_step ?_ (by assumption) | with_reducible refine Below.setCell ?_ ?_ _ | with_reducible refine Below.alloc ?_ ?_ _ | with_reducible exact Nat.le_refl _ | (simp; done) | (simp; omega) | omega)))).mono ?_
    rintro e w1 ⟨rfl, hb1⟩
    rw [q1]
    have P1 := Lib.hid (((Bx.new_ w 32 (.slice A1 n1 c1) (.slice A2 n2 c2) (.slice A3 n3 c3) (.slice A4 n4 c4)).alloc _).go hb1)
    have e1 : (w.alloc (.cells #[.slice A1 n1 c1, .slice A2 n2 c2, .slice A3 n3 c3, .slice A4 n4 c4] 32)).heap.size = w.heap.size + 1 := by simp
    have V1 := Lib.hid ((Tx.new_ (w.alloc (.cells #[.slice A1 n1 c1, .slice A2 n2 c2, .slice A3 n3 c3, .slice A4 n4 c4] 32)) 38 (.float .f32 q.x) (.float .f32 q.y) (.float .f32 q.z)).go hb1)
    rw [e1] at V1
    have B1 := Lib.hid (show Below w.heap.size w w1 from below_step (w := w) ((by repeat' (first | with_reducible exact Below.refl _ _ | with_reducible assumption | with_reducible refine below_dn ?_ _ | with_reducible refine Below.drew ?_ | with_reducible refine below_step ?_ (by assumption) | with_reducible refine Below.setCell ?_ ?_ _ | with_reducible refine Below.alloc ?_ ?_ _ | with_reducible exact Nat.le_refl _ | (simp; done) | (simp; omega) | omega))) hb1)
    clear hb1 e1
    obtain ⟨v0, v1, v2, vf⟩ := V1.out.facts
    have lv := V1.out.lt
    go_wp2_with fail
    go_ret2
    exact ⟨0, rfl, by decide, Sim.refl _ _, B1.out⟩
  · obtain ⟨s1, rfl, rfl, s4⟩ := okC_sz q1
    cases q2 : finV q
    · go_enter Try.func35, Try.ntmps35
      go_wp2_with fail
      refine (impl_ValidChain A1 A2 A3 A4 c1 c2 c3 c4 n3 n3 n3 n4 B D _ (H.out.go (by repeat' (first | with_reducible exact Below.refl _ _ | with_reducible assumption | with_reducible refine below_dn ?_ _ | with_reducible refine Below.drew ?_ | with_reducible refine below_step ?_ (by assumption) | with_reducible refine Below.setCell ?_ ?_ _ | with_reducible refine Below.alloc ?_ ?_ _ | with_reducible exact Nat.le_refl _ | (simp; done) | (simp; omega) | omega)))).mono ?_
      rintro e w1 ⟨rfl, hb1⟩
      rw [q1]
      have P1 := Lib.hid (((Bx.new_ w 32 (.slice A1 n3 c1) (.slice A2 n3 c2) (.slice A3 n3 c3) (.slice A4 n4 c4)).alloc _).go hb1)
      have e1 : (w.alloc (.cells #[.slice A1 n3 c1, .slice A2 n3 c2, .slice A3 n3 c3, .slice A4 n4 c4] 32)).heap.size = w.heap.size + 1 := by simp
      have V1 := Lib.hid ((Tx.new_ (w.alloc (.cells #[.slice A1 n3 c1, .slice A2 n3 c2, .slice A3 n3 c3, .slice A4 n4 c4] 32)) 38 (.float .f32 q.x) (.float .f32 q.y) (.float .f32 q.z)).go hb1)
      rw [e1] at V1
      have B1 := Lib.hid (show Below w.heap.size w w1 from below_step (w := w) ((by repeat' (first | with_reducible exact Below.refl _ _ | with_reducible assumption | with_reducible refine below_dn ?_ _ | with_reducible refine Below.drew ?_ | with_reducible refine below_step ?_ (by assumption) | with_reducible refine Below.setCell ?_ ?_ _ | with_reducible refine Below.alloc ?_ ?_ _ | with_reducible exact Nat.le_refl _ | (simp; done) | (simp; omega) | omega))) hb1)
      clear hb1 e1
      obtain ⟨v0, v1, v2, vf⟩ := V1.out.facts
      have lv := V1.out.lt
      go_wp2_with (go_at_call 102; refine (impl_finiteVector _ _ _ _).mono ?_; rintro e w2 ⟨rfl, hb2⟩; rw [show finV ⟨q.x, q.y, q.z⟩ = finV q from rfl, q2]; have B2 := Lib.hid (below_step B1.out hb2); have V2 := Lib.hid (V1.out.go hb2); have P2 := Lib.hid (P1.out.go hb2); clear hb2 v0 v1 v2 vf lv; obtain ⟨v0, v1, v2, vf⟩ := V2.out.facts; have lv := V2.out.lt)
      go_ret2
      exact ⟨0, rfl, by decide, Sim.refl _ _, B2.out⟩
    · cases q3 : abv t
      · go_enter Try.func35, Try.ntmps35
        go_wp2_with fail
        refine (impl_ValidChain A1 A2 A3 A4 c1 c2 c3 c4 n3 n3 n3 n4 B D _ (H.out.go (by repeat' (first | with_reducible exact Below.refl _ _ | with_reducible assumption | with_reducible refine below_dn ?_ _ | with_reducible refine Below.drew ?_ | with_reducible refine below_step ?_ (by assumption) | with_reducible refine Below.setCell ?_ ?_ _ | with_reducible refine Below.alloc ?_ ?_ _ | with_reducible exact Nat.le_refl _ | (simp; done) | (simp; omega) | omega)))).mono ?_
        rintro e w1 ⟨rfl, hb1⟩
        rw [q1]
        have P1 := Lib.hid (((Bx.new_ w 32 (.slice A1 n3 c1) (.slice A2 n3 c2) (.slice A3 n3 c3) (.slice A4 n4 c4)).alloc _).go hb1)
        have e1 : (w.alloc (.cells #[.slice A1 n3 c1, .slice A2 n3 c2, .slice A3 n3 c3, .slice A4 n4 c4] 32)).heap.size = w.heap.size + 1 := by simp
        have V1 := Lib.hid ((Tx.new_ (w.alloc (.cells #[.slice A1 n3 c1, .slice A2 n3 c2, .slice A3 n3 c3, .slice A4 n4 c4] 32)) 38 (.float .f32 q.x) (.float .f32 q.y) (.float .f32 q.z)).go hb1)
        rw [e1] at V1
        have B1 := Lib.hid (show Below w.heap.size w w1 from below_step (w := w) ((by repeat' (first | with_reducible exact Below.refl _ _ | with_reducible assumption | with_reducible refine below_dn ?_ _ | with_reducible refine Below.drew ?_ | with_reducible refine below_step ?_ (by assumption) | with_reducible refine Below.setCell ?_ ?_ _ | with_reducible refine Below.alloc ?_ ?_ _ | with_reducible exact Nat.le_refl _ | (simp; done) | (simp; omega) | omega))) hb1)
        clear hb1 e1
        obtain ⟨v0, v1, v2, vf⟩ := V1.out.facts
        have lv := V1.out.lt
        go_wp2_with (first | (go_at_call 102; refine (impl_finiteVector _ _ _ _).mono ?_; rintro e w2 ⟨rfl, hb2⟩; rw [show finV ⟨q.x, q.y, q.z⟩ = finV q from rfl, q2]; have B2 := Lib.hid (below_step B1.out hb2); have V2 := Lib.hid (V1.out.go hb2); have P2 := Lib.hid (P1.out.go hb2); clear hb2 v0 v1 v2 vf lv; obtain ⟨v0, v1, v2, vf⟩ := V2.out.facts; have lv := V2.out.lt) | (go_at_call 95; refine (impl_lengthOk _ _).mono ?_; rintro e w3 ⟨rfl, nz, rfl⟩; rw [q3]))
        go_ret2
        exact ⟨0, rfl, by decide, Sim.refl _ _, below_dn B2.out _⟩
      · go_enter Try.func35, Try.ntmps35
        go_wp2_with fail
        refine (impl_ValidChain A1 A2 A3 A4 c1 c2 c3 c4 n3 n3 n3 n4 B D _ (H.out.go (by repeat' (first | with_reducible exact Below.refl _ _ | with_reducible assumption | with_reducible refine below_dn ?_ _ | with_reducible refine Below.drew ?_ | with_reducible refine below_step ?_ (by assumption) | with_reducible refine Below.setCell ?_ ?_ _ | with_reducible refine Below.alloc ?_ ?_ _ | with_reducible exact Nat.le_refl _ | (simp; done) | (simp; omega) | omega)))).mono ?_
        rintro e w1 ⟨rfl, hb1⟩
        rw [q1]
        have P1 := Lib.hid (((Bx.new_ w 32 (.slice A1 n3 c1) (.slice A2 n3 c2) (.slice A3 n3 c3) (.slice A4 n4 c4)).alloc _).go hb1)
        have e1 : (w.alloc (.cells #[.slice A1 n3 c1, .slice A2 n3 c2, .slice A3 n3 c3, .slice A4 n4 c4] 32)).heap.size = w.heap.size + 1 := by simp
        have V1 := Lib.hid ((Tx.new_ (w.alloc (.cells #[.slice A1 n3 c1, .slice A2 n3 c2, .slice A3 n3 c3, .slice A4 n4 c4] 32)) 38 (.float .f32 q.x) (.float .f32 q.y) (.float .f32 q.z)).go hb1)
        rw [e1] at V1
        have B1 := Lib.hid (show Below w.heap.size w w1 from below_step (w := w) ((by repeat' (first | with_reducible exact Below.refl _ _ | with_reducible assumption | with_reducible refine below_dn ?_ _ | with_reducible refine Below.drew ?_ | with_reducible refine below_step ?_ (by assumption) | with_reducible refine Below.setCell ?_ ?_ _ | with_reducible refine Below.alloc ?_ ?_ _ | with_reducible exact Nat.le_refl _ | (simp; done) | (simp; omega) | omega))) hb1)
        clear hb1 e1
        obtain ⟨v0, v1, v2, vf⟩ := V1.out.facts
        have lv := V1.out.lt
        go_wp2_with (first | (go_at_call 102; refine (impl_finiteVector _ _ _ _).mono ?_; rintro e w2 ⟨rfl, hb2⟩; rw [show finV ⟨q.x, q.y, q.z⟩ = finV q from rfl, q2]; have B2 := Lib.hid (below_step B1.out hb2); have V2 := Lib.hid (V1.out.go hb2); have P2 := Lib.hid (P1.out.go hb2); clear hb2 v0 v1 v2 vf lv; obtain ⟨v0, v1, v2, vf⟩ := V2.out.facts; have lv := V2.out.lt) | (go_at_call 95; refine (impl_lengthOk _ _).mono ?_; rintro e w3 ⟨rfl, nz, rfl⟩; rw [q3]))
        refine (impl_energy w.heap.size B A1 A2 A3 A4 c1 c2 c3 c4 n3 n4 D q t _ (P2.out.drewN _) ((H.out.go B2.out).drewN _) s1).mono ?_
        rintro e w4 ⟨r, rfl, hlr, hs, hb4⟩
        have B4 := Lib.hid (below_step (below_dn B2.out _) hb4)
        have S4 := Lib.hid hs
        clear hb4 hs v0 v1 v2 vf lv
        go_wp2_with fail
        go_ret2
        exact ⟨r, rfl, hlr, S4.out, B4.out⟩
end Go.Proofs.Ytlhgaihfghobmaa
