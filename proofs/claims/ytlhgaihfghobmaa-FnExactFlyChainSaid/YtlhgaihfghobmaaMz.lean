/- FlyChain: contracts. -/
import Derived.Test.YtlhgaihfghobmaaMy
import Derived.Test.YtlhgaihfghobmaaDg
namespace Go.Proofs.Ytlhgaihfghobmaa
open Go.ChangeShapes Go.WideShapes Go.ChangeAt Go.RowKit Go.Deep

def leO (x : Nat) : Bool := FloatKind.f32.format.order x 1065353216 == some .lt || FloatKind.f32.format.order x 1065353216 == some .eq
def airB (q : V3) (f t : Nat) : Bool := finV q && (geZ f && (leO f && abv t))
set_option maxHeartbeats 2000000 in
theorem spec_l03Air (q : V3) (f t : Nat) (w : World) : Calls Try.prog 136 #[.agg #[.float .f32 q.x, .float .f32 q.y, .float .f32 q.z], .float .f32 f, .float .f32 t] w (RetV (.bool (airB q f t)) w) := by
  have e0 : finV ⟨q.x, q.y, q.z⟩ = finV q := rfl
  unfold airB
  cases h0 : finV q
  · go_enter Try.func136, Try.ntmps136
    go_wp2_with (go_at_call 100; refine (spec_l01VFinite _ _ _ _).mono ?_; rintro e w1 ⟨rfl, hb1⟩; rw [e0, h0])
    go_ret
    exact ⟨rfl, below_step (w := w) (by repeat' (first | with_reducible exact Below.refl _ _ | with_reducible assumption | with_reducible refine below_dn ?_ _ | with_reducible refine Below.drew ?_ | with_reducible refine below_step ?_ (by assumption) | with_reducible refine Below.setCell ?_ ?_ _ | with_reducible refine Below.alloc ?_ ?_ _ | with_reducible exact Nat.le_refl _ | (simp; done) | (simp; omega) | omega)) hb1⟩
  · cases h1 : geZ f
    · have h1' := h1
      unfold geZ at h1'
      go_enter Try.func136, Try.ntmps136
      go_wp2_with (go_at_call 100; refine (spec_l01VFinite _ _ _ _).mono ?_; rintro e w1 ⟨rfl, hb1⟩; rw [e0, h0])
      go_ret
      exact ⟨rfl, below_step (w := w) (by repeat' (first | with_reducible exact Below.refl _ _ | with_reducible assumption | with_reducible refine below_dn ?_ _ | with_reducible refine Below.drew ?_ | with_reducible refine below_step ?_ (by assumption) | with_reducible refine Below.setCell ?_ ?_ _ | with_reducible refine Below.alloc ?_ ?_ _ | with_reducible exact Nat.le_refl _ | (simp; done) | (simp; omega) | omega)) hb1⟩
    · have h1' := h1
      unfold geZ at h1'
      cases h2 : leO f
      · have h2' := h2
        unfold leO at h2'
        go_enter Try.func136, Try.ntmps136
        go_wp2_with (go_at_call 100; refine (spec_l01VFinite _ _ _ _).mono ?_; rintro e w1 ⟨rfl, hb1⟩; rw [e0, h0])
        go_ret
        exact ⟨rfl, below_step (w := w) (by repeat' (first | with_reducible exact Below.refl _ _ | with_reducible assumption | with_reducible refine below_dn ?_ _ | with_reducible refine Below.drew ?_ | with_reducible refine below_step ?_ (by assumption) | with_reducible refine Below.setCell ?_ ?_ _ | with_reducible refine Below.alloc ?_ ?_ _ | with_reducible exact Nat.le_refl _ | (simp; done) | (simp; omega) | omega)) hb1⟩
      · have h2' := h2
        unfold leO at h2'
        go_enter Try.func136, Try.ntmps136
        go_wp2_with (first | (go_at_call 100; refine (spec_l01VFinite _ _ _ _).mono ?_; rintro e w1 ⟨rfl, hb1⟩; rw [e0, h0]; have HB1 := Lib.hid hb1; clear hb1) | (go_at_call 91; refine (spec_l03Above _ _).mono ?_; rintro e w2 ⟨rfl, n2, rfl⟩))
        go_ret
        exact ⟨rfl, below_dn (below_step (w := w) (by repeat' (first | with_reducible exact Below.refl _ _ | with_reducible assumption | with_reducible refine below_dn ?_ _ | with_reducible refine Below.drew ?_ | with_reducible refine below_step ?_ (by assumption) | with_reducible refine Below.setCell ?_ ?_ _ | with_reducible refine Below.alloc ?_ ?_ _ | with_reducible exact Nat.le_refl _ | (simp; done) | (simp; omega) | omega)) HB1.out) _⟩
set_option maxHeartbeats 2000000 in
theorem impl_flyOk (q : V3) (f t : Nat) (w : World) : Calls Try.prog 140 #[.agg #[.float .f32 q.x, .float .f32 q.y, .float .f32 q.z], .float .f32 f, .float .f32 t] w (RetV (.bool (airB q f t)) w) := by
  have e0 : finV ⟨q.x, q.y, q.z⟩ = finV q := rfl
  unfold airB
  cases h0 : finV q
  · go_enter Try.func140, Try.ntmps140
    go_wp2_with (go_at_call 102; refine (impl_finiteVector _ _ _ _).mono ?_; rintro e w1 ⟨rfl, hb1⟩; rw [e0, h0])
    go_ret
    exact ⟨rfl, below_step (w := w) (by repeat' (first | with_reducible exact Below.refl _ _ | with_reducible assumption | with_reducible refine below_dn ?_ _ | with_reducible refine Below.drew ?_ | with_reducible refine below_step ?_ (by assumption) | with_reducible refine Below.setCell ?_ ?_ _ | with_reducible refine Below.alloc ?_ ?_ _ | with_reducible exact Nat.le_refl _ | (simp; done) | (simp; omega) | omega)) hb1⟩
  · cases h1 : geZ f
    · have h1' := h1
      unfold geZ at h1'
      go_enter Try.func140, Try.ntmps140
      go_wp2_with (go_at_call 102; refine (impl_finiteVector _ _ _ _).mono ?_; rintro e w1 ⟨rfl, hb1⟩; rw [e0, h0])
      go_ret
      exact ⟨rfl, below_step (w := w) (by repeat' (first | with_reducible exact Below.refl _ _ | with_reducible assumption | with_reducible refine below_dn ?_ _ | with_reducible refine Below.drew ?_ | with_reducible refine below_step ?_ (by assumption) | with_reducible refine Below.setCell ?_ ?_ _ | with_reducible refine Below.alloc ?_ ?_ _ | with_reducible exact Nat.le_refl _ | (simp; done) | (simp; omega) | omega)) hb1⟩
    · have h1' := h1
      unfold geZ at h1'
      cases h2 : leO f
      · have h2' := h2
        unfold leO at h2'
        go_enter Try.func140, Try.ntmps140
        go_wp2_with (go_at_call 102; refine (impl_finiteVector _ _ _ _).mono ?_; rintro e w1 ⟨rfl, hb1⟩; rw [e0, h0])
        go_ret
        exact ⟨rfl, below_step (w := w) (by repeat' (first | with_reducible exact Below.refl _ _ | with_reducible assumption | with_reducible refine below_dn ?_ _ | with_reducible refine Below.drew ?_ | with_reducible refine below_step ?_ (by assumption) | with_reducible refine Below.setCell ?_ ?_ _ | with_reducible refine Below.alloc ?_ ?_ _ | with_reducible exact Nat.le_refl _ | (simp; done) | (simp; omega) | omega)) hb1⟩
      · have h2' := h2
        unfold leO at h2'
        go_enter Try.func140, Try.ntmps140
        go_wp2_with (first | (go_at_call 102; refine (impl_finiteVector _ _ _ _).mono ?_; rintro e w1 ⟨rfl, hb1⟩; rw [e0, h0]; have HB1 := Lib.hid hb1; clear hb1) | (go_at_call 95; refine (impl_lengthOk _ _).mono ?_; rintro e w2 ⟨rfl, n2, rfl⟩))
        go_ret
        exact ⟨rfl, below_dn (below_step (w := w) (by repeat' (first | with_reducible exact Below.refl _ _ | with_reducible assumption | with_reducible refine below_dn ?_ _ | with_reducible refine Below.drew ?_ | with_reducible refine below_step ?_ (by assumption) | with_reducible refine Below.setCell ?_ ?_ _ | with_reducible refine Below.alloc ?_ ?_ _ | with_reducible exact Nat.le_refl _ | (simp; done) | (simp; omega) | omega)) HB1.out) _⟩
set_option maxHeartbeats 4000000 in
set_option maxRecDepth 100000 in
theorem impl_FlyChain1 (g M : Nat) (a0 a1 a2 : Nat) (A1 A2 A3 A4 : Option Addr) (c1 c2 c3 c4 n m : Nat) (D : D4) (q : V3) (f : Nat) (t : Nat) (w : World) (hx : Bx w g 32 (.slice A1 n c1) (.slice A2 n c2) (.slice A3 n c3) (.slice A4 m c4)) (ho : Own w M A1 A2 A3 A4 c1 c2 c3 c4 n n n m D) (hd : Bds M w.heap.size A1 A2 A3 A4 n n n m) (_hz : Zc c1 c2 c3 c4 n n n m) (_hg : M ≤ g) (_hM : M ≤ w.heap.size) (q1 : okC n n n m D = true) (ha0 : a0 < M) (ha1 : a1 < M) (ha2 : a2 < M) (hx0 : Tx w a0 38 (.float .f32 q.x) (.float .f32 q.y) (.float .f32 q.z)) (hx1 : Ox w a1 36 (.float .f32 f)) (hx2 : Ox w a2 36 (.float .f32 t)) :
    Calls Try.prog 138 #[.pointer (some ⟨g, 0, none⟩), .pointer (some ⟨a0, 0, none⟩), .pointer (some ⟨a1, 0, none⟩), .pointer (some ⟨a2, 0, none⟩)] w (RetDo g M (airB q f t) (n) (n) (n) (m) (flyD D q f t n) w) := by
  have HX := Lib.hid hx
  have HO := Lib.hid ho
  have _HD := Lib.hid hd
  obtain ⟨s1, _, _, s4⟩ := okC_sz q1
  have V0 := Lib.hid hx0
  have V1 := Lib.hid hx1
  have V2 := Lib.hid hx2
  obtain ⟨a00, a01, a02, af0⟩ := hx0.facts
  have la0 := hx0.lt
  have a10 := hx1.c
  have a20 := hx2.c
  clear hd hx0 hx1 hx2 q1 hx ho
  go_enter Try.func138, Try.ntmps138
  go_wp2_with fail
  refine (impl_fly g M A1 A2 A3 A4 c1 c2 c3 c4 n m D q f t _ HX.out HO.out _hM (by omega)).mono ?_
  rintro e w1 ⟨rfl, hb, D1, hs, ho, hx⟩
  have BB := Lib.hid hb
  have SS := Lib.hid hs
  have XX := Lib.hid hx
  have OO := Lib.hid ho
  clear a00 a01 a02 af0 la0 a10 a20
  obtain ⟨a00, a01, a02, af0⟩ := (V0.out.below hb ha0).facts
  have la0 := (V0.out.below hb ha0).lt
  have a10 := (V1.out.below hb ha1).c
  have a20 := (V2.out.below hb ha2).c
  clear hb hs ho hx
  go_wp2_with fail
  refine (impl_flyOk q f t _).mono ?_
  rintro e w2 ⟨rfl, hb2⟩
  have B2 := Lib.hid hb2
  clear hb2 a00 a01 a02 af0 la0 a10 a20
  go_wp2_with fail
  go_ret
  exact ⟨rfl, BB.out.trans (B2.out.mono (Nat.le_trans _hM BB.out.size)), fun _ => ⟨A1, A2, A3, A4, c1, c2, c3, c4, D1, SS.out, XX.out.go B2.out, OO.out.go B2.out, (OO.out.go B2.out).bds⟩⟩
theorem run_FlyChain1 (args : Array Value) (u : World) : (callFunc 138 args).run Try.prog u = .ok (.enter 138 args) u := call_enter Try.func138 (by kernel_rfl) (by kernel_rfl) _ _
theorem impl_FlyChain (A1 A2 A3 A4 : Option Addr) (c1 c2 c3 c4 n1 n2 n3 n4 B : Nat) (D : D4) (q : V3) (f : Nat) (t : Nat) (w : World) (h : Own w B A1 A2 A3 A4 c1 c2 c3 c4 n1 n2 n3 n4 D) :
    Calls Try.prog 67 #[.agg #[.slice A1 n1 c1, .slice A2 n2 c2, .slice A3 n3 c3, .slice A4 n4 c4], .agg #[.float .f32 q.x, .float .f32 q.y, .float .f32 q.z], .float .f32 f, .float .f32 t] w (RetM (okC n1 n2 n3 n4 D && (airB q f t && okC n1 n2 n3 n4 (flyD D q f t n1))) n1 n2 n3 n4 (flyD D q f t n1) w) := by
  have H := Lib.hid h
  clear h
  have z1 : (w.alloc (.cells #[.slice A1 n1 c1, .slice A2 n2 c2, .slice A3 n3 c3, .slice A4 n4 c4] 32)).heap.size = w.heap.size + 1 := by simp
  have X0 : Tx (((((w.alloc (.cells #[.slice A1 n1 c1, .slice A2 n2 c2, .slice A3 n3 c3, .slice A4 n4 c4] 32)).alloc (.cells #[.float .f32 q.x, .float .f32 q.y, .float .f32 q.z] 38)).alloc (.cells #[.float .f32 f] 36)).alloc (.cells #[.float .f32 t] 36)).alloc (.cells #[sn, sn, sn, sn] 32)) (w.heap.size + 1) 38 (.float .f32 q.x) (.float .f32 q.y) (.float .f32 q.z) := by rw [← z1]; exact (((Tx.new_ _ _ _ _ _).alloc _).alloc _).alloc _
  have z2 : ((w.alloc (.cells #[.slice A1 n1 c1, .slice A2 n2 c2, .slice A3 n3 c3, .slice A4 n4 c4] 32)).alloc (.cells #[.float .f32 q.x, .float .f32 q.y, .float .f32 q.z] 38)).heap.size = w.heap.size + 1 + 1 := by simp
  have X1 : Ox (((((w.alloc (.cells #[.slice A1 n1 c1, .slice A2 n2 c2, .slice A3 n3 c3, .slice A4 n4 c4] 32)).alloc (.cells #[.float .f32 q.x, .float .f32 q.y, .float .f32 q.z] 38)).alloc (.cells #[.float .f32 f] 36)).alloc (.cells #[.float .f32 t] 36)).alloc (.cells #[sn, sn, sn, sn] 32)) (w.heap.size + 1 + 1) 36 (.float .f32 f) := by rw [← z2]; exact ((Ox.new_ _ _ _).alloc _).alloc _
  have z3 : (((w.alloc (.cells #[.slice A1 n1 c1, .slice A2 n2 c2, .slice A3 n3 c3, .slice A4 n4 c4] 32)).alloc (.cells #[.float .f32 q.x, .float .f32 q.y, .float .f32 q.z] 38)).alloc (.cells #[.float .f32 f] 36)).heap.size = w.heap.size + 1 + 1 + 1 := by simp
  have X2 : Ox (((((w.alloc (.cells #[.slice A1 n1 c1, .slice A2 n2 c2, .slice A3 n3 c3, .slice A4 n4 c4] 32)).alloc (.cells #[.float .f32 q.x, .float .f32 q.y, .float .f32 q.z] 38)).alloc (.cells #[.float .f32 f] 36)).alloc (.cells #[.float .f32 t] 36)).alloc (.cells #[sn, sn, sn, sn] 32)) (w.heap.size + 1 + 1 + 1) 36 (.float .f32 t) := by rw [← z3]; exact (Ox.new_ _ _ _).alloc _
  have zn : ((((w.alloc (.cells #[.slice A1 n1 c1, .slice A2 n2 c2, .slice A3 n3 c3, .slice A4 n4 c4] 32)).alloc (.cells #[.float .f32 q.x, .float .f32 q.y, .float .f32 q.z] 38)).alloc (.cells #[.float .f32 f] 36)).alloc (.cells #[.float .f32 t] 36)).heap.size = w.heap.size + 1 + 1 + 1 + 1 := by simp
  go_enter Try.func67, Try.ntmps67
  go_wp2_with fail
  refine (impl_changedChain 138 #[.pointer (some ⟨w.heap.size + 1, 0, none⟩), .pointer (some ⟨w.heap.size + 1 + 1, 0, none⟩), .pointer (some ⟨w.heap.size + 1 + 1 + 1, 0, none⟩)] (airB q f t) (n1) (n2) (n3) (n4) (flyD D q f t n1) A1 A2 A3 A4 c1 c2 c3 c4 n1 n2 n3 n4 B D _ (H.out.go ?hq) run_FlyChain1 ?hdo).mono ?_
  case hq => exact (by repeat' (first | with_reducible exact Below.refl _ _ | with_reducible assumption | with_reducible refine below_dn ?_ _ | with_reducible refine Below.drew ?_ | with_reducible refine below_step ?_ (by assumption) | with_reducible refine Below.setCell ?_ ?_ _ | with_reducible refine Below.alloc ?_ ?_ _ | with_reducible exact Nat.le_refl _ | (simp; done) | (simp; omega) | omega))
  case hdo =>
    intro q1 g M E1 E2 E3 E4 d1 d2 d3 d4 u hx ho hd hz hg hM0 _ hb
    have Y0 := X0.go hb
    have Y1 := X1.go hb
    have Y2 := X2.go hb
    obtain ⟨s1, rfl, rfl, s4⟩ := okC_sz q1
    exact impl_FlyChain1 g M _ _ _ E1 E2 E3 E4 d1 d2 d3 d4 n3 n4 D q f t u hx ho hd hz hg (by omega) q1 (by simp at hM0; omega) (by simp at hM0; omega) (by simp at hM0; omega) Y0 Y1 Y2
  rintro e w1 ⟨hr, hb1⟩
  have V1 := Lib.hid ((Bx.new_ ((((w.alloc (.cells #[.slice A1 n1 c1, .slice A2 n2 c2, .slice A3 n3 c3, .slice A4 n4 c4] 32)).alloc (.cells #[.float .f32 q.x, .float .f32 q.y, .float .f32 q.z] 38)).alloc (.cells #[.float .f32 f] 36)).alloc (.cells #[.float .f32 t] 36)) 32 sn sn sn sn).go hb1)
  have B1 := Lib.hid (show Below w.heap.size w w1 from below_step (w := w) ((by repeat' (first | with_reducible exact Below.refl _ _ | with_reducible assumption | with_reducible refine below_dn ?_ _ | with_reducible refine Below.drew ?_ | with_reducible refine below_step ?_ (by assumption) | with_reducible refine Below.setCell ?_ ?_ _ | with_reducible refine Below.alloc ?_ ?_ _ | with_reducible exact Nat.le_refl _ | (simp; done) | (simp; omega) | omega))) hb1)
  rw [zn] at V1
  have e2 : (((((w.alloc (.cells #[.slice A1 n1 c1, .slice A2 n2 c2, .slice A3 n3 c3, .slice A4 n4 c4] 32)).alloc (.cells #[.float .f32 q.x, .float .f32 q.y, .float .f32 q.z] 38)).alloc (.cells #[.float .f32 f] 36)).alloc (.cells #[.float .f32 t] 36)).alloc (.cells #[sn, sn, sn, sn] 32)).heap.size = w.heap.size + 5 := by simp
  rw [e2] at hr
  clear hb1 zn e2 z1 X0 z2 X1 z3 X2
  obtain ⟨v0, v1, v2, v3, vf⟩ := V1.out.facts
  have lv := V1.out.lt
  cases hbb : (okC n1 n2 n3 n4 D && (airB q f t && okC n1 n2 n3 n4 (flyD D q f t n1)))
  · rw [hbb] at hr
    obtain rfl := hr
    go_wp2_with fail
    obtain ⟨r0, r1, r2, r3, rf⟩ := (V1.out.setAll sn sn sn sn).facts
    refine bodyPost_ret (v := .tuple #[.agg #[sn, sn, sn, sn], .bool false]) (by simp [results, Try.results67, go_sem, r0, r1, r2, r3]) rfl ?_
    rw [hbb]
    exact ⟨rfl, Bx.bel B1.out (by omega) _ _ _ _⟩
  · rw [hbb] at hr
    obtain ⟨F1, F2, F3, F4, x1, x2, x3, x4, D', rfl, hs, ho, hd⟩ := hr
    have HS := Lib.hid hs
    have HO := Lib.hid ho
    have HD := Lib.hid hd
    clear hs ho hd
    have VF := Lib.hid (V1.out.setAll (.slice F1 (n1) x1) (.slice F2 (n2) x2) (.slice F3 (n3) x3) (.slice F4 (n4) x4))
    have WF := Lib.hid (show Wr (fun k => k = w.heap.size + 1 + 1 + 1 + 1) w1 ((((w1.setCell ⟨w.heap.size + 1 + 1 + 1 + 1, 0, none⟩ (.slice F1 (n1) x1)).setCell ⟨w.heap.size + 1 + 1 + 1 + 1, 1, none⟩ (.slice F2 (n2) x2)).setCell ⟨w.heap.size + 1 + 1 + 1 + 1, 2, none⟩ (.slice F3 (n3) x3)).setCell ⟨w.heap.size + 1 + 1 + 1 + 1, 3, none⟩ (.slice F4 (n4) x4)) from by
      refine Wr.setCell (Wr.setCell (Wr.setCell (Wr.setCell (Wr.refl _ _) ?_ _) ?_ _) ?_ _) ?_ _ <;> rfl)
    go_wp2_with fail
    obtain ⟨r0, r1, r2, r3, rf⟩ := VF.out.facts
    refine bodyPost_ret (v := .tuple #[.agg #[.slice F1 (n1) x1, .slice F2 (n2) x2, .slice F3 (n3) x3, .slice F4 (n4) x4], .bool true]) (by simp [results, Try.results67, go_sem, r0, r1, r2, r3]) rfl ?_
    rw [hbb]
    exact ⟨⟨F1, F2, F3, F4, x1, x2, x3, x4, D', rfl, HS.out, (HO.out.off V1.out WF.out).mono (by omega), HD.out.mono (by omega) WF.out.size⟩, Bx.bel B1.out (by omega) _ _ _ _⟩
set_option maxHeartbeats 4000000 in
set_option maxRecDepth 100000 in
theorem spec_FlyChain (A1 A2 A3 A4 : Option Addr) (c1 c2 c3 c4 n1 n2 n3 n4 B : Nat) (D : D4) (q : V3) (f : Nat) (t : Nat) (w : World) (h : Own w B A1 A2 A3 A4 c1 c2 c3 c4 n1 n2 n3 n4 D) :
    Calls Try.prog 66 #[.agg #[.slice A1 n1 c1, .slice A2 n2 c2, .slice A3 n3 c3, .slice A4 n4 c4], .agg #[.float .f32 q.x, .float .f32 q.y, .float .f32 q.z], .float .f32 f, .float .f32 t] w (RetM (okC n1 n2 n3 n4 D && (airB q f t && okC n1 n2 n3 n4 (flyD D q f t n1))) n1 n2 n3 n4 (flyD D q f t n1) w) := by
  have H := Lib.hid h
  clear h
  cases q1 : okC n1 n2 n3 n4 D
  · go_enter Try.func66, Try.ntmps66
    go_wp2_with fail
    refine (spec_l03Is w.heap.size A1 A2 A3 A4 c1 c2 c3 c4 n1 n2 n3 n4 B D _ (((Bx.new_ _ _ _ _ _ _).alloc _).alloc _) (H.out.go (by repeat' (first | with_reducible exact Below.refl _ _ | with_reducible assumption | with_reducible refine below_dn ?_ _ | with_reducible refine Below.drew ?_ | with_reducible refine below_step ?_ (by assumption) | with_reducible refine Below.setCell ?_ ?_ _ | with_reducible refine Below.alloc ?_ ?_ _ | with_reducible exact Nat.le_refl _ | (simp; done) | (simp; omega) | omega)))).mono ?_
    rintro e w1 ⟨rfl, hb1⟩
    have X0 := Lib.hid (((Tx.new_ (w.alloc (.cells #[.slice A1 n1 c1, .slice A2 n2 c2, .slice A3 n3 c3, .slice A4 n4 c4] 32)) 38 (.float .f32 q.x) (.float .f32 q.y) (.float .f32 q.z)).alloc _).go hb1)
    have z0 : (w.alloc (.cells #[.slice A1 n1 c1, .slice A2 n2 c2, .slice A3 n3 c3, .slice A4 n4 c4] 32)).heap.size = w.heap.size + 1 := by simp
    rw [z0] at X0
    clear z0
    have V1 := Lib.hid ((Bx.new_ ((w.alloc (.cells #[.slice A1 n1 c1, .slice A2 n2 c2, .slice A3 n3 c3, .slice A4 n4 c4] 32)).alloc (.cells #[.float .f32 q.x, .float .f32 q.y, .float .f32 q.z] 38)) 32 sn sn sn sn).go hb1)
    have B1 := Lib.hid (show Below w.heap.size w w1 from below_step (w := w) ((by repeat' (first | with_reducible exact Below.refl _ _ | with_reducible assumption | with_reducible refine below_dn ?_ _ | with_reducible refine Below.drew ?_ | with_reducible refine below_step ?_ (by assumption) | with_reducible refine Below.setCell ?_ ?_ _ | with_reducible refine Below.alloc ?_ ?_ _ | with_reducible exact Nat.le_refl _ | (simp; done) | (simp; omega) | omega))) hb1)
    have e1 : ((w.alloc (.cells #[.slice A1 n1 c1, .slice A2 n2 c2, .slice A3 n3 c3, .slice A4 n4 c4] 32)).alloc (.cells #[.float .f32 q.x, .float .f32 q.y, .float .f32 q.z] 38)).heap.size = w.heap.size + 1 + 1 := by simp
    rw [e1] at V1
    clear hb1 e1
    obtain ⟨v0, v1, v2, v3, vf⟩ := V1.out.facts
    have lv := V1.out.lt
    obtain ⟨u00, u01, u02, u0f⟩ := X0.out.facts
    have lu0 := X0.out.lt
    rw [q1]
    go_wp2_with fail
    obtain ⟨r0, r1, r2, r3, rf⟩ := (V1.out.setAll sn sn sn sn).facts
    refine bodyPost_ret (v := .tuple #[.agg #[sn, sn, sn, sn], .bool false]) (by simp [results, Try.results66, go_sem, r0, r1, r2, r3]) rfl ?_
    exact ⟨rfl, Bx.bel B1.out (by omega) _ _ _ _⟩
  · obtain ⟨s1, rfl, rfl, s4⟩ := okC_sz q1
    cases q2 : airB q f t
    · go_enter Try.func66, Try.ntmps66
      go_wp2_with fail
      refine (spec_l03Is w.heap.size A1 A2 A3 A4 c1 c2 c3 c4 n3 n3 n3 n4 B D _ (((Bx.new_ _ _ _ _ _ _).alloc _).alloc _) (H.out.go (by repeat' (first | with_reducible exact Below.refl _ _ | with_reducible assumption | with_reducible refine below_dn ?_ _ | with_reducible refine Below.drew ?_ | with_reducible refine below_step ?_ (by assumption) | with_reducible refine Below.setCell ?_ ?_ _ | with_reducible refine Below.alloc ?_ ?_ _ | with_reducible exact Nat.le_refl _ | (simp; done) | (simp; omega) | omega)))).mono ?_
      rintro e w1 ⟨rfl, hb1⟩
      have X0 := Lib.hid (((Tx.new_ (w.alloc (.cells #[.slice A1 n3 c1, .slice A2 n3 c2, .slice A3 n3 c3, .slice A4 n4 c4] 32)) 38 (.float .f32 q.x) (.float .f32 q.y) (.float .f32 q.z)).alloc _).go hb1)
      have z0 : (w.alloc (.cells #[.slice A1 n3 c1, .slice A2 n3 c2, .slice A3 n3 c3, .slice A4 n4 c4] 32)).heap.size = w.heap.size + 1 := by simp
      rw [z0] at X0
      clear z0
      have V1 := Lib.hid ((Bx.new_ ((w.alloc (.cells #[.slice A1 n3 c1, .slice A2 n3 c2, .slice A3 n3 c3, .slice A4 n4 c4] 32)).alloc (.cells #[.float .f32 q.x, .float .f32 q.y, .float .f32 q.z] 38)) 32 sn sn sn sn).go hb1)
      have B1 := Lib.hid (show Below w.heap.size w w1 from below_step (w := w) ((by repeat' (first | with_reducible exact Below.refl _ _ | with_reducible assumption | with_reducible refine below_dn ?_ _ | with_reducible refine Below.drew ?_ | with_reducible refine below_step ?_ (by assumption) | with_reducible refine Below.setCell ?_ ?_ _ | with_reducible refine Below.alloc ?_ ?_ _ | with_reducible exact Nat.le_refl _ | (simp; done) | (simp; omega) | omega))) hb1)
      have e1 : ((w.alloc (.cells #[.slice A1 n3 c1, .slice A2 n3 c2, .slice A3 n3 c3, .slice A4 n4 c4] 32)).alloc (.cells #[.float .f32 q.x, .float .f32 q.y, .float .f32 q.z] 38)).heap.size = w.heap.size + 1 + 1 := by simp
      rw [e1] at V1
      clear hb1 e1
      obtain ⟨v0, v1, v2, v3, vf⟩ := V1.out.facts
      have lv := V1.out.lt
      obtain ⟨u00, u01, u02, u0f⟩ := X0.out.facts
      have lu0 := X0.out.lt
      rw [q1]
      go_wp2_with (first | (go_at_call 136; refine (spec_l03Air q f t _).mono ?_; rintro e wa ⟨rfl, hba⟩; rw [q2]; have WA := Lib.hid hba; clear hba v0 v1 v2 v3 vf lv u00 u01 u02 u0f lu0; obtain ⟨v0, v1, v2, v3, vf⟩ := (V1.out.go WA.out).facts; have lv := (V1.out.go WA.out).lt))
      have V1 := Lib.hid (V1.out.go WA.out)
      have B1 := Lib.hid (below_step B1.out WA.out)
      obtain ⟨r0, r1, r2, r3, rf⟩ := (V1.out.setAll sn sn sn sn).facts
      refine bodyPost_ret (v := .tuple #[.agg #[sn, sn, sn, sn], .bool false]) (by simp [results, Try.results66, go_sem, r0, r1, r2, r3]) rfl ?_
      exact ⟨rfl, Bx.bel B1.out (by omega) _ _ _ _⟩
    · go_enter Try.func66, Try.ntmps66
      go_wp2_with fail
      refine (spec_l03Is w.heap.size A1 A2 A3 A4 c1 c2 c3 c4 n3 n3 n3 n4 B D _ (((Bx.new_ _ _ _ _ _ _).alloc _).alloc _) (H.out.go (by repeat' (first | with_reducible exact Below.refl _ _ | with_reducible assumption | with_reducible refine below_dn ?_ _ | with_reducible refine Below.drew ?_ | with_reducible refine below_step ?_ (by assumption) | with_reducible refine Below.setCell ?_ ?_ _ | with_reducible refine Below.alloc ?_ ?_ _ | with_reducible exact Nat.le_refl _ | (simp; done) | (simp; omega) | omega)))).mono ?_
      rintro e w1 ⟨rfl, hb1⟩
      have P1 := Lib.hid ((((Bx.new_ w 32 (.slice A1 n3 c1) (.slice A2 n3 c2) (.slice A3 n3 c3) (.slice A4 n4 c4)).alloc _).alloc _).go hb1)
      have X0 := Lib.hid (((Tx.new_ (w.alloc (.cells #[.slice A1 n3 c1, .slice A2 n3 c2, .slice A3 n3 c3, .slice A4 n4 c4] 32)) 38 (.float .f32 q.x) (.float .f32 q.y) (.float .f32 q.z)).alloc _).go hb1)
      have z0 : (w.alloc (.cells #[.slice A1 n3 c1, .slice A2 n3 c2, .slice A3 n3 c3, .slice A4 n4 c4] 32)).heap.size = w.heap.size + 1 := by simp
      rw [z0] at X0
      clear z0
      have V1 := Lib.hid ((Bx.new_ ((w.alloc (.cells #[.slice A1 n3 c1, .slice A2 n3 c2, .slice A3 n3 c3, .slice A4 n4 c4] 32)).alloc (.cells #[.float .f32 q.x, .float .f32 q.y, .float .f32 q.z] 38)) 32 sn sn sn sn).go hb1)
      have B1 := Lib.hid (show Below w.heap.size w w1 from below_step (w := w) ((by repeat' (first | with_reducible exact Below.refl _ _ | with_reducible assumption | with_reducible refine below_dn ?_ _ | with_reducible refine Below.drew ?_ | with_reducible refine below_step ?_ (by assumption) | with_reducible refine Below.setCell ?_ ?_ _ | with_reducible refine Below.alloc ?_ ?_ _ | with_reducible exact Nat.le_refl _ | (simp; done) | (simp; omega) | omega))) hb1)
      have e1 : ((w.alloc (.cells #[.slice A1 n3 c1, .slice A2 n3 c2, .slice A3 n3 c3, .slice A4 n4 c4] 32)).alloc (.cells #[.float .f32 q.x, .float .f32 q.y, .float .f32 q.z] 38)).heap.size = w.heap.size + 1 + 1 := by simp
      rw [e1] at V1
      clear hb1 e1
      obtain ⟨u00, u01, u02, u0f⟩ := X0.out.facts
      have lu0 := X0.out.lt
      rw [q1]
      go_wp2_with (first | (go_at_call 136; refine (spec_l03Air q f t _).mono ?_; rintro e wa ⟨rfl, hba⟩; rw [q2]; have WA := Lib.hid hba; clear hba))
      have V1 := Lib.hid (V1.out.go WA.out)
      have B1 := Lib.hid (below_step B1.out WA.out)
      have P1 := Lib.hid (P1.out.go WA.out)
      have X0 := Lib.hid (X0.out.go WA.out)
      clear WA
      obtain ⟨w1, rfl⟩ : ∃ z : World, z = wa := ⟨wa, rfl⟩
      refine (spec_l03Own w.heap.size A1 A2 A3 A4 c1 c2 c3 c4 n3 n3 n3 n4 D (by omega) (by omega) (by omega) (by omega) _ P1.out ((H.out.go B1.out).s1.in_) ((H.out.go B1.out).s2.in_) ((H.out.go B1.out).s3.in_) ((H.out.go B1.out).s4.in_)).mono ?_
      rintro e w2 ⟨E1, E2, E3, E4, d1, d2, d3, d4, rfl, ho2, hd2, hz2, hb2⟩
      have P2 := Lib.hid (P1.out.go hb2)
      have V2 := Lib.hid (V1.out.go hb2)
      have B2 := Lib.hid (below_step B1.out hb2)
      have O2 := Lib.hid ho2
      have D2 := Lib.hid hd2
      have HZ2 := Lib.hid hz2
      clear hz2
      have y1 := V1.out.lt
      have y2 := hb2.size
      have y0 := B1.out.size
      clear u00 u01 u02 u0f lu0
      have Z0 := Lib.hid (X0.out.go hb2)
      clear hb2 ho2 hd2 P1 V1 X0
      obtain ⟨b0, b1, b2, bf⟩ := Z0.out.facts
      have lz := Z0.out.lt
      go_wp2_with fail
      refine (spec_fly w2.heap.size w1.heap.size E1 E2 E3 E4 d1 d2 d3 d4 n3 n4 D q f t _ (Bx.new_ _ _ _ _ _ _) (O2.out.go (by repeat' (first | with_reducible exact Below.refl _ _ | with_reducible assumption | with_reducible refine below_dn ?_ _ | with_reducible refine Below.drew ?_ | with_reducible refine below_step ?_ (by assumption) | with_reducible refine Below.setCell ?_ ?_ _ | with_reducible refine Below.alloc ?_ ?_ _ | with_reducible exact Nat.le_refl _ | (simp; done) | (simp; omega) | omega))) (by simp; omega) (by omega)).mono ?_
      rintro e wm ⟨rfl, hb, D1, hs, ho, hx⟩
      have XM := Lib.hid hx
      have OM := Lib.hid ho
      have VM := Lib.hid ((V2.out.alloc _).below hb (by omega))
      have BM := Lib.hid ((Below.alloc B2.out (by omega) _).trans (hb.mono y0))
      have SM := Lib.hid hs
      have DM := Lib.hid ho.bds
      clear hb hx ho hs b0 b1 b2 bf lz V2 O2 D2 B2 P2 Z0
      obtain ⟨t0, t1, t2, t3, tf⟩ := XM.out.facts
      have lt := XM.out.lt
      go_wp2_with fail
      refine (spec_l03Give E1 E2 E3 E4 d1 d2 d3 d4 (n3) (n3) (n3) (n4) _ (D1) _ OM.out).mono ?_
      rintro e w4 ⟨rfl, hb4⟩
      have V4 := Lib.hid (VM.out.go hb4)
      have B4 := Lib.hid (below_step BM.out hb4)
      have O4 := Lib.hid (OM.out.go hb4)
      have D4_ := Lib.hid (DM.out.mono (Nat.le_refl _) hb4.size)
      clear hb4 t0 t1 t2 t3 tf lt VM BM OM DM
      obtain ⟨v0, v1, v2, v3, vf⟩ := V4.out.facts
      have lv := V4.out.lt
      rw [okC_sim SM.out]
      cases q3 : okC (n3) (n3) (n3) (n4) (flyD D q f t n3)
      · unfold giveV
        go_wp2_with fail
        obtain ⟨r0, r1, r2, r3, rf⟩ := (V4.out.setAll sn sn sn sn).facts
        refine bodyPost_ret (v := .tuple #[.agg #[sn, sn, sn, sn], .bool false]) (by simp [results, Try.results66, go_sem, r0, r1, r2, r3]) rfl ?_
        rw [q3]
        exact ⟨rfl, Bx.bel B4.out (by omega) _ _ _ _⟩
      · unfold giveV
        have WF := Lib.hid (show Wr (fun k => k = w.heap.size + 1 + 1) w4 ((((w4.setCell ⟨w.heap.size + 1 + 1, 0, none⟩ (.slice E1 (n3) d1)).setCell ⟨w.heap.size + 1 + 1, 1, none⟩ (.slice E2 (n3) d2)).setCell ⟨w.heap.size + 1 + 1, 2, none⟩ (.slice E3 (n3) d3)).setCell ⟨w.heap.size + 1 + 1, 3, none⟩ (.slice E4 (n4) d4)) from by
          refine Wr.setCell (Wr.setCell (Wr.setCell (Wr.setCell (Wr.refl _ _) ?_ _) ?_ _) ?_ _) ?_ _ <;> rfl)
        go_wp2_with fail
        obtain ⟨r0, r1, r2, r3, rf⟩ := (V4.out.setAll (.slice E1 (n3) d1) (.slice E2 (n3) d2) (.slice E3 (n3) d3) (.slice E4 (n4) d4)).facts
        refine bodyPost_ret (v := .tuple #[.agg #[.slice E1 (n3) d1, .slice E2 (n3) d2, .slice E3 (n3) d3, .slice E4 (n4) d4], .bool true]) (by simp [results, Try.results66, go_sem, r0, r1, r2, r3]) rfl ?_
        rw [q3]
        exact ⟨⟨E1, E2, E3, E4, d1, d2, d3, d4, D1, rfl, SM.out, (O4.out.off V4.out WF.out).mono y0, D4_.out.mono y0 WF.out.size⟩, Bx.bel B4.out (by omega) _ _ _ _⟩
end Go.Proofs.Ytlhgaihfghobmaa
