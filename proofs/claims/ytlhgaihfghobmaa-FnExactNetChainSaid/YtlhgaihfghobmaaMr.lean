/- AddRod: contracts. -/
import Derived.Test.YtlhgaihfghobmaaMb
import Derived.Test.YtlhgaihfghobmaaRl
import Derived.Test.YtlhgaihfghobmaaDg
import Derived.BigRegion
namespace Go.Proofs.Ytlhgaihfghobmaa
open Go.ChangeShapes Go.WideShapes Go.ChangeAt Go.RowKit Go.Deep

def addR (D : D4) (k : Nat) (r : Rd) : D4 := ⟨D.P, D.B, D.W, upd D.R k r⟩
theorem Own.app4 {w w' : World} {M : Nat} {A1 A2 A3 A4 A5 : Option Addr} {c1 c2 c3 c4 c5 n1 n2 n3 n4 : Nat} {D : D4} {r : Rd} (h : Own w M A1 A2 A3 A4 c1 c2 c3 c4 n1 n2 n3 n4 D) (hw : Wr (fun k => 0 < n4 ∧ A4 = some ⟨k, 0, none⟩) w w')
    (hs : Sl w' M 91 3 A5 (n4 + 1) c5 (rc (upd D.R n4 r))) : Own w' M A1 A2 A3 A5 c1 c2 c3 c5 n1 n2 n3 (n4 + 1) (addR D n4 r) :=
  ⟨h.s1.wr hw (fun g e h0 x => h.s1.ne_ h.s4 (by decide) e x.2 h0 x.1), h.s2.wr hw (fun g e h0 x => h.s2.ne_ h.s4 (by decide) e x.2 h0 x.1), h.s3.wr hw (fun g e h0 x => h.s3.ne_ h.s4 (by decide) e x.2 h0 x.1), hs, h.ne⟩
set_option maxHeartbeats 4000000 in
set_option maxRecDepth 100000 in
theorem impl_AddRod1 (g M : Nat) (a0 a1 a2 : Nat) (A1 A2 A3 A4 : Option Addr) (c1 c2 c3 c4 n m : Nat) (D : D4) (ra : Int) (rb : Int) (rl : Nat) (w : World) (hx : Bx w g 32 (.slice A1 n c1) (.slice A2 n c2) (.slice A3 n c3) (.slice A4 m c4)) (ho : Own w M A1 A2 A3 A4 c1 c2 c3 c4 n n n m D) (hd : Bds M w.heap.size A1 A2 A3 A4 n n n m) (_hz : Zc c1 c2 c3 c4 n n n m) (_hg : M ≤ g) (_hM : M ≤ w.heap.size) (q1 : okC n n n m D = true) (hx0 : Ox w a0 2 (.int .i64 ra)) (hx1 : Ox w a1 2 (.int .i64 rb)) (hx2 : Ox w a2 36 (.float .f32 rl)) :
    Calls Try.prog 130 #[.pointer (some ⟨g, 0, none⟩), .pointer (some ⟨a0, 0, none⟩), .pointer (some ⟨a1, 0, none⟩), .pointer (some ⟨a2, 0, none⟩)] w (RetDo g M (true) (n) (n) (n) ((m + 1)) (addR D m ⟨ra, rb, rl⟩) w) := by
  have HX := Lib.hid hx
  have HO := Lib.hid ho
  have HD := Lib.hid hd
  have HZ := Lib.hid _hz
  have Y0 := Lib.hid hx0
  have Y1 := Lib.hid hx1
  have Y2 := Lib.hid hx2
  obtain ⟨s1, _, _, s4⟩ := okC_sz q1
  have HG := Lib.hid (fun (h : 0 < m ∧ A4 = some ⟨g, 0, none⟩) => by
    obtain ⟨k, e, _, _, _, hr⟩ := ho.s4 h.1
    rw [h.2] at e
    cases e
    exact Rw.ne_ hx hr (by decide) rfl)
  have HS := Lib.hid (fun (k : Nat) (h : 0 < m ∧ A4 = some ⟨k, 0, none⟩) => (hd.b4 k h.2 h.1).2)
  have hw0 : Below w.heap.size w w.drew := (Below.refl _ _).drew
  clear _hz hd hx0 hx1 hx2 q1 hx ho
  go_enter Try.func130, Try.ntmps130
  go_upto_region 1 with fail
  refine region_inv3 [fun v _ => isE (.pointer (some ⟨g, 0, none⟩)) v, fun v _ => isE (.pointer (some ⟨g, 0, none⟩)) v, fun v _ => isE (.pointer (some ⟨g, 0, none⟩)) v, fun v _ => isE (.pointer (some ⟨g, 3, none⟩)) v, fun v _ => isE (.slice A4 m c4) v, fun v _ => isE (.int .i64 ra) v, fun v _ => isE (.int .i64 rb) v, fun v _ => isE (.float .f32 rl) v, fun v _ => isE (.agg #[.int .i64 ra, .int .i64 rb, .float .f32 rl]) v, isN3 w.heap.size 91 (.int .i64 ra) (.int .i64 rb) (.float .f32 rl), isLoc w.heap.size M A4 m 91 3 (m + 1) (rc (upd D.R m ⟨ra, rb, rl⟩)), fun v _ => isE (.pointer (some ⟨g, 0, none⟩)) v, fun v _ => isE (.pointer (some ⟨g, 3, none⟩)) v, fun _ _ => True] (fun l _ W => Js [(10, fun W => Wr (fun k => 0 < m ∧ A4 = some ⟨k, 0, none⟩) w W), (13, fun W => ∃ W5 A5 c5, Wr (fun k => 0 < m ∧ A4 = some ⟨k, 0, none⟩) w W5 ∧ Sl W5 M 91 3 A5 (m + 1) c5 (rc (upd D.R m ⟨ra, rb, rl⟩)) ∧ (∀ k, A5 = some ⟨k, 0, none⟩ → (0 < m ∧ A4 = some ⟨k, 0, none⟩) ∨ w.heap.size ≤ k) ∧ W = W5.setCell ⟨g, 3, none⟩ (.slice A5 (m + 1) c5))] (fun W => Below w.heap.size w W) l W) (by kernel_rfl) (by kernel_rfl) (by kernel_rfl) (Js.first hw0) ⟨?r0, ?r1, ?r2, ?r3, ?r4, ?r5, ?r6, ?r7, ?r8, ?r9, ?r10, ?r11, ?r12, ?r13, trivial⟩ ?hend
  case r0 =>
    intro listed a u h hu hd K hK
    have e0 : a.tmps.getD 0 undef = .pointer (some ⟨g, 0, none⟩) := h.base (by kernel_rfl)
    have f0 : a.tmps[0]? = some (.pointer (some ⟨g, 0, none⟩)) := h.old (by kernel_rfl)
    rw [if_pos (by rfl)]
    go_simp
    exact hK _ _ (fun _ _ _ h => h) (isE.mk rfl) (Js.neutral h.world rfl)
  case r1 =>
    intro listed a u h hu hd K hK
    have e0 : a.tmps.getD 0 undef = .pointer (some ⟨g, 0, none⟩) := h.base (by kernel_rfl)
    have f0 : a.tmps[0]? = some (.pointer (some ⟨g, 0, none⟩)) := h.old (by kernel_rfl)
    rw [if_pos (by rfl)]
    go_simp
    exact hK _ _ (fun _ _ _ h => h) (isE.mk rfl) (Js.neutral h.world rfl)
  case r2 =>
    intro listed a u h hu hd K hK
    obtain ⟨v7, ev7, em7, F7⟩ := h.slot (i := 1) rfl rfl (hd _ (Array.mem_of_getElem? (i := 0) rfl) rfl)
    have q7 := isE.out F7
    have e7 := ev7.trans q7
    have f7 := em7.trans (congrArg some q7)
    clear ev7 em7 F7
    rw [if_pos (by rfl)]
    go_simp
    exact hK _ _ (fun _ _ _ h => h) (isE.mk rfl) (Js.neutral h.world rfl)
  case r3 =>
    intro listed a u h hu hd K hK
    obtain ⟨v8, ev8, em8, F8⟩ := h.slot (i := 2) rfl rfl (hd _ (Array.mem_of_getElem? (i := 0) rfl) rfl)
    have q8 := isE.out F8
    have e8 := ev8.trans q8
    have f8 := em8.trans (congrArg some q8)
    clear ev8 em8 F8
    rw [if_pos (by rfl)]
    go_simp
    exact hK _ _ (fun _ _ _ h => h) (isE.mk rfl) (Js.neutral h.world rfl)
  case r4 =>
    intro listed a u h hu hd K hK
    have hw := (RI3.wait' h (getD_un hu) (T := 10) rfl (Array.mem_of_getElem? (i := 0) rfl) rfl rfl)
    have hA := Js.now h.world hw
    obtain ⟨v9, ev9, em9, F9⟩ := h.slot (i := 3) rfl rfl (hd _ (Array.mem_of_getElem? (i := 0) rfl) rfl)
    have q9 := isE.out F9
    have e9 := ev9.trans q9
    have f9 := em9.trans (congrArg some q9)
    clear ev9 em9 F9
    rw [if_pos (by rfl)]
    obtain ⟨g0, g1, g2, g3, gf⟩ := (HX.out.go hA).facts
    have b0 := (Y0.out.go hA).c
    have b1 := (Y1.out.go hA).c
    have b2 := (Y2.out.go hA).c
    go_simp
    exact hK _ _ (fun _ _ _ h => h) (isE.mk rfl) (Js.stay hw (by decide) (hA))
  case r5 =>
    intro listed a u h hu hd K hK
    have hw := (RI3.wait' h (RI3.wait' h (RI3.wait' h (getD_un hu) (T := 8) rfl (Array.mem_of_getElem? (i := 0) rfl) rfl rfl) (T := 9) rfl (Array.mem_of_getElem? (i := 0) rfl) rfl rfl) (T := 10) rfl (Array.mem_of_getElem? (i := 1) rfl) rfl rfl)
    have hA := Js.now h.world hw
    have e1 : a.tmps.getD 1 undef = .pointer (some ⟨a0, 0, none⟩) := h.base (by kernel_rfl)
    have f1 : a.tmps[1]? = some (.pointer (some ⟨a0, 0, none⟩)) := h.old (by kernel_rfl)
    rw [if_pos (by rfl)]
    obtain ⟨g0, g1, g2, g3, gf⟩ := (HX.out.go hA).facts
    have b0 := (Y0.out.go hA).c
    have b1 := (Y1.out.go hA).c
    have b2 := (Y2.out.go hA).c
    go_simp
    exact hK _ _ (fun _ _ _ h => h) (isE.mk rfl) (Js.stay hw (by decide) (hA))
  case r6 =>
    intro listed a u h hu hd K hK
    have hw := (RI3.wait' h (RI3.wait' h (RI3.wait' h (getD_un hu) (T := 8) rfl (Array.mem_of_getElem? (i := 1) rfl) rfl rfl) (T := 9) rfl (Array.mem_of_getElem? (i := 0) rfl) rfl rfl) (T := 10) rfl (Array.mem_of_getElem? (i := 1) rfl) rfl rfl)
    have hA := Js.now h.world hw
    have e2 : a.tmps.getD 2 undef = .pointer (some ⟨a1, 0, none⟩) := h.base (by kernel_rfl)
    have f2 : a.tmps[2]? = some (.pointer (some ⟨a1, 0, none⟩)) := h.old (by kernel_rfl)
    rw [if_pos (by rfl)]
    obtain ⟨g0, g1, g2, g3, gf⟩ := (HX.out.go hA).facts
    have b0 := (Y0.out.go hA).c
    have b1 := (Y1.out.go hA).c
    have b2 := (Y2.out.go hA).c
    go_simp
    exact hK _ _ (fun _ _ _ h => h) (isE.mk rfl) (Js.stay hw (by decide) (hA))
  case r7 =>
    intro listed a u h hu hd K hK
    have hw := (RI3.wait' h (RI3.wait' h (RI3.wait' h (getD_un hu) (T := 8) rfl (Array.mem_of_getElem? (i := 2) rfl) rfl rfl) (T := 9) rfl (Array.mem_of_getElem? (i := 0) rfl) rfl rfl) (T := 10) rfl (Array.mem_of_getElem? (i := 1) rfl) rfl rfl)
    have hA := Js.now h.world hw
    have e3 : a.tmps.getD 3 undef = .pointer (some ⟨a2, 0, none⟩) := h.base (by kernel_rfl)
    have f3 : a.tmps[3]? = some (.pointer (some ⟨a2, 0, none⟩)) := h.old (by kernel_rfl)
    rw [if_pos (by rfl)]
    obtain ⟨g0, g1, g2, g3, gf⟩ := (HX.out.go hA).facts
    have b0 := (Y0.out.go hA).c
    have b1 := (Y1.out.go hA).c
    have b2 := (Y2.out.go hA).c
    go_simp
    exact hK _ _ (fun _ _ _ h => h) (isE.mk rfl) (Js.stay hw (by decide) (hA))
  case r8 =>
    intro listed a u h hu hd K hK
    obtain ⟨v11, ev11, em11, F11⟩ := h.slot (i := 5) rfl rfl (hd _ (Array.mem_of_getElem? (i := 0) rfl) rfl)
    have q11 := isE.out F11
    have e11 := ev11.trans q11
    have f11 := em11.trans (congrArg some q11)
    clear ev11 em11 F11
    obtain ⟨v12, ev12, em12, F12⟩ := h.slot (i := 6) rfl rfl (hd _ (Array.mem_of_getElem? (i := 1) rfl) rfl)
    have q12 := isE.out F12
    have e12 := ev12.trans q12
    have f12 := em12.trans (congrArg some q12)
    clear ev12 em12 F12
    obtain ⟨v13, ev13, em13, F13⟩ := h.slot (i := 7) rfl rfl (hd _ (Array.mem_of_getElem? (i := 2) rfl) rfl)
    have q13 := isE.out F13
    have e13 := ev13.trans q13
    have f13 := em13.trans (congrArg some q13)
    clear ev13 em13 F13
    rw [if_pos (by rfl)]
    go_simp
    exact hK _ _ (fun _ _ _ h => h) (isE.mk rfl) (Js.neutral h.world rfl)
  case r9 =>
    intro listed a u h hu hd K hK
    have hw := (RI3.wait' h (getD_un hu) (T := 10) rfl (Array.mem_of_getElem? (i := 1) rfl) rfl rfl)
    have hA := Js.now h.world hw
    obtain ⟨v14, ev14, em14, F14⟩ := h.slot (i := 8) rfl rfl (hd _ (Array.mem_of_getElem? (i := 0) rfl) rfl)
    have q14 := isE.out F14
    have e14 := ev14.trans q14
    have f14 := em14.trans (congrArg some q14)
    clear ev14 em14 F14
    rw [if_pos (by rfl)]
    go_simp
    have hR : Wr (fun _ => False) u (u.alloc (.cells #[.int .i64 ra, .int .i64 rb, .float .f32 rl] 91)) := (Wr.refl _ _).alloc _
    exact hK _ _ (fun j v hn hF => AllStX.fact0 (R := fun W W2 => Wr (fun _ => False) W W2) (i := 9) (by exact ⟨fun _ _ _ _ _ h => h, fun _ _ _ _ _ h => h, fun _ _ _ _ _ h => h, fun _ _ _ _ _ h => h, fun _ _ _ _ _ h => h, fun _ _ _ _ _ h => h, fun _ _ _ _ _ h => h, fun _ _ _ _ _ h => h, fun _ _ _ _ _ h => h, fun hn => absurd rfl hn, fun _ _ _ _ hW h => isLoc.wr h hW (fun _ h => h.elim) (fun _ _ _ h => h), fun _ _ _ _ _ h => h, fun _ _ _ _ _ h => h, fun _ _ _ _ _ h => h, trivial⟩) hR j v hn hF) ⟨_, rfl, hA.size, Tx.new_ _ _ _ _ _⟩ (Js.stay hw (by decide) (Below.alloc hA hA.size _))
  case r10 =>
    intro listed a u h hu hd K hK
    have hw := getD_un hu
    have hA := Js.now h.world hw
    obtain ⟨v10, ev10, em10, F10⟩ := h.slot (i := 4) rfl rfl (hd _ (Array.mem_of_getElem? (i := 0) rfl) rfl)
    have q10 := isE.out F10
    have e10 := ev10.trans q10
    have f10 := em10.trans (congrArg some q10)
    clear ev10 em10 F10
    obtain ⟨v15, ev15, em15, F15⟩ := h.slot (i := 9) rfl rfl (hd _ (Array.mem_of_getElem? (i := 1) rfl) rfl)
    obtain ⟨k15, q15, hk15, hT15⟩ : isN3 w.heap.size 91 (.int .i64 ra) (.int .i64 rb) (.float .f32 rl) v15 u := F15
    have e15 := ev15.trans q15
    have f15 := em15.trans (congrArg some q15)
    clear ev15 em15
    rw [if_pos (by rfl)]
    have hw2 := (RI3.wait' h (getD_un hu) (T := 13) rfl (Array.mem_of_getElem? (i := 1) rfl) rfl rfl)
    obtain ⟨i0, hi, hz0, hz1, hz2⟩ := info_parts infoR
    refine wp_app (.tmp 10) (.tmp 15) 30 rfl 91 i0 _ 3 24 Try.underlying30 hi hz0 hz1 hz2 rfl (by decide) A4 m c4 M (rc D.R) e10 (HO.out.s4.go hA) HZ.out.2.2.2 (Nat.le_trans _hM hA.size) ⟨k15, 0, none⟩ 1 1 (rc (fun _ => ⟨ra, rb, rl⟩)) e15 (new3_rc _ _ 91 ⟨ra, rb, rl⟩ hT15) (rc_one _) (by decide) (by simp only [maxLen]; omega) (by omega) ?_
    intro A6 c6 u2 hs2 hR hl2
    exact hK _ _ (fun j v hn hF => AllStX.fact0 (R := fun W W2 => Wr (fun k => 0 < m ∧ A4 = some ⟨k, 0, none⟩) W W2) (i := 10) (by exact ⟨fun _ _ _ _ _ h => h, fun _ _ _ _ _ h => h, fun _ _ _ _ _ h => h, fun _ _ _ _ _ h => h, fun _ _ _ _ _ h => h, fun _ _ _ _ _ h => h, fun _ _ _ _ _ h => h, fun _ _ _ _ _ h => h, fun _ _ _ _ _ h => h, fun _ _ _ _ hW h => isN3.wr h hW (HS.out), fun hn => absurd rfl hn, fun _ _ _ _ _ h => h, fun _ _ _ _ _ h => h, fun _ _ _ _ _ h => h, trivial⟩) hR j v hn hF) ⟨A6, c6, rfl, hs2.congr (app_rc D.R m _), fun k hk => (hl2 k hk).imp id (fun h => Nat.le_trans hA.size h)⟩ (Js.hit (un_lt hu) (Js.stay hw2 (by decide) (((Wr.of_go hA _).trans hR))))
  case r11 =>
    intro listed a u h hu hd K hK
    obtain ⟨v6, ev6, em6, F6⟩ := h.slot (i := 0) rfl rfl (hd _ (Array.mem_of_getElem? (i := 0) rfl) rfl)
    have q6 := isE.out F6
    have e6 := ev6.trans q6
    have f6 := em6.trans (congrArg some q6)
    clear ev6 em6 F6
    rw [if_pos (by rfl)]
    go_simp
    exact hK _ _ (fun _ _ _ h => h) (isE.mk rfl) (Js.neutral h.world rfl)
  case r12 =>
    intro listed a u h hu hd K hK
    obtain ⟨v17, ev17, em17, F17⟩ := h.slot (i := 11) rfl rfl (hd _ (Array.mem_of_getElem? (i := 0) rfl) rfl)
    have q17 := isE.out F17
    have e17 := ev17.trans q17
    have f17 := em17.trans (congrArg some q17)
    clear ev17 em17 F17
    rw [if_pos (by rfl)]
    go_simp
    exact hK _ _ (fun _ _ _ h => h) (isE.mk rfl) (Js.neutral h.world rfl)
  case r13 =>
    intro listed a u h hu hd K hK
    have hl0 : listed.getD 10 false = true := hd _ (Array.mem_of_getElem? (i := 1) rfl) rfl
    have hw := getD_un hu
    have hA := Js.now (Js.past h.world hl0) hw
    obtain ⟨v18, ev18, em18, F18⟩ := h.slot (i := 12) rfl rfl (hd _ (Array.mem_of_getElem? (i := 0) rfl) rfl)
    have q18 := isE.out F18
    have e18 := ev18.trans q18
    have f18 := em18.trans (congrArg some q18)
    clear ev18 em18 F18
    obtain ⟨v16, ev16, em16, F16⟩ := h.slot (i := 10) rfl rfl (hd _ (Array.mem_of_getElem? (i := 1) rfl) rfl)
    obtain ⟨A16, c16, q16, hs16, hl16⟩ : isLoc w.heap.size M A4 m 91 3 (m + 1) (rc (upd D.R m ⟨ra, rb, rl⟩)) v16 u := F16
    have e16 := ev16.trans q16
    have f16 := em16.trans (congrArg some q16)
    clear ev16 em16
    rw [if_pos (by rfl)]
    obtain ⟨g0, g1, g2, g3, gf⟩ := (HX.out.wr hA HG.out).facts
    have lg := (HX.out.wr hA HG.out).lt
    go_simp
    have hR := Wr.set1 u g 3 (.slice A16 (m + 1) c16)
    exact hK undef _ (fun j v hn hF => AllStX.fact0 (R := fun W W2 => Wr (fun k => k = g) W W2) (i := 13) (by exact ⟨fun _ _ _ _ _ h => h, fun _ _ _ _ _ h => h, fun _ _ _ _ _ h => h, fun _ _ _ _ _ h => h, fun _ _ _ _ _ h => h, fun _ _ _ _ _ h => h, fun _ _ _ _ _ h => h, fun _ _ _ _ _ h => h, fun _ _ _ _ _ h => h, fun _ _ _ _ hW h => isN3.wr h hW (fun k e => by rw [e]; exact HX.out.lt), fun _ _ _ _ hW h => isLoc.wr h hW (fun k e => by rw [e]; exact HX.out.lt) (fun k h0 e e2 => HG.out ⟨h0, by rw [e, e2]⟩), fun _ _ _ _ _ h => h, fun _ _ _ _ _ h => h, fun hn => absurd rfl hn, trivial⟩) hR j v hn hF) trivial (Js.keep hl0 (Js.hit (un_lt hu) (Js.nil (⟨u, A16, c16, hA, hs16, hl16, rfl⟩))))
  case hend =>
    intro listed a u h hall
    have hB : (fun W => ∃ W5 A5 c5, Wr (fun k => 0 < m ∧ A4 = some ⟨k, 0, none⟩) w W5 ∧ Sl W5 M 91 3 A5 (m + 1) c5 (rc (upd D.R m ⟨ra, rb, rl⟩)) ∧ (∀ k, A5 = some ⟨k, 0, none⟩ → (0 < m ∧ A4 = some ⟨k, 0, none⟩) ∨ w.heap.size ≤ k) ∧ W = W5.setCell ⟨g, 3, none⟩ (.slice A5 (m + 1) c5)) u := (Js.past (Js.past h.world (hall 10 (by decide))) (hall 13 (by decide)))
    obtain ⟨v6, ev6, em6, F6⟩ := h.slot (i := 0) rfl rfl (hall 0 (by decide))
    have q6 := isE.out F6
    have f6 := em6.trans (congrArg some q6)
    clear ev6 em6 F6
    obtain ⟨v7, ev7, em7, F7⟩ := h.slot (i := 1) rfl rfl (hall 1 (by decide))
    have q7 := isE.out F7
    have f7 := em7.trans (congrArg some q7)
    clear ev7 em7 F7
    obtain ⟨v8, ev8, em8, F8⟩ := h.slot (i := 2) rfl rfl (hall 2 (by decide))
    have q8 := isE.out F8
    have f8 := em8.trans (congrArg some q8)
    clear ev8 em8 F8
    obtain ⟨v9, ev9, em9, F9⟩ := h.slot (i := 3) rfl rfl (hall 3 (by decide))
    have q9 := isE.out F9
    have f9 := em9.trans (congrArg some q9)
    clear ev9 em9 F9
    obtain ⟨v10, ev10, em10, F10⟩ := h.slot (i := 4) rfl rfl (hall 4 (by decide))
    have q10 := isE.out F10
    have f10 := em10.trans (congrArg some q10)
    clear ev10 em10 F10
    obtain ⟨v11, ev11, em11, F11⟩ := h.slot (i := 5) rfl rfl (hall 5 (by decide))
    have q11 := isE.out F11
    have f11 := em11.trans (congrArg some q11)
    clear ev11 em11 F11
    obtain ⟨v12, ev12, em12, F12⟩ := h.slot (i := 6) rfl rfl (hall 6 (by decide))
    have q12 := isE.out F12
    have f12 := em12.trans (congrArg some q12)
    clear ev12 em12 F12
    obtain ⟨v13, ev13, em13, F13⟩ := h.slot (i := 7) rfl rfl (hall 7 (by decide))
    have q13 := isE.out F13
    have f13 := em13.trans (congrArg some q13)
    clear ev13 em13 F13
    obtain ⟨v14, ev14, em14, F14⟩ := h.slot (i := 8) rfl rfl (hall 8 (by decide))
    have q14 := isE.out F14
    have f14 := em14.trans (congrArg some q14)
    clear ev14 em14 F14
    obtain ⟨v15, ev15, em15, F15⟩ := h.slot (i := 9) rfl rfl (hall 9 (by decide))
    obtain ⟨k15, q15, hk15, hT15⟩ : isN3 w.heap.size 91 (.int .i64 ra) (.int .i64 rb) (.float .f32 rl) v15 u := F15
    have f15 := em15.trans (congrArg some q15)
    clear ev15 em15
    obtain ⟨v16, ev16, em16, F16⟩ := h.slot (i := 10) rfl rfl (hall 10 (by decide))
    obtain ⟨A16, c16, q16, hs16, hl16⟩ : isLoc w.heap.size M A4 m 91 3 (m + 1) (rc (upd D.R m ⟨ra, rb, rl⟩)) v16 u := F16
    have f16 := em16.trans (congrArg some q16)
    clear ev16 em16
    obtain ⟨v17, ev17, em17, F17⟩ := h.slot (i := 11) rfl rfl (hall 11 (by decide))
    have q17 := isE.out F17
    have f17 := em17.trans (congrArg some q17)
    clear ev17 em17 F17
    obtain ⟨v18, ev18, em18, F18⟩ := h.slot (i := 12) rfl rfl (hall 12 (by decide))
    have q18 := isE.out F18
    have f18 := em18.trans (congrArg some q18)
    clear ev18 em18 F18
    have ha := h.act [6, 7, 8, 9, 10, 11, 12, 13, 14, 15, 16, 17, 18] [_, _, _, _, _, _, _, _, _, _, _, _, _] (by kernel_rfl) ⟨f6, f7, f8, f9, f10, f11, f12, f13, f14, f15, f16, f17, f18, trivial⟩
    clear f6 f7 f8 f9 f10 f11 f12 f13 f14 f15 f16 f17 f18
    simp only [setAll, List.setIfInBounds_toArray, List.set_cons_zero, List.set_cons_succ] at ha
    subst ha
    clear h hall
    obtain ⟨W5, A5, c5, hw5, hs5, _, rfl⟩ := hB
    have W5_ := Lib.hid hw5
    have S5 := Lib.hid hs5
    clear hw5 hs5
    go_wp2_with fail
    go_ret
    have X5 := HX.out.wr W5_.out HG.out
    have O5 := HO.out.app4 W5_.out S5.out
    have y5 := W5_.out.size
    refine ⟨rfl, (W5_.out.below _hM (fun k hk h => by have := HD.out.b4 k h.2 h.1; omega)).setCell _hg _, fun _ => ⟨A1, A2, A3, A5, c1, c2, c3, c5, _, SimD.refl _ _ _ _ _, X5.set3 _, O5.off X5 (Wr.set1 _ _ _ _), ⟨HD.out.b1.mono (Nat.le_refl _) ?_, HD.out.b2.mono (Nat.le_refl _) ?_, HD.out.b3.mono (Nat.le_refl _) ?_, S5.out.bd.mono (Nat.le_refl _) ?_⟩⟩⟩ <;> simp [World.setCell] <;> omega
theorem run_AddRod1 (args : Array Value) (u : World) : (callFunc 130 args).run Try.prog u = .ok (.enter 130 args) u := call_enter Try.func130 (by kernel_rfl) (by kernel_rfl) _ _
theorem impl_AddRod (A1 A2 A3 A4 : Option Addr) (c1 c2 c3 c4 n1 n2 n3 n4 B : Nat) (D : D4) (ra : Int) (rb : Int) (rl : Nat) (w : World) (h : Own w B A1 A2 A3 A4 c1 c2 c3 c4 n1 n2 n3 n4 D) :
    Calls Try.prog 57 #[.agg #[.slice A1 n1 c1, .slice A2 n2 c2, .slice A3 n3 c3, .slice A4 n4 c4], .int .i64 ra, .int .i64 rb, .float .f32 rl] w (RetM (okC n1 n2 n3 n4 D && (true && okC n1 n2 n3 (n4 + 1) (addR D n4 ⟨ra, rb, rl⟩))) n1 n2 n3 (n4 + 1) (addR D n4 ⟨ra, rb, rl⟩) w) := by
  have H := Lib.hid h
  clear h
  have z1 : (w.alloc (.cells #[.slice A1 n1 c1, .slice A2 n2 c2, .slice A3 n3 c3, .slice A4 n4 c4] 32)).heap.size = w.heap.size + 1 := by simp
  have X0 : Ox (((((w.alloc (.cells #[.slice A1 n1 c1, .slice A2 n2 c2, .slice A3 n3 c3, .slice A4 n4 c4] 32)).alloc (.cells #[.int .i64 ra] 2)).alloc (.cells #[.int .i64 rb] 2)).alloc (.cells #[.float .f32 rl] 36)).alloc (.cells #[sn, sn, sn, sn] 32)) (w.heap.size + 1) 2 (.int .i64 ra) := by rw [← z1]; exact (((Ox.new_ _ _ _).alloc _).alloc _).alloc _
  have z2 : ((w.alloc (.cells #[.slice A1 n1 c1, .slice A2 n2 c2, .slice A3 n3 c3, .slice A4 n4 c4] 32)).alloc (.cells #[.int .i64 ra] 2)).heap.size = w.heap.size + 1 + 1 := by simp
  have X1 : Ox (((((w.alloc (.cells #[.slice A1 n1 c1, .slice A2 n2 c2, .slice A3 n3 c3, .slice A4 n4 c4] 32)).alloc (.cells #[.int .i64 ra] 2)).alloc (.cells #[.int .i64 rb] 2)).alloc (.cells #[.float .f32 rl] 36)).alloc (.cells #[sn, sn, sn, sn] 32)) (w.heap.size + 1 + 1) 2 (.int .i64 rb) := by rw [← z2]; exact ((Ox.new_ _ _ _).alloc _).alloc _
  have z3 : (((w.alloc (.cells #[.slice A1 n1 c1, .slice A2 n2 c2, .slice A3 n3 c3, .slice A4 n4 c4] 32)).alloc (.cells #[.int .i64 ra] 2)).alloc (.cells #[.int .i64 rb] 2)).heap.size = w.heap.size + 1 + 1 + 1 := by simp
  have X2 : Ox (((((w.alloc (.cells #[.slice A1 n1 c1, .slice A2 n2 c2, .slice A3 n3 c3, .slice A4 n4 c4] 32)).alloc (.cells #[.int .i64 ra] 2)).alloc (.cells #[.int .i64 rb] 2)).alloc (.cells #[.float .f32 rl] 36)).alloc (.cells #[sn, sn, sn, sn] 32)) (w.heap.size + 1 + 1 + 1) 36 (.float .f32 rl) := by rw [← z3]; exact (Ox.new_ _ _ _).alloc _
  have zn : ((((w.alloc (.cells #[.slice A1 n1 c1, .slice A2 n2 c2, .slice A3 n3 c3, .slice A4 n4 c4] 32)).alloc (.cells #[.int .i64 ra] 2)).alloc (.cells #[.int .i64 rb] 2)).alloc (.cells #[.float .f32 rl] 36)).heap.size = w.heap.size + 1 + 1 + 1 + 1 := by simp
  go_enter Try.func57, Try.ntmps57
  go_wp2_with fail
  refine (impl_changedChain 130 #[.pointer (some ⟨w.heap.size + 1, 0, none⟩), .pointer (some ⟨w.heap.size + 1 + 1, 0, none⟩), .pointer (some ⟨w.heap.size + 1 + 1 + 1, 0, none⟩)] (true) (n1) (n2) (n3) ((n4 + 1)) (addR D n4 ⟨ra, rb, rl⟩) A1 A2 A3 A4 c1 c2 c3 c4 n1 n2 n3 n4 B D _ (H.out.go ?hq) run_AddRod1 ?hdo).mono ?_
  case hq => exact (by repeat' (first | with_reducible exact Below.refl _ _ | with_reducible assumption | with_reducible refine below_dn ?_ _ | with_reducible refine Below.drew ?_ | with_reducible refine below_step ?_ (by assumption) | with_reducible refine Below.setCell ?_ ?_ _ | with_reducible refine Below.alloc ?_ ?_ _ | with_reducible exact Nat.le_refl _ | (simp; done) | (simp; omega) | omega))
  case hdo =>
    intro q1 g M E1 E2 E3 E4 d1 d2 d3 d4 u hx ho hd hz hg hM0 _ hb
    have Y0 := X0.go hb
    have Y1 := X1.go hb
    have Y2 := X2.go hb
    obtain ⟨s1, rfl, rfl, s4⟩ := okC_sz q1
    exact impl_AddRod1 g M _ _ _ E1 E2 E3 E4 d1 d2 d3 d4 n3 n4 D ra rb rl u hx ho hd hz hg (by omega) q1 Y0 Y1 Y2
  rintro e w1 ⟨hr, hb1⟩
  have V1 := Lib.hid ((Bx.new_ ((((w.alloc (.cells #[.slice A1 n1 c1, .slice A2 n2 c2, .slice A3 n3 c3, .slice A4 n4 c4] 32)).alloc (.cells #[.int .i64 ra] 2)).alloc (.cells #[.int .i64 rb] 2)).alloc (.cells #[.float .f32 rl] 36)) 32 sn sn sn sn).go hb1)
  have B1 := Lib.hid (show Below w.heap.size w w1 from below_step (w := w) ((by repeat' (first | with_reducible exact Below.refl _ _ | with_reducible assumption | with_reducible refine below_dn ?_ _ | with_reducible refine Below.drew ?_ | with_reducible refine below_step ?_ (by assumption) | with_reducible refine Below.setCell ?_ ?_ _ | with_reducible refine Below.alloc ?_ ?_ _ | with_reducible exact Nat.le_refl _ | (simp; done) | (simp; omega) | omega))) hb1)
  rw [zn] at V1
  have e2 : (((((w.alloc (.cells #[.slice A1 n1 c1, .slice A2 n2 c2, .slice A3 n3 c3, .slice A4 n4 c4] 32)).alloc (.cells #[.int .i64 ra] 2)).alloc (.cells #[.int .i64 rb] 2)).alloc (.cells #[.float .f32 rl] 36)).alloc (.cells #[sn, sn, sn, sn] 32)).heap.size = w.heap.size + 5 := by simp
  rw [e2] at hr
  clear hb1 zn e2 z1 X0 z2 X1 z3 X2
  obtain ⟨v0, v1, v2, v3, vf⟩ := V1.out.facts
  have lv := V1.out.lt
  cases hbb : (okC n1 n2 n3 n4 D && (true && okC n1 n2 n3 (n4 + 1) (addR D n4 ⟨ra, rb, rl⟩)))
  · rw [hbb] at hr
    obtain rfl := hr
    go_wp2_with fail
    obtain ⟨r0, r1, r2, r3, rf⟩ := (V1.out.setAll sn sn sn sn).facts
    refine bodyPost_ret (v := .tuple #[.agg #[sn, sn, sn, sn], .bool false]) (by simp [results, Try.results57, go_sem, r0, r1, r2, r3]) rfl ?_
    rw [hbb]
    exact ⟨rfl, Bx.bel B1.out (by omega) _ _ _ _⟩
  · rw [hbb] at hr
    obtain ⟨F1, F2, F3, F4, x1, x2, x3, x4, D', rfl, hs, ho, hd⟩ := hr
    have HS := Lib.hid hs
    have HO := Lib.hid ho
    have HD := Lib.hid hd
    clear hs ho hd
    have VF := Lib.hid (V1.out.setAll (.slice F1 (n1) x1) (.slice F2 (n2) x2) (.slice F3 (n3) x3) (.slice F4 ((n4 + 1)) x4))
    have WF := Lib.hid (show Wr (fun k => k = w.heap.size + 1 + 1 + 1 + 1) w1 ((((w1.setCell ⟨w.heap.size + 1 + 1 + 1 + 1, 0, none⟩ (.slice F1 (n1) x1)).setCell ⟨w.heap.size + 1 + 1 + 1 + 1, 1, none⟩ (.slice F2 (n2) x2)).setCell ⟨w.heap.size + 1 + 1 + 1 + 1, 2, none⟩ (.slice F3 (n3) x3)).setCell ⟨w.heap.size + 1 + 1 + 1 + 1, 3, none⟩ (.slice F4 ((n4 + 1)) x4)) from by
      refine Wr.setCell (Wr.setCell (Wr.setCell (Wr.setCell (Wr.refl _ _) ?_ _) ?_ _) ?_ _) ?_ _ <;> rfl)
    go_wp2_with fail
    obtain ⟨r0, r1, r2, r3, rf⟩ := VF.out.facts
    refine bodyPost_ret (v := .tuple #[.agg #[.slice F1 (n1) x1, .slice F2 (n2) x2, .slice F3 (n3) x3, .slice F4 ((n4 + 1)) x4], .bool true]) (by simp [results, Try.results57, go_sem, r0, r1, r2, r3]) rfl ?_
    rw [hbb]
    exact ⟨⟨F1, F2, F3, F4, x1, x2, x3, x4, D', rfl, HS.out, (HO.out.off V1.out WF.out).mono (by omega), HD.out.mono (by omega) WF.out.size⟩, Bx.bel B1.out (by omega) _ _ _ _⟩
set_option maxHeartbeats 4000000 in
set_option maxRecDepth 100000 in
theorem spec_AddRod (A1 A2 A3 A4 : Option Addr) (c1 c2 c3 c4 n1 n2 n3 n4 B : Nat) (D : D4) (ra : Int) (rb : Int) (rl : Nat) (w : World) (h : Own w B A1 A2 A3 A4 c1 c2 c3 c4 n1 n2 n3 n4 D) :
    Calls Try.prog 56 #[.agg #[.slice A1 n1 c1, .slice A2 n2 c2, .slice A3 n3 c3, .slice A4 n4 c4], .int .i64 ra, .int .i64 rb, .float .f32 rl] w (RetM (okC n1 n2 n3 n4 D && (true && okC n1 n2 n3 (n4 + 1) (addR D n4 ⟨ra, rb, rl⟩))) n1 n2 n3 (n4 + 1) (addR D n4 ⟨ra, rb, rl⟩) w) := by
  have H := Lib.hid h
  clear h
  cases q1 : okC n1 n2 n3 n4 D
  · go_enter Try.func56, Try.ntmps56
    go_wp2_with fail
    refine (spec_l03Is w.heap.size A1 A2 A3 A4 c1 c2 c3 c4 n1 n2 n3 n4 B D _ ((Bx.new_ _ _ _ _ _ _).alloc _) (H.out.go (by repeat' (first | with_reducible exact Below.refl _ _ | with_reducible assumption | with_reducible refine below_dn ?_ _ | with_reducible refine Below.drew ?_ | with_reducible refine below_step ?_ (by assumption) | with_reducible refine Below.setCell ?_ ?_ _ | with_reducible refine Below.alloc ?_ ?_ _ | with_reducible exact Nat.le_refl _ | (simp; done) | (simp; omega) | omega)))).mono ?_
    rintro e w1 ⟨rfl, hb1⟩
    have V1 := Lib.hid ((Bx.new_ (w.alloc (.cells #[.slice A1 n1 c1, .slice A2 n2 c2, .slice A3 n3 c3, .slice A4 n4 c4] 32)) 32 sn sn sn sn).go hb1)
    have B1 := Lib.hid (show Below w.heap.size w w1 from below_step (w := w) ((by repeat' (first | with_reducible exact Below.refl _ _ | with_reducible assumption | with_reducible refine below_dn ?_ _ | with_reducible refine Below.drew ?_ | with_reducible refine below_step ?_ (by assumption) | with_reducible refine Below.setCell ?_ ?_ _ | with_reducible refine Below.alloc ?_ ?_ _ | with_reducible exact Nat.le_refl _ | (simp; done) | (simp; omega) | omega))) hb1)
    have e1 : (w.alloc (.cells #[.slice A1 n1 c1, .slice A2 n2 c2, .slice A3 n3 c3, .slice A4 n4 c4] 32)).heap.size = w.heap.size + 1 := by simp
    rw [e1] at V1
    clear hb1 e1
    obtain ⟨v0, v1, v2, v3, vf⟩ := V1.out.facts
    have lv := V1.out.lt
    rw [q1]
    go_wp2_with fail
    obtain ⟨r0, r1, r2, r3, rf⟩ := (V1.out.setAll sn sn sn sn).facts
    refine bodyPost_ret (v := .tuple #[.agg #[sn, sn, sn, sn], .bool false]) (by simp [results, Try.results56, go_sem, r0, r1, r2, r3]) rfl ?_
    exact ⟨rfl, Bx.bel B1.out (by omega) _ _ _ _⟩
  · obtain ⟨s1, rfl, rfl, s4⟩ := okC_sz q1
    have q2 : true = true := rfl
    go_enter Try.func56, Try.ntmps56
    go_wp2_with fail
    refine (spec_l03Is w.heap.size A1 A2 A3 A4 c1 c2 c3 c4 n3 n3 n3 n4 B D _ ((Bx.new_ _ _ _ _ _ _).alloc _) (H.out.go (by repeat' (first | with_reducible exact Below.refl _ _ | with_reducible assumption | with_reducible refine below_dn ?_ _ | with_reducible refine Below.drew ?_ | with_reducible refine below_step ?_ (by assumption) | with_reducible refine Below.setCell ?_ ?_ _ | with_reducible refine Below.alloc ?_ ?_ _ | with_reducible exact Nat.le_refl _ | (simp; done) | (simp; omega) | omega)))).mono ?_
    rintro e w1 ⟨rfl, hb1⟩
    have P1 := Lib.hid (((Bx.new_ w 32 (.slice A1 n3 c1) (.slice A2 n3 c2) (.slice A3 n3 c3) (.slice A4 n4 c4)).alloc _).go hb1)
    have V1 := Lib.hid ((Bx.new_ (w.alloc (.cells #[.slice A1 n3 c1, .slice A2 n3 c2, .slice A3 n3 c3, .slice A4 n4 c4] 32)) 32 sn sn sn sn).go hb1)
    have B1 := Lib.hid (show Below w.heap.size w w1 from below_step (w := w) ((by repeat' (first | with_reducible exact Below.refl _ _ | with_reducible assumption | with_reducible refine below_dn ?_ _ | with_reducible refine Below.drew ?_ | with_reducible refine below_step ?_ (by assumption) | with_reducible refine Below.setCell ?_ ?_ _ | with_reducible refine Below.alloc ?_ ?_ _ | with_reducible exact Nat.le_refl _ | (simp; done) | (simp; omega) | omega))) hb1)
    have e1 : (w.alloc (.cells #[.slice A1 n3 c1, .slice A2 n3 c2, .slice A3 n3 c3, .slice A4 n4 c4] 32)).heap.size = w.heap.size + 1 := by simp
    rw [e1] at V1
    clear hb1 e1
    rw [q1]
    go_wp2_with fail
    refine (spec_l03Own w.heap.size A1 A2 A3 A4 c1 c2 c3 c4 n3 n3 n3 n4 D (by omega) (by omega) (by omega) (by omega) _ P1.out ((H.out.go B1.out).s1.in_) ((H.out.go B1.out).s2.in_) ((H.out.go B1.out).s3.in_) ((H.out.go B1.out).s4.in_)).mono ?_
    rintro e w2 ⟨E1, E2, E3, E4, d1, d2, d3, d4, rfl, ho2, hd2, hz2, hb2⟩
    have P2 := Lib.hid (P1.out.go hb2)
    have V2 := Lib.hid (V1.out.go hb2)
    have B2 := Lib.hid (below_step B1.out hb2)
    have O2 := Lib.hid ho2
    have D2 := Lib.hid hd2
    have HZ2 := Lib.hid hz2
    clear hz2
    have y1 := V1.out.lt
    have y2 := hb2.size
    have y0 := B1.out.size
    clear hb2 ho2 hd2 P1 V1 
    obtain ⟨i0, hi, hz0, hz1, hz2⟩ := info_parts infoR
    have ez : (w2.alloc (.cells #[.slice E1 n3 d1, .slice E2 n3 d2, .slice E3 n3 d3, .slice E4 n4 d4] 32)).heap.size = w2.heap.size + 1 := by simp
    have hT : Tx ((w2.alloc (.cells #[.slice E1 n3 d1, .slice E2 n3 d2, .slice E3 n3 d3, .slice E4 n4 d4] 32)).alloc (.cells #[.int .i64 ra, .int .i64 rb, .float .f32 rl] 91)) (w2.heap.size + 1) 91 (.int .i64 ra) (.int .i64 rb) (.float .f32 rl) := by rw [← ez]; exact Tx.new_ _ _ _ _ _
    have hXX : Bx ((w2.alloc (.cells #[.slice E1 n3 d1, .slice E2 n3 d2, .slice E3 n3 d3, .slice E4 n4 d4] 32)).alloc (.cells #[.int .i64 ra, .int .i64 rb, .float .f32 rl] 91)) w2.heap.size 32 (.slice E1 n3 d1) (.slice E2 n3 d2) (.slice E3 n3 d3) (.slice E4 n4 d4) := (Bx.new_ _ _ _ _ _ _).alloc _
    have hOO : Own ((w2.alloc (.cells #[.slice E1 n3 d1, .slice E2 n3 d2, .slice E3 n3 d3, .slice E4 n4 d4] 32)).alloc (.cells #[.int .i64 ra, .int .i64 rb, .float .f32 rl] 91)) w1.heap.size E1 E2 E3 E4 d1 d2 d3 d4 n3 n3 n3 n4 D := O2.out.go (by repeat' (first | with_reducible exact Below.refl _ _ | with_reducible assumption | with_reducible refine below_dn ?_ _ | with_reducible refine Below.drew ?_ | with_reducible refine below_step ?_ (by assumption) | with_reducible refine Below.setCell ?_ ?_ _ | with_reducible refine Below.alloc ?_ ?_ _ | with_reducible exact Nat.le_refl _ | (simp; done) | (simp; omega) | omega))
    have hbl : ∀ k, 0 < n4 → E4 = some ⟨k, 0, none⟩ → w1.heap.size ≤ k ∧ k < w2.heap.size := fun k h0 e => D2.out.b4 k e h0
    have hne : ¬ (0 < n4 ∧ E4 = some ⟨w2.heap.size, 0, none⟩) := fun h => by have := hbl _ h.1 h.2; omega
    have hzz := HZ2.out.2.2.2
    go_upto_region 5 with (at_builtin; refine wpList_app rfl (.tmp 16) (.tmp 21) 30 rfl 91 i0 _ 3 24 Try.underlying30 hi hz0 hz1 hz2 rfl (by decide) E4 n4 d4 w1.heap.size (rc D.R) rfl hOO.s4 hzz (by simp; omega) ⟨w2.heap.size + 1, 0, none⟩ 1 1 (rc (fun _ => ⟨ra, rb, rl⟩)) rfl (new3_rc _ _ 91 ⟨ra, rb, rl⟩ hT) (rc_one _) (by decide) (by simp only [maxLen]; omega) (by omega) ?_; intro F4 x4 u2 hs2 hR _; have X3 := hXX.wr hR hne; have O3 := hOO.app4 (r := ⟨ra, rb, rl⟩) hR (hs2.congr (app_rc D.R n4 _)); obtain ⟨g0, g1, g2, g3, gf⟩ := X3.facts; have lg := X3.lt)
    have y3 := hR.size
    have es : (u2.setCell ⟨w2.heap.size, 3, none⟩ (.slice F4 (n4 + 1) x4)).heap.size = u2.heap.size := by simp [World.setCell]
    obtain ⟨wm, hwm⟩ : ∃ wm : World, wm = u2.setCell ⟨w2.heap.size, 3, none⟩ (.slice F4 (n4 + 1) x4) := ⟨_, rfl⟩
    have XM := Lib.hid (show Bx wm w2.heap.size 32 (.slice E1 n3 d1) (.slice E2 n3 d2) (.slice E3 n3 d3) (.slice F4 (n4 + 1) x4) by rw [hwm]; exact X3.set3 _)
    have VM := Lib.hid (show Bx wm (w.heap.size + 1) 32 sn sn sn sn by rw [hwm]; exact (((V2.out.alloc _).alloc _).wr hR (fun h => by have := hbl _ h.1 h.2; omega)).far (by simp; omega) _)
    have BM := Lib.hid (show Below w.heap.size w wm by rw [hwm]; exact ((Below.alloc (Below.alloc B2.out (by omega) _) (by rw [ez]; omega) _).trans (hR.below (by simp; omega) (fun k hk h => by have := hbl _ h.1 h.2; omega))).setCell (by simp; omega) _)
    have OM := Lib.hid (show Own wm w1.heap.size E1 E2 E3 F4 d1 d2 d3 x4 n3 n3 n3 (n4 + 1) (addR D n4 ⟨ra, rb, rl⟩) by rw [hwm]; exact O3.off X3 (Wr.set1 _ _ _ _))
    have SM := Lib.hid (SimD.refl n3 n3 n3 (n4 + 1) (addR D n4 ⟨ra, rb, rl⟩))
    have DM := Lib.hid (show Bds w1.heap.size wm.heap.size E1 E2 E3 F4 n3 n3 n3 (n4 + 1) from OM.out.bds)
    rw [← hwm]
    clear hwm es V2 O2 D2 B2 P2 ez hT hXX hOO hbl hne hzz X3 O3 hs2 hR g0 g1 g2 g3 gf lg hi hz0 hz1 hz2
    obtain ⟨t0, t1, t2, t3, tf⟩ := XM.out.facts
    have lt := XM.out.lt
    go_wp2_with fail
    refine (spec_l03Give E1 E2 E3 F4 d1 d2 d3 x4 (n3) (n3) (n3) ((n4 + 1)) _ (addR D n4 ⟨ra, rb, rl⟩) _ OM.out).mono ?_
    rintro e w4 ⟨rfl, hb4⟩
    have V4 := Lib.hid (VM.out.go hb4)
    have B4 := Lib.hid (below_step BM.out hb4)
    have O4 := Lib.hid (OM.out.go hb4)
    have D4_ := Lib.hid (DM.out.mono (Nat.le_refl _) hb4.size)
    clear hb4 t0 t1 t2 t3 tf lt VM BM OM DM
    obtain ⟨v0, v1, v2, v3, vf⟩ := V4.out.facts
    have lv := V4.out.lt
    rw [okC_sim SM.out]
    cases q3 : okC (n3) (n3) (n3) ((n4 + 1)) (addR D n4 ⟨ra, rb, rl⟩)
    · unfold giveV
      go_wp2_with fail
      obtain ⟨r0, r1, r2, r3, rf⟩ := (V4.out.setAll sn sn sn sn).facts
      refine bodyPost_ret (v := .tuple #[.agg #[sn, sn, sn, sn], .bool false]) (by simp [results, Try.results56, go_sem, r0, r1, r2, r3]) rfl ?_
      rw [q3]
      exact ⟨rfl, Bx.bel B4.out (by omega) _ _ _ _⟩
    · unfold giveV
      have WF := Lib.hid (show Wr (fun k => k = w.heap.size + 1) w4 ((((w4.setCell ⟨w.heap.size + 1, 0, none⟩ (.slice E1 (n3) d1)).setCell ⟨w.heap.size + 1, 1, none⟩ (.slice E2 (n3) d2)).setCell ⟨w.heap.size + 1, 2, none⟩ (.slice E3 (n3) d3)).setCell ⟨w.heap.size + 1, 3, none⟩ (.slice F4 ((n4 + 1)) x4)) from by
        refine Wr.setCell (Wr.setCell (Wr.setCell (Wr.setCell (Wr.refl _ _) ?_ _) ?_ _) ?_ _) ?_ _ <;> rfl)
      go_wp2_with fail
      obtain ⟨r0, r1, r2, r3, rf⟩ := (V4.out.setAll (.slice E1 (n3) d1) (.slice E2 (n3) d2) (.slice E3 (n3) d3) (.slice F4 ((n4 + 1)) x4)).facts
      refine bodyPost_ret (v := .tuple #[.agg #[.slice E1 (n3) d1, .slice E2 (n3) d2, .slice E3 (n3) d3, .slice F4 ((n4 + 1)) x4], .bool true]) (by simp [results, Try.results56, go_sem, r0, r1, r2, r3]) rfl ?_
      rw [q3]
      exact ⟨⟨E1, E2, E3, F4, d1, d2, d3, x4, addR D n4 ⟨ra, rb, rl⟩, rfl, SM.out, (O4.out.off V4.out WF.out).mono y0, D4_.out.mono y0 WF.out.size⟩, Bx.bel B4.out (by omega) _ _ _ _⟩
end Go.Proofs.Ytlhgaihfghobmaa
