/- StraightenRod, StraightenAll: contracts. -/
import Derived.Test.YtlhgaihfghobmaaMs
import Derived.Test.YtlhgaihfghobmaaDg
namespace Go.Proofs.Ytlhgaihfghobmaa
open Go.ChangeShapes Go.WideShapes Go.ChangeAt Go.RowKit Go.Deep

/-- a chain with its first k rods straightened. -/
def strR (D : D4) (r : Rd) : D4 := straD D r.a.toNat r.b.toNat r.l
def allD (D : D4) : Nat → D4
  | 0 => D
  | k + 1 => strR (allD D k) (D.R k)
def rndD (D : D4) (m : Nat) : Nat → D4
  | 0 => D
  | r + 1 => allD (rndD D m r) m
theorem straD_R (D : D4) (a b l : Nat) : (straD D a b l).R = D.R := by
  unfold straD
  cases strB D a b <;> rfl
theorem allD_R (D : D4) : ∀ k, (allD D k).R = D.R
  | 0 => rfl
  | k + 1 => (straD_R _ _ _ _).trans (allD_R D k)
theorem rndD_R (D : D4) (m : Nat) : ∀ r, (rndD D m r).R = D.R
  | 0 => rfl
  | r + 1 => (allD_R _ _).trans (rndD_R D m r)
/-- rods between places. -/
def rodsIn (n m : Nat) (R : Nat → Rd) : Prop := ∀ j, j < m → (0 ≤ (R j).a ∧ (R j).a < n) ∧ (0 ≤ (R j).b ∧ (R j).b < n)
theorem okC_rods {n1 n2 n3 n4 : Nat} {D : D4} (h : okC n1 n2 n3 n4 D = true) : rodsIn n1 n4 D.R := fun _ hj => ⟨(okC_rod h hj).1, (okC_rod h hj).2.1⟩
theorem rd_nat {n : Nat} {r : Rd} (h : (0 ≤ r.a ∧ r.a < n) ∧ (0 ≤ r.b ∧ r.b < n)) : ∃ pa pb : Nat, r.a = (pa : Int) ∧ r.b = (pb : Int) ∧ pa < n ∧ pb < n ∧ r.a.toNat = pa ∧ r.b.toNat = pb := ⟨r.a.toNat, r.b.toNat, by omega, by omega, by omega, by omega, rfl, rfl⟩
theorem strR_sim {n m : Nat} {D E : D4} {r s : Rd} (h : SimD n n n m D E) (hr : SimR r s) (hs : (0 ≤ s.a ∧ s.a < n) ∧ (0 ≤ s.b ∧ s.b < n)) : SimD n n n m (strR D r) (strR E s) := by
  unfold strR
  rw [hr.1, hr.2.1]
  exact straD_sim h hr.2.2 (by omega) (by omega)
set_option maxHeartbeats 4000000 in
set_option maxRecDepth 100000 in
theorem impl_all (g M : Nat) (A1 A2 A3 A4 : Option Addr) (c1 c2 c3 c4 n m : Nat) (D : D4) (Q : Nat) (w : World) (hx : Bx w g 32 (.slice A1 n c1) (.slice A2 n c2) (.slice A3 n c3) (.slice A4 m c4)) (ho : Own w M A1 A2 A3 A4 c1 c2 c3 c4 n n n m D) (hM : M ≤ w.heap.size) (hn : n ≤ 24) (hm : m ≤ 40) (hQ : Q ≤ 20) (hr : rodsIn n m D.R) :
    Calls Try.prog 148 #[.pointer (some ⟨g, 0, none⟩), .int .i64 (Q : Int)] w (RetSt g M A1 A2 A3 A4 c1 c2 c3 c4 n n n m (rndD D m Q) w) := by
  have HX := Lib.hid hx
  have HO := Lib.hid ho
  have HR := Lib.hid hr
  clear hx ho hr
  go_enter Try.func148, Try.ntmps148
  go_wp2_with fail
  go_loopw [7] (fun i wr => ∃ (r : Nat) (D1 : D4), r ≤ Q ∧ i = .int .i64 ((r : Int)) ∧ SimD n n n m D1 (rndD D m r) ∧ Own wr M A1 A2 A3 A4 c1 c2 c3 c4 n n n m D1 ∧ Bx wr g 32 (.slice A1 n c1) (.slice A2 n c2) (.slice A3 n c3) (.slice A4 m c4) ∧ Below M w wr ∧ M ≤ wr.heap.size) (fun i _ => Q - (intOf i).toNat)
  case atStart => exact ⟨0, D, Nat.zero_le _, by go_num, SimD.refl _ _ _ _ _, HO.out, HX.out, Below.refl _ _, hM⟩
  case round =>
    obtain ⟨r, D1, hr, rfl, hS, hO, hX, hB, hz⟩ := hrel
    by_cases hlt : r < Q
    · have HS := Lib.hid hS
      have HO1 := Lib.hid hO
      have HX1 := Lib.hid hX
      have HB1 := Lib.hid hB
      obtain ⟨p0, p1, p2, p3, pf⟩ := hX.facts
      have lp := hX.lt
      have hr0 : (0 : Int) ≤ (r : Int) := by omega
      have hr1 : (r : Int) < (Q : Int) := by omega
      have hr2 : (Q : Int) ≤ 20 := by omega
      clear hS hO hX hB
      go_wp2_with fail
      clear p0 p1 p2 p3 pf lp
      rename World => wo
      go_loopw [14] (fun i wr => ∃ (k : Nat) (D2 : D4), k ≤ m ∧ i = .int .i64 k ∧ SimD n n n m D2 (allD (rndD D m r) k) ∧ Own wr M A1 A2 A3 A4 c1 c2 c3 c4 n n n m D2 ∧ Bx wr g 32 (.slice A1 n c1) (.slice A2 n c2) (.slice A3 n c3) (.slice A4 m c4) ∧ Below M w wr ∧ M ≤ wr.heap.size) (fun i _ => m - (intOf i).toNat)
      case atStart => exact ⟨0, D1, Nat.zero_le _, rfl, HS.out, HO1.out, HX1.out, HB1.out, hz⟩
      case round =>
        obtain ⟨k, D2, hk, rfl, hS, hO, hX, hB, hz2⟩ := hrel
        have HS2 := Lib.hid hS
        have HO2 := Lib.hid hO
        have HX2 := Lib.hid hX
        have HB2 := Lib.hid hB
        by_cases hlt2 : k < m
        · have hsr := hS.2.2.2 k hlt2
          rw [allD_R, rndD_R] at hsr
          have hin := HR.out k hlt2
          obtain ⟨pa, pb, ea, eb, la, lb, ta, tb⟩ := rd_nat (r := D2.R k) (by rw [hsr.1, hsr.2.1]; exact hin)
          have HSR := Lib.hid hsr
          obtain ⟨b4, hA4, _, _, _, hr4⟩ := hO.s4 (by omega)
          subst hA4
          obtain ⟨i0, i1, i2, _, _, _⟩ := hr4.at3 hlt2
          rw [rc0, ea] at i0
          rw [rc1, eb] at i1
          rw [rc2] at i2
          have l4 := hr4.lt
          have hk0 : (0 : Int) ≤ (k : Int) := by omega
          have hk1 : (k : Int) < (m : Int) := by omega
          have hk2 : (m : Int) ≤ 40 := by omega
          clear hS hO hX hB hr4 hsr
          go_wp2_with fail
          refine (impl_straighten g M _ _ _ _ _ _ _ _ n m D2 pa pb (D2.R k).l la lb _ (HX2.out.alloc _) (HO2.out.go (by repeat' (first | with_reducible exact Below.refl _ _ | with_reducible assumption | with_reducible refine below_dn ?_ _ | with_reducible refine Below.drew ?_ | with_reducible refine below_step ?_ (by assumption) | with_reducible refine Below.setCell ?_ ?_ _ | with_reducible refine Below.alloc ?_ ?_ _ | with_reducible exact Nat.le_refl _ | (simp; done) | (simp; omega) | omega))) (by simp; omega) hn).mono ?_
          rintro e w3 ⟨rfl, hb, D3, hs3, ho3, hx3⟩
          have BB := Lib.hid (HB2.out.trans ((Below.alloc (Below.refl _ _) hz2 _).trans hb))
          have y3 := hb.size
          simp at y3
          have S3 := Lib.hid hs3
          have O3 := Lib.hid ho3
          have X3 := Lib.hid hx3
          clear hb hs3 ho3 hx3 i0 i1 i2 l4
          go_wp2_with fail
          go_roundw
          case rel =>
            refine ⟨k + 1, D3, by omega, by go_num, S3.out.trans ?_, O3.out, X3.out, BB.out, by omega⟩
            have h3 := strR_sim HS2.out HSR.out hin
            unfold strR at h3
            rw [ta, tb] at h3
            show SimD n n n m _ (strR (allD (rndD D m r) k) ((rndD D m r).R k))
            rw [rndD_R]
            exact h3
          case measure => simp [intOf]; omega
        · obtain rfl : m = k := by omega
          clear hS hO hX hB
          go_wp2_with fail
          go_roundw
          case rel => exact ⟨r + 1, D2, by omega, by go_num, HS2.out, HO2.out, HX2.out, HB2.out, hz2⟩
          case measure => simp [intOf]; omega
    · obtain rfl : Q = r := by omega
      have HS := Lib.hid hS
      have HO1 := Lib.hid hO
      have HX1 := Lib.hid hX
      have HB1 := Lib.hid hB
      clear hS hO hX hB
      go_wp2_with fail
      refine bodyPost_end (results_none rfl _ _ _) rfl ?_
      exact ⟨rfl, HB1.out, D1, HS.out, HO1.out, HX1.out⟩
set_option maxHeartbeats 4000000 in
set_option maxRecDepth 100000 in
theorem spec_all (g M : Nat) (A1 A2 A3 A4 : Option Addr) (c1 c2 c3 c4 n m : Nat) (D : D4) (Q : Nat) (w : World) (hx : Bx w g 32 (.slice A1 n c1) (.slice A2 n c2) (.slice A3 n c3) (.slice A4 m c4)) (ho : Own w M A1 A2 A3 A4 c1 c2 c3 c4 n n n m D) (hM : M ≤ w.heap.size) (hn : n ≤ 24) (hm : m ≤ 40) (hQ : Q ≤ 20) (hr : rodsIn n m D.R) :
    Calls Try.prog 145 #[.pointer (some ⟨g, 0, none⟩), .int .i64 (Q : Int)] w (RetSt g M A1 A2 A3 A4 c1 c2 c3 c4 n n n m (rndD D m Q) w) := by
  have HX := Lib.hid hx
  have HO := Lib.hid ho
  have HR := Lib.hid hr
  clear hx ho hr
  go_enter Try.func145, Try.ntmps145
  go_wp2_with fail
  go_loopw [1] (fun i wr => ∃ (r : Nat) (D1 : D4), r ≤ Q ∧ i = .int .i64 ((Q : Int) - (r : Int)) ∧ SimD n n n m D1 (rndD D m r) ∧ Own wr M A1 A2 A3 A4 c1 c2 c3 c4 n n n m D1 ∧ Bx wr g 32 (.slice A1 n c1) (.slice A2 n c2) (.slice A3 n c3) (.slice A4 m c4) ∧ Below M w wr ∧ M ≤ wr.heap.size) (fun i _ => (intOf i).toNat)
  case atStart => exact ⟨0, D, Nat.zero_le _, by go_num, SimD.refl _ _ _ _ _, HO.out, HX.out, Below.refl _ _, hM⟩
  case round =>
    obtain ⟨r, D1, hr, rfl, hS, hO, hX, hB, hz⟩ := hrel
    by_cases hlt : r < Q
    · have HS := Lib.hid hS
      have HO1 := Lib.hid hO
      have HX1 := Lib.hid hX
      have HB1 := Lib.hid hB
      obtain ⟨p0, p1, p2, p3, pf⟩ := hX.facts
      have lp := hX.lt
      have hr0 : (0 : Int) ≤ (r : Int) := by omega
      have hr1 : (r : Int) < (Q : Int) := by omega
      have hr2 : (Q : Int) ≤ 20 := by omega
      clear hS hO hX hB
      go_wp2_with fail
      clear p0 p1 p2 p3 pf lp
      rename World => wo
      go_loopw [14] (fun i wr => ∃ (k : Nat) (D2 : D4), k ≤ m ∧ i = .int .i64 k ∧ SimD n n n m D2 (allD (rndD D m r) k) ∧ Own wr M A1 A2 A3 A4 c1 c2 c3 c4 n n n m D2 ∧ Bx wr g 32 (.slice A1 n c1) (.slice A2 n c2) (.slice A3 n c3) (.slice A4 m c4) ∧ Below M w wr ∧ M ≤ wr.heap.size) (fun i _ => m - (intOf i).toNat)
      case atStart => exact ⟨0, D1, Nat.zero_le _, rfl, HS.out, HO1.out, HX1.out, HB1.out, hz⟩
      case round =>
        obtain ⟨k, D2, hk, rfl, hS, hO, hX, hB, hz2⟩ := hrel
        have HS2 := Lib.hid hS
        have HO2 := Lib.hid hO
        have HX2 := Lib.hid hX
        have HB2 := Lib.hid hB
        by_cases hlt2 : k < m
        · have hsr := hS.2.2.2 k hlt2
          rw [allD_R, rndD_R] at hsr
          have hin := HR.out k hlt2
          obtain ⟨pa, pb, ea, eb, la, lb, ta, tb⟩ := rd_nat (r := D2.R k) (by rw [hsr.1, hsr.2.1]; exact hin)
          have HSR := Lib.hid hsr
          obtain ⟨b4, hA4, _, _, _, hr4⟩ := hO.s4 (by omega)
          subst hA4
          obtain ⟨i0, i1, i2, _, _, _⟩ := hr4.at3 hlt2
          rw [rc0, ea] at i0
          rw [rc1, eb] at i1
          rw [rc2] at i2
          have l4 := hr4.lt
          have hk0 : (0 : Int) ≤ (k : Int) := by omega
          have hk1 : (k : Int) < (m : Int) := by omega
          have hk2 : (m : Int) ≤ 40 := by omega
          clear hS hO hX hB hr4 hsr
          go_wp2_with fail
          refine (spec_straighten g M _ _ _ _ _ _ _ _ n m D2 pa pb (D2.R k).l k hlt2 ea eb rfl la lb _ HX2.out HO2.out hz2 hn).mono ?_
          rintro e w3 ⟨rfl, hb, D3, hs3, ho3, hx3⟩
          have BB := Lib.hid (HB2.out.trans hb)
          have y3 := hb.size
          have S3 := Lib.hid hs3
          have O3 := Lib.hid ho3
          have X3 := Lib.hid hx3
          clear hb hs3 ho3 hx3 i0 i1 i2 l4
          go_wp2_with fail
          go_roundw
          case rel =>
            refine ⟨k + 1, D3, by omega, by go_num, S3.out.trans ?_, O3.out, X3.out, BB.out, by omega⟩
            have h3 := strR_sim HS2.out HSR.out hin
            unfold strR at h3
            rw [ta, tb] at h3
            show SimD n n n m _ (strR (allD (rndD D m r) k) ((rndD D m r).R k))
            rw [rndD_R]
            exact h3
          case measure => simp [intOf]; omega
        · obtain rfl : m = k := by omega
          clear hS hO hX hB
          go_wp2_with fail
          go_roundw
          case rel => exact ⟨r + 1, D2, by omega, by go_num, HS2.out, HO2.out, HX2.out, HB2.out, hz2⟩
          case measure => simp [intOf]; omega
    · obtain rfl : Q = r := by omega
      have HS := Lib.hid hS
      have HO1 := Lib.hid hO
      have HX1 := Lib.hid hX
      have HB1 := Lib.hid hB
      clear hS hO hX hB
      go_wp2_with fail
      refine bodyPost_end (results_none rfl _ _ _) rfl ?_
      exact ⟨rfl, HB1.out, D1, HS.out, HO1.out, HX1.out⟩
set_option maxHeartbeats 4000000 in
set_option maxRecDepth 100000 in
theorem impl_StraightenRod1 (g M : Nat) (a0 : Nat) (A1 A2 A3 A4 : Option Addr) (c1 c2 c3 c4 n m : Nat) (D : D4) (i : Int) (w : World) (hx : Bx w g 32 (.slice A1 n c1) (.slice A2 n c2) (.slice A3 n c3) (.slice A4 m c4)) (ho : Own w M A1 A2 A3 A4 c1 c2 c3 c4 n n n m D) (hd : Bds M w.heap.size A1 A2 A3 A4 n n n m) (_hz : Zc c1 c2 c3 c4 n n n m) (_hg : M ≤ g) (_hM : M ≤ w.heap.size) (q1 : okC n n n m D = true) (hx0 : Ox w a0 2 (.int .i64 i)) :
    Calls Try.prog 142 #[.pointer (some ⟨g, 0, none⟩), .pointer (some ⟨a0, 0, none⟩)] w (RetDo g M (inI i 0 ((m : Int) - 1)) (n) (n) (n) (m) (strR D (D.R i.toNat)) w) := by
  have HX0 := Lib.hid hx
  have _HD := Lib.hid hd
  obtain ⟨p0, p1, p2, p3, pf⟩ := hx.facts
  have lp := hx.lt
  have hi := hx0.c
  obtain ⟨s1, _, _, s4⟩ := okC_sz q1
  cases hb : inI i 0 ((m : Int) - 1)
  · clear hx ho hx0 q1 hd
    go_enter Try.func142, Try.ntmps142
    go_wp2_with fail
    refine (impl_hasRod' g i _ _ _ _ _ _ _ _ n n n m (by omega) _ HX0.out).mono ?_
    rintro e w' ⟨rfl, q, rfl⟩
    rw [hb]
    go_wp2_with fail
    go_ret
    exact ⟨rfl, below_n _ _ _, fun h => absurd h (by decide)⟩
  · obtain ⟨k, rfl, hk⟩ := inI_nat hb
    obtain ⟨pa, pb, ea, eb, la, lb, ta, tb⟩ := rd_nat (okC_rods q1 k hk)
    obtain ⟨b4, hA4, _, _, _, hr4⟩ := ho.s4 (by omega)
    subst hA4
    have hk0 : (0 : Int) ≤ (k : Int) := by omega
    have hk1 : (k : Int) < (m : Int) := by omega
    have HX := Lib.hid hx
    have HO := Lib.hid ho
    have HR := Lib.hid hr4
    have Y0 := Lib.hid hx0
    clear hx ho hx0 hd q1 hr4
    go_enter Try.func142, Try.ntmps142
    go_wp2_with fail
    refine (impl_hasRod' g k _ _ _ _ _ _ _ _ n n n m (by omega) _ HX.out).mono ?_
    rintro e w' ⟨rfl, q, rfl⟩
    rw [hb]
    go_upto_region 3 with fail
    obtain ⟨wq, hwq⟩ : ∃ wq : World, wq = w.drewN q := ⟨_, rfl⟩
    have hBq : Below w.heap.size w wq := by rw [hwq]; exact below_n _ _ _
    rw [← hwq]
    clear hwq p0 p1 p2 p3 pf lp hi
    have HXq := Lib.hid (HX.out.go hBq)
    have HOq := Lib.hid (HO.out.go hBq)
    have HRq := Lib.hid (HR.out.go hBq)
    have Y0q := Lib.hid (Y0.out.go hBq)
    have HBq := Lib.hid hBq
    have yq := hBq.size
    have hw0 : Below wq.heap.size wq wq.drew := (Below.refl _ _).drew
    clear hBq HX HO HR Y0 HX0
    refine region_inv (stat [isE (.pointer (some ⟨g, 0, none⟩)), isE (.pointer (some ⟨g, 0, none⟩)), isE (.pointer (some ⟨g, 0, none⟩)), isE (.pointer (some ⟨g, 3, none⟩)), isE (.slice (some ⟨b4, 0, none⟩) m c4), isE (.int .i64 (k : Int)), isE (.pointer (some ⟨b4, k * 3, none⟩)), isE (.agg #[.int .i64 (pa : Int), .int .i64 (pb : Int), .float .f32 (D.R k).l]), isE (.tuple #[])]) (fun l W => Js [(8, fun W => ∃ D3, Below M w W ∧ SimD n n n m D3 (straD D pa pb (D.R k).l) ∧ Own W M A1 A2 A3 (some ⟨b4, 0, none⟩) c1 c2 c3 c4 n n n m D3 ∧ Bx W g 32 (.slice A1 n c1) (.slice A2 n c2) (.slice A3 n c3) (.slice (some ⟨b4, 0, none⟩) m c4))] (fun W => Below wq.heap.size wq W) l W) (by kernel_rfl) (by kernel_rfl) (by kernel_rfl) (Js.first hw0) ⟨?r0, ?r1, ?r2, ?r3, ?r4, ?r5, ?r6, ?r7, ?r8, trivial⟩ ?hend
    case r0 =>
      intro listed a u h hu hd K hK
      have e0 : a.tmps.getD 0 undef = .pointer (some ⟨g, 0, none⟩) := h.base (by kernel_rfl)
      have f0 : a.tmps[0]? = some (.pointer (some ⟨g, 0, none⟩)) := h.old (by kernel_rfl)
      rw [if_pos (by rfl)]
      go_simp
      exact hK _ _ (fact_stat _ _ _) (isE.mk rfl) (Js.neutral h.world rfl)
    case r1 =>
      intro listed a u h hu hd K hK
      have e0 : a.tmps.getD 0 undef = .pointer (some ⟨g, 0, none⟩) := h.base (by kernel_rfl)
      have f0 : a.tmps[0]? = some (.pointer (some ⟨g, 0, none⟩)) := h.old (by kernel_rfl)
      rw [if_pos (by rfl)]
      go_simp
      exact hK _ _ (fact_stat _ _ _) (isE.mk rfl) (Js.neutral h.world rfl)
    case r2 =>
      intro listed a u h hu hd K hK
      obtain ⟨v9, ev9, em9, F9⟩ := h.slot (i := 1) rfl rfl (hd _ (Array.mem_of_getElem? (i := 0) rfl) rfl)
      have e9 := ev9.trans (isE.out F9)
      have f9 := em9.trans (congrArg some (isE.out F9))
      clear ev9 em9 F9
      rw [if_pos (by rfl)]
      go_simp
      exact hK _ _ (fact_stat _ _ _) (isE.mk rfl) (Js.neutral h.world rfl)
    case r3 =>
      intro listed a u h hu hd K hK
      obtain ⟨v10, ev10, em10, F10⟩ := h.slot (i := 2) rfl rfl (hd _ (Array.mem_of_getElem? (i := 0) rfl) rfl)
      have e10 := ev10.trans (isE.out F10)
      have f10 := em10.trans (congrArg some (isE.out F10))
      clear ev10 em10 F10
      rw [if_pos (by rfl)]
      go_simp
      exact hK _ _ (fact_stat _ _ _) (isE.mk rfl) (Js.neutral h.world rfl)
    case r4 =>
      intro listed a u h hu hd K hK
      have hw := (RI.wait' h (RI.wait' h (RI.wait' h (getD_un hu) (T := 6) rfl (Array.mem_of_getElem? (i := 0) rfl) rfl rfl) (T := 7) rfl (Array.mem_of_getElem? (i := 0) rfl) rfl rfl) (T := 8) rfl (Array.mem_of_getElem? (i := 1) rfl) rfl rfl)
      have hA := Js.now h.world hw
      obtain ⟨v11, ev11, em11, F11⟩ := h.slot (i := 3) rfl rfl (hd _ (Array.mem_of_getElem? (i := 0) rfl) rfl)
      have e11 := ev11.trans (isE.out F11)
      have f11 := em11.trans (congrArg some (isE.out F11))
      clear ev11 em11 F11
      rw [if_pos (by rfl)]
      obtain ⟨g0, g1, g2, g3, gf⟩ := (HXq.out.go hA).facts
      have ic := (Y0q.out.go hA).c
      obtain ⟨i0, i1, i2, _, _, _⟩ := (HRq.out.go hA).at3 hk
      rw [rc0, ea] at i0
      rw [rc1, eb] at i1
      rw [rc2] at i2
      go_simp
      exact hK _ _ (fact_stat _ _ _) (isE.mk rfl) (Js.stay hw (by decide) hA)
    case r5 =>
      intro listed a u h hu hd K hK
      have hw := (RI.wait' h (RI.wait' h (RI.wait' h (getD_un hu) (T := 6) rfl (Array.mem_of_getElem? (i := 1) rfl) rfl rfl) (T := 7) rfl (Array.mem_of_getElem? (i := 0) rfl) rfl rfl) (T := 8) rfl (Array.mem_of_getElem? (i := 1) rfl) rfl rfl)
      have hA := Js.now h.world hw
      have e1 : a.tmps.getD 1 undef = .pointer (some ⟨a0, 0, none⟩) := h.base (by kernel_rfl)
      have f1 : a.tmps[1]? = some (.pointer (some ⟨a0, 0, none⟩)) := h.old (by kernel_rfl)
      rw [if_pos (by rfl)]
      obtain ⟨g0, g1, g2, g3, gf⟩ := (HXq.out.go hA).facts
      have ic := (Y0q.out.go hA).c
      obtain ⟨i0, i1, i2, _, _, _⟩ := (HRq.out.go hA).at3 hk
      rw [rc0, ea] at i0
      rw [rc1, eb] at i1
      rw [rc2] at i2
      go_simp
      exact hK _ _ (fact_stat _ _ _) (isE.mk rfl) (Js.stay hw (by decide) hA)
    case r6 =>
      intro listed a u h hu hd K hK
      obtain ⟨v12, ev12, em12, F12⟩ := h.slot (i := 4) rfl rfl (hd _ (Array.mem_of_getElem? (i := 0) rfl) rfl)
      have e12 := ev12.trans (isE.out F12)
      have f12 := em12.trans (congrArg some (isE.out F12))
      clear ev12 em12 F12
      obtain ⟨v13, ev13, em13, F13⟩ := h.slot (i := 5) rfl rfl (hd _ (Array.mem_of_getElem? (i := 1) rfl) rfl)
      have e13 := ev13.trans (isE.out F13)
      have f13 := em13.trans (congrArg some (isE.out F13))
      clear ev13 em13 F13
      rw [if_pos (by rfl)]
      go_simp
      exact hK _ _ (fact_stat _ _ _) (isE.mk rfl) (Js.neutral h.world rfl)
    case r7 =>
      intro listed a u h hu hd K hK
      have hw := (RI.wait' h (getD_un hu) (T := 8) rfl (Array.mem_of_getElem? (i := 1) rfl) rfl rfl)
      have hA := Js.now h.world hw
      obtain ⟨v14, ev14, em14, F14⟩ := h.slot (i := 6) rfl rfl (hd _ (Array.mem_of_getElem? (i := 0) rfl) rfl)
      have e14 := ev14.trans (isE.out F14)
      have f14 := em14.trans (congrArg some (isE.out F14))
      clear ev14 em14 F14
      rw [if_pos (by rfl)]
      obtain ⟨g0, g1, g2, g3, gf⟩ := (HXq.out.go hA).facts
      have ic := (Y0q.out.go hA).c
      obtain ⟨i0, i1, i2, _, _, _⟩ := (HRq.out.go hA).at3 hk
      rw [rc0, ea] at i0
      rw [rc1, eb] at i1
      rw [rc2] at i2
      go_simp
      exact hK _ _ (fact_stat _ _ _) (isE.mk rfl) (Js.stay hw (by decide) hA)
    case r8 =>
      intro listed a u h hu hd K hK
      have hw := getD_un hu
      have hA := Js.now h.world hw
      obtain ⟨v8, ev8, em8, F8⟩ := h.slot (i := 0) rfl rfl (hd _ (Array.mem_of_getElem? (i := 0) rfl) rfl)
      have e8 := ev8.trans (isE.out F8)
      have f8 := em8.trans (congrArg some (isE.out F8))
      clear ev8 em8 F8
      obtain ⟨v15, ev15, em15, F15⟩ := h.slot (i := 7) rfl rfl (hd _ (Array.mem_of_getElem? (i := 1) rfl) rfl)
      have e15 := ev15.trans (isE.out F15)
      have f15 := em15.trans (congrArg some (isE.out F15))
      clear ev15 em15 F15
      rw [if_pos (by rfl)]
      go_simp
      refine Calls.mono (impl_straighten g M _ _ _ _ _ _ _ _ n m D pa pb (D.R k).l la lb u (HXq.out.go hA) (HOq.out.go hA) (Nat.le_trans (Nat.le_trans _hM yq) hA.size) s1) ?_
      rintro e u2 ⟨rfl, hb2, D3, hs3, ho3, hx3⟩
      exact hK _ _ (fact_stat _ _ _) (isE.mk rfl) (Js.hit (un_lt hu) (Js.nil ⟨D3, ((HBq.out.mono _hM).trans (hA.mono (Nat.le_trans _hM yq))).trans hb2, hs3, ho3, hx3⟩))
    case hend =>
      intro listed a u h hall
      have hB : (fun W => ∃ D3, Below M w W ∧ SimD n n n m D3 (straD D pa pb (D.R k).l) ∧ Own W M A1 A2 A3 (some ⟨b4, 0, none⟩) c1 c2 c3 c4 n n n m D3 ∧ Bx W g 32 (.slice A1 n c1) (.slice A2 n c2) (.slice A3 n c3) (.slice (some ⟨b4, 0, none⟩) m c4)) u := (Js.past h.world (hall 8 (by decide)))
      obtain ⟨v8, ev8, em8, F8⟩ := h.slot (i := 0) rfl rfl (hall 0 (by decide))
      have f8 := em8.trans (congrArg some (isE.out F8))
      clear ev8 em8 F8
      obtain ⟨v9, ev9, em9, F9⟩ := h.slot (i := 1) rfl rfl (hall 1 (by decide))
      have f9 := em9.trans (congrArg some (isE.out F9))
      clear ev9 em9 F9
      obtain ⟨v10, ev10, em10, F10⟩ := h.slot (i := 2) rfl rfl (hall 2 (by decide))
      have f10 := em10.trans (congrArg some (isE.out F10))
      clear ev10 em10 F10
      obtain ⟨v11, ev11, em11, F11⟩ := h.slot (i := 3) rfl rfl (hall 3 (by decide))
      have f11 := em11.trans (congrArg some (isE.out F11))
      clear ev11 em11 F11
      obtain ⟨v12, ev12, em12, F12⟩ := h.slot (i := 4) rfl rfl (hall 4 (by decide))
      have f12 := em12.trans (congrArg some (isE.out F12))
      clear ev12 em12 F12
      obtain ⟨v13, ev13, em13, F13⟩ := h.slot (i := 5) rfl rfl (hall 5 (by decide))
      have f13 := em13.trans (congrArg some (isE.out F13))
      clear ev13 em13 F13
      obtain ⟨v14, ev14, em14, F14⟩ := h.slot (i := 6) rfl rfl (hall 6 (by decide))
      have f14 := em14.trans (congrArg some (isE.out F14))
      clear ev14 em14 F14
      obtain ⟨v15, ev15, em15, F15⟩ := h.slot (i := 7) rfl rfl (hall 7 (by decide))
      have f15 := em15.trans (congrArg some (isE.out F15))
      clear ev15 em15 F15
      obtain ⟨v16, ev16, em16, F16⟩ := h.slot (i := 8) rfl rfl (hall 8 (by decide))
      have f16 := em16.trans (congrArg some (isE.out F16))
      clear ev16 em16 F16
      have ha := h.act [8, 9, 10, 11, 12, 13, 14, 15, 16] [_, _, _, _, _, _, _, _, _] (by kernel_rfl) ⟨f8, f9, f10, f11, f12, f13, f14, f15, f16, trivial⟩
      clear f8 f9 f10 f11 f12 f13 f14 f15 f16
      simp only [setAll, List.setIfInBounds_toArray, List.set_cons_zero, List.set_cons_succ] at ha
      subst ha
      clear h hall
      obtain ⟨D3, hb3, hs3, ho3, hx3⟩ := hB
      have BB := Lib.hid hb3
      have S3 := Lib.hid hs3
      have O3 := Lib.hid ho3
      have X3 := Lib.hid hx3
      clear hb3 hs3 ho3 hx3 hw0
      go_wp2_with fail
      go_ret
      refine ⟨rfl, BB.out, fun _ => ⟨A1, A2, A3, _, c1, c2, c3, c4, D3, ?_, X3.out, O3.out, O3.out.bds⟩⟩
      have h3 := S3.out
      rw [← ta, ← tb] at h3
      exact h3
theorem run_StraightenRod1 (args : Array Value) (u : World) : (callFunc 142 args).run Try.prog u = .ok (.enter 142 args) u := call_enter Try.func142 (by kernel_rfl) (by kernel_rfl) _ _
theorem impl_StraightenRod (A1 A2 A3 A4 : Option Addr) (c1 c2 c3 c4 n1 n2 n3 n4 B : Nat) (D : D4) (i : Int) (w : World) (h : Own w B A1 A2 A3 A4 c1 c2 c3 c4 n1 n2 n3 n4 D) :
    Calls Try.prog 69 #[.agg #[.slice A1 n1 c1, .slice A2 n2 c2, .slice A3 n3 c3, .slice A4 n4 c4], .int .i64 i] w (RetM (okC n1 n2 n3 n4 D && (inI i 0 ((n4 : Int) - 1) && okC n1 n2 n3 n4 (strR D (D.R i.toNat)))) n1 n2 n3 n4 (strR D (D.R i.toNat)) w) := by
  have H := Lib.hid h
  clear h
  have z1 : (w.alloc (.cells #[.slice A1 n1 c1, .slice A2 n2 c2, .slice A3 n3 c3, .slice A4 n4 c4] 32)).heap.size = w.heap.size + 1 := by simp
  have X0 : Ox (((w.alloc (.cells #[.slice A1 n1 c1, .slice A2 n2 c2, .slice A3 n3 c3, .slice A4 n4 c4] 32)).alloc (.cells #[.int .i64 i] 2)).alloc (.cells #[sn, sn, sn, sn] 32)) (w.heap.size + 1) 2 (.int .i64 i) := by rw [← z1]; exact (Ox.new_ _ _ _).alloc _
  have zn : ((w.alloc (.cells #[.slice A1 n1 c1, .slice A2 n2 c2, .slice A3 n3 c3, .slice A4 n4 c4] 32)).alloc (.cells #[.int .i64 i] 2)).heap.size = w.heap.size + 1 + 1 := by simp
  go_enter Try.func69, Try.ntmps69
  go_wp2_with fail
  refine (impl_changedChain 142 #[.pointer (some ⟨w.heap.size + 1, 0, none⟩)] (inI i 0 ((n4 : Int) - 1)) (n1) (n2) (n3) (n4) (strR D (D.R i.toNat)) A1 A2 A3 A4 c1 c2 c3 c4 n1 n2 n3 n4 B D _ (H.out.go ?hq) run_StraightenRod1 ?hdo).mono ?_
  case hq => exact (by repeat' (first | with_reducible exact Below.refl _ _ | with_reducible assumption | with_reducible refine below_dn ?_ _ | with_reducible refine Below.drew ?_ | with_reducible refine below_step ?_ (by assumption) | with_reducible refine Below.setCell ?_ ?_ _ | with_reducible refine Below.alloc ?_ ?_ _ | with_reducible exact Nat.le_refl _ | (simp; done) | (simp; omega) | omega))
  case hdo =>
    intro q1 g M E1 E2 E3 E4 d1 d2 d3 d4 u hx ho hd hz hg hM0 _ hb
    have Y0 := X0.go hb
    obtain ⟨s1, rfl, rfl, s4⟩ := okC_sz q1
    exact impl_StraightenRod1 g M _ E1 E2 E3 E4 d1 d2 d3 d4 n3 n4 D i u hx ho hd hz hg (by omega) q1 Y0
  rintro e w1 ⟨hr, hb1⟩
  have V1 := Lib.hid ((Bx.new_ ((w.alloc (.cells #[.slice A1 n1 c1, .slice A2 n2 c2, .slice A3 n3 c3, .slice A4 n4 c4] 32)).alloc (.cells #[.int .i64 i] 2)) 32 sn sn sn sn).go hb1)
  have B1 := Lib.hid (show Below w.heap.size w w1 from below_step (w := w) ((by repeat' (first | with_reducible exact Below.refl _ _ | with_reducible assumption | with_reducible refine below_dn ?_ _ | with_reducible refine Below.drew ?_ | with_reducible refine below_step ?_ (by assumption) | with_reducible refine Below.setCell ?_ ?_ _ | with_reducible refine Below.alloc ?_ ?_ _ | with_reducible exact Nat.le_refl _ | (simp; done) | (simp; omega) | omega))) hb1)
  rw [zn] at V1
  have e2 : (((w.alloc (.cells #[.slice A1 n1 c1, .slice A2 n2 c2, .slice A3 n3 c3, .slice A4 n4 c4] 32)).alloc (.cells #[.int .i64 i] 2)).alloc (.cells #[sn, sn, sn, sn] 32)).heap.size = w.heap.size + 3 := by simp
  rw [e2] at hr
  clear hb1 zn e2 z1 X0
  obtain ⟨v0, v1, v2, v3, vf⟩ := V1.out.facts
  have lv := V1.out.lt
  cases hbb : (okC n1 n2 n3 n4 D && (inI i 0 ((n4 : Int) - 1) && okC n1 n2 n3 n4 (strR D (D.R i.toNat))))
  · rw [hbb] at hr
    obtain rfl := hr
    go_wp2_with fail
    obtain ⟨r0, r1, r2, r3, rf⟩ := (V1.out.setAll sn sn sn sn).facts
    refine bodyPost_ret (v := .tuple #[.agg #[sn, sn, sn, sn], .bool false]) (by simp [results, Try.results69, go_sem, r0, r1, r2, r3]) rfl ?_
    rw [hbb]
    exact ⟨rfl, Bx.bel B1.out (by omega) _ _ _ _⟩
  · rw [hbb] at hr
    obtain ⟨F1, F2, F3, F4, x1, x2, x3, x4, D', rfl, hs, ho, hd⟩ := hr
    have HS := Lib.hid hs
    have HO := Lib.hid ho
    have HD := Lib.hid hd
    clear hs ho hd
    have VF := Lib.hid (V1.out.setAll (.slice F1 (n1) x1) (.slice F2 (n2) x2) (.slice F3 (n3) x3) (.slice F4 (n4) x4))
    have WF := Lib.hid (show Wr (fun k => k = w.heap.size + 1 + 1) w1 ((((w1.setCell ⟨w.heap.size + 1 + 1, 0, none⟩ (.slice F1 (n1) x1)).setCell ⟨w.heap.size + 1 + 1, 1, none⟩ (.slice F2 (n2) x2)).setCell ⟨w.heap.size + 1 + 1, 2, none⟩ (.slice F3 (n3) x3)).setCell ⟨w.heap.size + 1 + 1, 3, none⟩ (.slice F4 (n4) x4)) from by
      refine Wr.setCell (Wr.setCell (Wr.setCell (Wr.setCell (Wr.refl _ _) ?_ _) ?_ _) ?_ _) ?_ _ <;> rfl)
    go_wp2_with fail
    obtain ⟨r0, r1, r2, r3, rf⟩ := VF.out.facts
    refine bodyPost_ret (v := .tuple #[.agg #[.slice F1 (n1) x1, .slice F2 (n2) x2, .slice F3 (n3) x3, .slice F4 (n4) x4], .bool true]) (by simp [results, Try.results69, go_sem, r0, r1, r2, r3]) rfl ?_
    rw [hbb]
    exact ⟨⟨F1, F2, F3, F4, x1, x2, x3, x4, D', rfl, HS.out, (HO.out.off V1.out WF.out).mono (by omega), HD.out.mono (by omega) WF.out.size⟩, Bx.bel B1.out (by omega) _ _ _ _⟩
set_option maxHeartbeats 4000000 in
set_option maxRecDepth 100000 in
theorem spec_StraightenRod (A1 A2 A3 A4 : Option Addr) (c1 c2 c3 c4 n1 n2 n3 n4 B : Nat) (D : D4) (i : Int) (w : World) (h : Own w B A1 A2 A3 A4 c1 c2 c3 c4 n1 n2 n3 n4 D) :
    Calls Try.prog 68 #[.agg #[.slice A1 n1 c1, .slice A2 n2 c2, .slice A3 n3 c3, .slice A4 n4 c4], .int .i64 i] w (RetM (okC n1 n2 n3 n4 D && (inI i 0 ((n4 : Int) - 1) && okC n1 n2 n3 n4 (strR D (D.R i.toNat)))) n1 n2 n3 n4 (strR D (D.R i.toNat)) w) := by
  have H := Lib.hid h
  clear h
  cases q1 : okC n1 n2 n3 n4 D
  · have qb : rodOkB n1 n2 n3 n4 D i = false := by unfold rodOkB; rw [q1]; rfl
    go_enter Try.func68, Try.ntmps68
    go_wp2_with fail
    refine (spec_l03Rod w.heap.size A1 A2 A3 A4 c1 c2 c3 c4 n1 n2 n3 n4 B D i _ ((Bx.new_ _ _ _ _ _ _).alloc _) (H.out.go (by repeat' (first | with_reducible exact Below.refl _ _ | with_reducible assumption | with_reducible refine below_dn ?_ _ | with_reducible refine Below.drew ?_ | with_reducible refine below_step ?_ (by assumption) | with_reducible refine Below.setCell ?_ ?_ _ | with_reducible refine Below.alloc ?_ ?_ _ | with_reducible exact Nat.le_refl _ | (simp; done) | (simp; omega) | omega)))).mono ?_
    rintro e w1 ⟨rfl, hb1⟩
    have V1 := Lib.hid ((Bx.new_ (w.alloc (.cells #[.slice A1 n1 c1, .slice A2 n2 c2, .slice A3 n3 c3, .slice A4 n4 c4] 32)) 32 sn sn sn sn).go hb1)
    have B1 := Lib.hid (show Below w.heap.size w w1 from below_step (w := w) ((by repeat' (first | with_reducible exact Below.refl _ _ | with_reducible assumption | with_reducible refine below_dn ?_ _ | with_reducible refine Below.drew ?_ | with_reducible refine below_step ?_ (by assumption) | with_reducible refine Below.setCell ?_ ?_ _ | with_reducible refine Below.alloc ?_ ?_ _ | with_reducible exact Nat.le_refl _ | (simp; done) | (simp; omega) | omega))) hb1)
    have e1 : (w.alloc (.cells #[.slice A1 n1 c1, .slice A2 n2 c2, .slice A3 n3 c3, .slice A4 n4 c4] 32)).heap.size = w.heap.size + 1 := by simp
    rw [e1] at V1
    clear hb1 e1
    obtain ⟨v0, v1, v2, v3, vf⟩ := V1.out.facts
    have lv := V1.out.lt
    rw [qb]
    go_wp2_with fail
    obtain ⟨r0, r1, r2, r3, rf⟩ := (V1.out.setAll sn sn sn sn).facts
    refine bodyPost_ret (v := .tuple #[.agg #[sn, sn, sn, sn], .bool false]) (by simp [results, Try.results68, go_sem, r0, r1, r2, r3]) rfl ?_
    exact ⟨rfl, Bx.bel B1.out (by omega) _ _ _ _⟩
  · obtain ⟨s1, rfl, rfl, s4⟩ := okC_sz q1
    cases q2 : inI i 0 ((n4 : Int) - 1)
    · have qb : rodOkB n3 n3 n3 n4 D i = false := by unfold rodOkB; rw [q1, q2]; rfl
      go_enter Try.func68, Try.ntmps68
      go_wp2_with fail
      refine (spec_l03Rod w.heap.size A1 A2 A3 A4 c1 c2 c3 c4 n3 n3 n3 n4 B D i _ ((Bx.new_ _ _ _ _ _ _).alloc _) (H.out.go (by repeat' (first | with_reducible exact Below.refl _ _ | with_reducible assumption | with_reducible refine below_dn ?_ _ | with_reducible refine Below.drew ?_ | with_reducible refine below_step ?_ (by assumption) | with_reducible refine Below.setCell ?_ ?_ _ | with_reducible refine Below.alloc ?_ ?_ _ | with_reducible exact Nat.le_refl _ | (simp; done) | (simp; omega) | omega)))).mono ?_
      rintro e w1 ⟨rfl, hb1⟩
      have V1 := Lib.hid ((Bx.new_ (w.alloc (.cells #[.slice A1 n3 c1, .slice A2 n3 c2, .slice A3 n3 c3, .slice A4 n4 c4] 32)) 32 sn sn sn sn).go hb1)
      have B1 := Lib.hid (show Below w.heap.size w w1 from below_step (w := w) ((by repeat' (first | with_reducible exact Below.refl _ _ | with_reducible assumption | with_reducible refine below_dn ?_ _ | with_reducible refine Below.drew ?_ | with_reducible refine below_step ?_ (by assumption) | with_reducible refine Below.setCell ?_ ?_ _ | with_reducible refine Below.alloc ?_ ?_ _ | with_reducible exact Nat.le_refl _ | (simp; done) | (simp; omega) | omega))) hb1)
      have e1 : (w.alloc (.cells #[.slice A1 n3 c1, .slice A2 n3 c2, .slice A3 n3 c3, .slice A4 n4 c4] 32)).heap.size = w.heap.size + 1 := by simp
      rw [e1] at V1
      clear hb1 e1
      obtain ⟨v0, v1, v2, v3, vf⟩ := V1.out.facts
      have lv := V1.out.lt
      rw [qb]
      go_wp2_with fail
      obtain ⟨r0, r1, r2, r3, rf⟩ := (V1.out.setAll sn sn sn sn).facts
      refine bodyPost_ret (v := .tuple #[.agg #[sn, sn, sn, sn], .bool false]) (by simp [results, Try.results68, go_sem, r0, r1, r2, r3]) rfl ?_
      exact ⟨rfl, Bx.bel B1.out (by omega) _ _ _ _⟩
    · have qb : rodOkB n3 n3 n3 n4 D i = true := by unfold rodOkB; rw [q1, q2]; rfl
      go_enter Try.func68, Try.ntmps68
      go_wp2_with fail
      refine (spec_l03Rod w.heap.size A1 A2 A3 A4 c1 c2 c3 c4 n3 n3 n3 n4 B D i _ ((Bx.new_ _ _ _ _ _ _).alloc _) (H.out.go (by repeat' (first | with_reducible exact Below.refl _ _ | with_reducible assumption | with_reducible refine below_dn ?_ _ | with_reducible refine Below.drew ?_ | with_reducible refine below_step ?_ (by assumption) | with_reducible refine Below.setCell ?_ ?_ _ | with_reducible refine Below.alloc ?_ ?_ _ | with_reducible exact Nat.le_refl _ | (simp; done) | (simp; omega) | omega)))).mono ?_
      rintro e w1 ⟨rfl, hb1⟩
      have P1 := Lib.hid (((Bx.new_ w 32 (.slice A1 n3 c1) (.slice A2 n3 c2) (.slice A3 n3 c3) (.slice A4 n4 c4)).alloc _).go hb1)
      have V1 := Lib.hid ((Bx.new_ (w.alloc (.cells #[.slice A1 n3 c1, .slice A2 n3 c2, .slice A3 n3 c3, .slice A4 n4 c4] 32)) 32 sn sn sn sn).go hb1)
      have B1 := Lib.hid (show Below w.heap.size w w1 from below_step (w := w) ((by repeat' (first | with_reducible exact Below.refl _ _ | with_reducible assumption | with_reducible refine below_dn ?_ _ | with_reducible refine Below.drew ?_ | with_reducible refine below_step ?_ (by assumption) | with_reducible refine Below.setCell ?_ ?_ _ | with_reducible refine Below.alloc ?_ ?_ _ | with_reducible exact Nat.le_refl _ | (simp; done) | (simp; omega) | omega))) hb1)
      have e1 : (w.alloc (.cells #[.slice A1 n3 c1, .slice A2 n3 c2, .slice A3 n3 c3, .slice A4 n4 c4] 32)).heap.size = w.heap.size + 1 := by simp
      rw [e1] at V1
      clear hb1 e1
      rw [qb]
      go_wp2_with fail
      refine (spec_l03Own w.heap.size A1 A2 A3 A4 c1 c2 c3 c4 n3 n3 n3 n4 D (by omega) (by omega) (by omega) (by omega) _ P1.out ((H.out.go B1.out).s1.in_) ((H.out.go B1.out).s2.in_) ((H.out.go B1.out).s3.in_) ((H.out.go B1.out).s4.in_)).mono ?_
      rintro e w2 ⟨E1, E2, E3, E4, d1, d2, d3, d4, rfl, ho2, hd2, hz2, hb2⟩
      have P2 := Lib.hid (P1.out.go hb2)
      have V2 := Lib.hid (V1.out.go hb2)
      have B2 := Lib.hid (below_step B1.out hb2)
      have O2 := Lib.hid ho2
      have D2 := Lib.hid hd2
      have HZ2 := Lib.hid hz2
      clear hz2
      have y1 := V1.out.lt
      have y2 := hb2.size
      have y0 := B1.out.size
      clear hb2 ho2 hd2 P1 V1 
      obtain ⟨k, rfl, hk⟩ := inI_nat q2
      obtain ⟨pa, pb, ea, eb, la, lb, ta, tb⟩ := rd_nat (okC_rods q1 k hk)
      go_wp2_with fail
      refine (spec_straighten w2.heap.size w1.heap.size E1 E2 E3 E4 d1 d2 d3 d4 n3 n4 D pa pb (D.R k).l k hk ea eb rfl la lb _ (Bx.new_ _ _ _ _ _ _) (O2.out.go (by repeat' (first | with_reducible exact Below.refl _ _ | with_reducible assumption | with_reducible refine below_dn ?_ _ | with_reducible refine Below.drew ?_ | with_reducible refine below_step ?_ (by assumption) | with_reducible refine Below.setCell ?_ ?_ _ | with_reducible refine Below.alloc ?_ ?_ _ | with_reducible exact Nat.le_refl _ | (simp; done) | (simp; omega) | omega))) (by simp; omega) (by omega)).mono ?_
      rintro e wm ⟨rfl, hb, D1, hs, ho, hx⟩
      have XM := Lib.hid hx
      have OM := Lib.hid ho
      have VM := Lib.hid ((V2.out.alloc _).below hb (by omega))
      have BM := Lib.hid ((Below.alloc B2.out (by omega) _).trans (hb.mono y0))
      have SM := Lib.hid (show SimD n3 n3 n3 n4 D1 (strR D (D.R (k : Int).toNat)) from by unfold strR; rw [← ta, ← tb] at hs; exact hs)
      have DM := Lib.hid ho.bds
      clear hb hx ho hs V2 O2 D2 B2 P2
      obtain ⟨t0, t1, t2, t3, tf⟩ := XM.out.facts
      have lt := XM.out.lt
      go_wp2_with fail
      refine (spec_l03Give E1 E2 E3 E4 d1 d2 d3 d4 (n3) (n3) (n3) (n4) _ (D1) _ OM.out).mono ?_
      rintro e w4 ⟨rfl, hb4⟩
      have V4 := Lib.hid (VM.out.go hb4)
      have B4 := Lib.hid (below_step BM.out hb4)
      have O4 := Lib.hid (OM.out.go hb4)
      have D4_ := Lib.hid (DM.out.mono (Nat.le_refl _) hb4.size)
      clear hb4 t0 t1 t2 t3 tf lt VM BM OM DM
      obtain ⟨v0, v1, v2, v3, vf⟩ := V4.out.facts
      have lv := V4.out.lt
      rw [okC_sim SM.out]
      cases q3 : okC (n3) (n3) (n3) (n4) (strR D (D.R (k : Int).toNat))
      · unfold giveV
        go_wp2_with fail
        obtain ⟨r0, r1, r2, r3, rf⟩ := (V4.out.setAll sn sn sn sn).facts
        refine bodyPost_ret (v := .tuple #[.agg #[sn, sn, sn, sn], .bool false]) (by simp [results, Try.results68, go_sem, r0, r1, r2, r3]) rfl ?_
        rw [q3]
        exact ⟨rfl, Bx.bel B4.out (by omega) _ _ _ _⟩
      · unfold giveV
        have WF := Lib.hid (show Wr (fun k => k = w.heap.size + 1) w4 ((((w4.setCell ⟨w.heap.size + 1, 0, none⟩ (.slice E1 (n3) d1)).setCell ⟨w.heap.size + 1, 1, none⟩ (.slice E2 (n3) d2)).setCell ⟨w.heap.size + 1, 2, none⟩ (.slice E3 (n3) d3)).setCell ⟨w.heap.size + 1, 3, none⟩ (.slice E4 (n4) d4)) from by
          refine Wr.setCell (Wr.setCell (Wr.setCell (Wr.setCell (Wr.refl _ _) ?_ _) ?_ _) ?_ _) ?_ _ <;> rfl)
        go_wp2_with fail
        obtain ⟨r0, r1, r2, r3, rf⟩ := (V4.out.setAll (.slice E1 (n3) d1) (.slice E2 (n3) d2) (.slice E3 (n3) d3) (.slice E4 (n4) d4)).facts
        refine bodyPost_ret (v := .tuple #[.agg #[.slice E1 (n3) d1, .slice E2 (n3) d2, .slice E3 (n3) d3, .slice E4 (n4) d4], .bool true]) (by simp [results, Try.results68, go_sem, r0, r1, r2, r3]) rfl ?_
        rw [q3]
        exact ⟨⟨E1, E2, E3, E4, d1, d2, d3, d4, D1, rfl, SM.out, (O4.out.off V4.out WF.out).mono y0, D4_.out.mono y0 WF.out.size⟩, Bx.bel B4.out (by omega) _ _ _ _⟩
theorem inI_20 {i : Int} {n : Nat} (h : inI i 0 (n : Int) = true) : ∃ k : Nat, i = (k : Int) ∧ k ≤ n := by
  unfold inI at h
  simp only [Bool.and_eq_true, decide_eq_true_eq] at h
  exact ⟨i.toNat, by omega, by omega⟩
theorem spec_l03Rounds (q : Int) (w : World) : Calls Try.prog 144 #[.int .i64 q] w (RetQ (.bool (inI q 0 20)) w) := by
  go_enter Try.func144, Try.ntmps144
  go_wp2_with fail
  refine (spec_l00In _ _ _ _).mono ?_
  rintro e w' ⟨rfl, n, rfl⟩
  go_wp2_with fail
  go_ret
  exact ⟨rfl, n, rfl⟩
theorem impl_roundsOk (q : Int) (w : World) : Calls Try.prog 147 #[.int .i64 q] w (RetQ (.bool (inI q 0 20)) w) := by
  go_enter Try.func147, Try.ntmps147
  go_wp2_with fail
  refine (impl_in _ _ _ _).mono ?_
  rintro e w' ⟨rfl, n, rfl⟩
  go_wp2_with fail
  go_ret
  exact ⟨rfl, n, rfl⟩
set_option maxHeartbeats 4000000 in
set_option maxRecDepth 100000 in
theorem impl_StraightenAll1 (g M : Nat) (a0 : Nat) (A1 A2 A3 A4 : Option Addr) (c1 c2 c3 c4 n m : Nat) (D : D4) (q : Int) (w : World) (hx : Bx w g 32 (.slice A1 n c1) (.slice A2 n c2) (.slice A3 n c3) (.slice A4 m c4)) (ho : Own w M A1 A2 A3 A4 c1 c2 c3 c4 n n n m D) (hd : Bds M w.heap.size A1 A2 A3 A4 n n n m) (_hz : Zc c1 c2 c3 c4 n n n m) (_hg : M ≤ g) (_hM : M ≤ w.heap.size) (q1 : okC n n n m D = true) (hx0 : Ox w a0 2 (.int .i64 q)) :
    Calls Try.prog 146 #[.pointer (some ⟨g, 0, none⟩), .pointer (some ⟨a0, 0, none⟩)] w (RetDo g M (inI q 0 20) (n) (n) (n) (m) (rndD D m q.toNat) w) := by
  have HX := Lib.hid hx
  have HO := Lib.hid ho
  have _HD := Lib.hid hd
  have Y0 := Lib.hid hx0
  have hi := hx0.c
  obtain ⟨s1, _, _, s4⟩ := okC_sz q1
  have hro := okC_rods q1
  cases hb : inI q 0 20
  · clear hx ho hx0 q1 hd
    go_enter Try.func146, Try.ntmps146
    go_wp2_with fail
    refine (impl_roundsOk q _).mono ?_
    rintro e w' ⟨rfl, z, rfl⟩
    rw [hb]
    go_wp2_with fail
    go_ret
    exact ⟨rfl, below_n _ _ _, fun h => absurd h (by decide)⟩
  · obtain ⟨k, rfl, hk⟩ := inI_20 (n := 20) hb
    clear hx ho hx0 hd q1
    go_enter Try.func146, Try.ntmps146
    go_wp2_with fail
    refine (impl_roundsOk k _).mono ?_
    rintro e w' ⟨rfl, z, rfl⟩
    rw [hb]
    have hi2 : (w.drewN z).cell? ⟨a0, 0, none⟩ = some (.int .i64 (k : Int)) := hi
    go_wp2_with fail
    refine (impl_all g M A1 A2 A3 A4 c1 c2 c3 c4 n m D k _ (HX.out.drewN _) (HO.out.drewN _) _hM s1 s4 hk hro).mono ?_
    rintro e w1 ⟨rfl, hb1, D1, hs, ho, hx⟩
    have BB := Lib.hid hb1
    have SS := Lib.hid hs
    have XX := Lib.hid hx
    have OO := Lib.hid ho
    clear hb1 hs ho hx
    go_wp2_with fail
    go_ret
    exact ⟨rfl, Below.trans (below_n _ _ _) BB.out, fun _ => ⟨A1, A2, A3, A4, c1, c2, c3, c4, D1, SS.out, XX.out, OO.out, OO.out.bds⟩⟩
theorem run_StraightenAll1 (args : Array Value) (u : World) : (callFunc 146 args).run Try.prog u = .ok (.enter 146 args) u := call_enter Try.func146 (by kernel_rfl) (by kernel_rfl) _ _
theorem impl_StraightenAll (A1 A2 A3 A4 : Option Addr) (c1 c2 c3 c4 n1 n2 n3 n4 B : Nat) (D : D4) (q : Int) (w : World) (h : Own w B A1 A2 A3 A4 c1 c2 c3 c4 n1 n2 n3 n4 D) :
    Calls Try.prog 71 #[.agg #[.slice A1 n1 c1, .slice A2 n2 c2, .slice A3 n3 c3, .slice A4 n4 c4], .int .i64 q] w (RetM (okC n1 n2 n3 n4 D && (inI q 0 20 && okC n1 n2 n3 n4 (rndD D n4 q.toNat))) n1 n2 n3 n4 (rndD D n4 q.toNat) w) := by
  have H := Lib.hid h
  clear h
  have z1 : (w.alloc (.cells #[.slice A1 n1 c1, .slice A2 n2 c2, .slice A3 n3 c3, .slice A4 n4 c4] 32)).heap.size = w.heap.size + 1 := by simp
  have X0 : Ox (((w.alloc (.cells #[.slice A1 n1 c1, .slice A2 n2 c2, .slice A3 n3 c3, .slice A4 n4 c4] 32)).alloc (.cells #[.int .i64 q] 2)).alloc (.cells #[sn, sn, sn, sn] 32)) (w.heap.size + 1) 2 (.int .i64 q) := by rw [← z1]; exact (Ox.new_ _ _ _).alloc _
  have zn : ((w.alloc (.cells #[.slice A1 n1 c1, .slice A2 n2 c2, .slice A3 n3 c3, .slice A4 n4 c4] 32)).alloc (.cells #[.int .i64 q] 2)).heap.size = w.heap.size + 1 + 1 := by simp
  go_enter Try.func71, Try.ntmps71
  go_wp2_with fail
  refine (impl_changedChain 146 #[.pointer (some ⟨w.heap.size + 1, 0, none⟩)] (inI q 0 20) (n1) (n2) (n3) (n4) (rndD D n4 q.toNat) A1 A2 A3 A4 c1 c2 c3 c4 n1 n2 n3 n4 B D _ (H.out.go ?hq) run_StraightenAll1 ?hdo).mono ?_
  case hq => exact (by repeat' (first | with_reducible exact Below.refl _ _ | with_reducible assumption | with_reducible refine below_dn ?_ _ | with_reducible refine Below.drew ?_ | with_reducible refine below_step ?_ (by assumption) | with_reducible refine Below.setCell ?_ ?_ _ | with_reducible refine Below.alloc ?_ ?_ _ | with_reducible exact Nat.le_refl _ | (simp; done) | (simp; omega) | omega))
  case hdo =>
    intro q1 g M E1 E2 E3 E4 d1 d2 d3 d4 u hx ho hd hz hg hM0 _ hb
    have Y0 := X0.go hb
    obtain ⟨s1, rfl, rfl, s4⟩ := okC_sz q1
    exact impl_StraightenAll1 g M _ E1 E2 E3 E4 d1 d2 d3 d4 n3 n4 D q u hx ho hd hz hg (by omega) q1 Y0
  rintro e w1 ⟨hr, hb1⟩
  have V1 := Lib.hid ((Bx.new_ ((w.alloc (.cells #[.slice A1 n1 c1, .slice A2 n2 c2, .slice A3 n3 c3, .slice A4 n4 c4] 32)).alloc (.cells #[.int .i64 q] 2)) 32 sn sn sn sn).go hb1)
  have B1 := Lib.hid (show Below w.heap.size w w1 from below_step (w := w) ((by repeat' (first | with_reducible exact Below.refl _ _ | with_reducible assumption | with_reducible refine below_dn ?_ _ | with_reducible refine Below.drew ?_ | with_reducible refine below_step ?_ (by assumption) | with_reducible refine Below.setCell ?_ ?_ _ | with_reducible refine Below.alloc ?_ ?_ _ | with_reducible exact Nat.le_refl _ | (simp; done) | (simp; omega) | omega))) hb1)
  rw [zn] at V1
  have e2 : (((w.alloc (.cells #[.slice A1 n1 c1, .slice A2 n2 c2, .slice A3 n3 c3, .slice A4 n4 c4] 32)).alloc (.cells #[.int .i64 q] 2)).alloc (.cells #[sn, sn, sn, sn] 32)).heap.size = w.heap.size + 3 := by simp
  rw [e2] at hr
  clear hb1 zn e2 z1 X0
  obtain ⟨v0, v1, v2, v3, vf⟩ := V1.out.facts
  have lv := V1.out.lt
  cases hbb : (okC n1 n2 n3 n4 D && (inI q 0 20 && okC n1 n2 n3 n4 (rndD D n4 q.toNat)))
  · rw [hbb] at hr
    obtain rfl := hr
    go_wp2_with fail
    obtain ⟨r0, r1, r2, r3, rf⟩ := (V1.out.setAll sn sn sn sn).facts
    refine bodyPost_ret (v := .tuple #[.agg #[sn, sn, sn, sn], .bool false]) (by simp [results, Try.results71, go_sem, r0, r1, r2, r3]) rfl ?_
    rw [hbb]
    exact ⟨rfl, Bx.bel B1.out (by omega) _ _ _ _⟩
  · rw [hbb] at hr
    obtain ⟨F1, F2, F3, F4, x1, x2, x3, x4, D', rfl, hs, ho, hd⟩ := hr
    have HS := Lib.hid hs
    have HO := Lib.hid ho
    have HD := Lib.hid hd
    clear hs ho hd
    have VF := Lib.hid (V1.out.setAll (.slice F1 (n1) x1) (.slice F2 (n2) x2) (.slice F3 (n3) x3) (.slice F4 (n4) x4))
    have WF := Lib.hid (show Wr (fun k => k = w.heap.size + 1 + 1) w1 ((((w1.setCell ⟨w.heap.size + 1 + 1, 0, none⟩ (.slice F1 (n1) x1)).setCell ⟨w.heap.size + 1 + 1, 1, none⟩ (.slice F2 (n2) x2)).setCell ⟨w.heap.size + 1 + 1, 2, none⟩ (.slice F3 (n3) x3)).setCell ⟨w.heap.size + 1 + 1, 3, none⟩ (.slice F4 (n4) x4)) from by
      refine Wr.setCell (Wr.setCell (Wr.setCell (Wr.setCell (Wr.refl _ _) ?_ _) ?_ _) ?_ _) ?_ _ <;> rfl)
    go_wp2_with fail
    obtain ⟨r0, r1, r2, r3, rf⟩ := VF.out.facts
    refine bodyPost_ret (v := .tuple #[.agg #[.slice F1 (n1) x1, .slice F2 (n2) x2, .slice F3 (n3) x3, .slice F4 (n4) x4], .bool true]) (by simp [results, Try.results71, go_sem, r0, r1, r2, r3]) rfl ?_
    rw [hbb]
    exact ⟨⟨F1, F2, F3, F4, x1, x2, x3, x4, D', rfl, HS.out, (HO.out.off V1.out WF.out).mono (by omega), HD.out.mono (by omega) WF.out.size⟩, Bx.bel B1.out (by omega) _ _ _ _⟩
set_option maxHeartbeats 4000000 in
set_option maxRecDepth 100000 in
theorem spec_StraightenAll (A1 A2 A3 A4 : Option Addr) (c1 c2 c3 c4 n1 n2 n3 n4 B : Nat) (D : D4) (q : Int) (w : World) (h : Own w B A1 A2 A3 A4 c1 c2 c3 c4 n1 n2 n3 n4 D) :
    Calls Try.prog 70 #[.agg #[.slice A1 n1 c1, .slice A2 n2 c2, .slice A3 n3 c3, .slice A4 n4 c4], .int .i64 q] w (RetM (okC n1 n2 n3 n4 D && (inI q 0 20 && okC n1 n2 n3 n4 (rndD D n4 q.toNat))) n1 n2 n3 n4 (rndD D n4 q.toNat) w) := by
  have H := Lib.hid h
  clear h
  cases q1 : okC n1 n2 n3 n4 D
  · go_enter Try.func70, Try.ntmps70
    go_wp2_with fail
    refine (spec_l03Is w.heap.size A1 A2 A3 A4 c1 c2 c3 c4 n1 n2 n3 n4 B D _ ((Bx.new_ _ _ _ _ _ _).alloc _) (H.out.go (by repeat' (first | with_reducible exact Below.refl _ _ | with_reducible assumption | with_reducible refine below_dn ?_ _ | with_reducible refine Below.drew ?_ | with_reducible refine below_step ?_ (by assumption) | with_reducible refine Below.setCell ?_ ?_ _ | with_reducible refine Below.alloc ?_ ?_ _ | with_reducible exact Nat.le_refl _ | (simp; done) | (simp; omega) | omega)))).mono ?_
    rintro e w1 ⟨rfl, hb1⟩
    have V1 := Lib.hid ((Bx.new_ (w.alloc (.cells #[.slice A1 n1 c1, .slice A2 n2 c2, .slice A3 n3 c3, .slice A4 n4 c4] 32)) 32 sn sn sn sn).go hb1)
    have B1 := Lib.hid (show Below w.heap.size w w1 from below_step (w := w) ((by repeat' (first | with_reducible exact Below.refl _ _ | with_reducible assumption | with_reducible refine below_dn ?_ _ | with_reducible refine Below.drew ?_ | with_reducible refine below_step ?_ (by assumption) | with_reducible refine Below.setCell ?_ ?_ _ | with_reducible refine Below.alloc ?_ ?_ _ | with_reducible exact Nat.le_refl _ | (simp; done) | (simp; omega) | omega))) hb1)
    have e1 : (w.alloc (.cells #[.slice A1 n1 c1, .slice A2 n2 c2, .slice A3 n3 c3, .slice A4 n4 c4] 32)).heap.size = w.heap.size + 1 := by simp
    rw [e1] at V1
    clear hb1 e1
    obtain ⟨v0, v1, v2, v3, vf⟩ := V1.out.facts
    have lv := V1.out.lt
    rw [q1]
    go_wp2_with fail
    obtain ⟨r0, r1, r2, r3, rf⟩ := (V1.out.setAll sn sn sn sn).facts
    refine bodyPost_ret (v := .tuple #[.agg #[sn, sn, sn, sn], .bool false]) (by simp [results, Try.results70, go_sem, r0, r1, r2, r3]) rfl ?_
    exact ⟨rfl, Bx.bel B1.out (by omega) _ _ _ _⟩
  · obtain ⟨s1, rfl, rfl, s4⟩ := okC_sz q1
    cases q2 : inI q 0 20
    · go_enter Try.func70, Try.ntmps70
      go_wp2_with fail
      refine (spec_l03Is w.heap.size A1 A2 A3 A4 c1 c2 c3 c4 n3 n3 n3 n4 B D _ ((Bx.new_ _ _ _ _ _ _).alloc _) (H.out.go (by repeat' (first | with_reducible exact Below.refl _ _ | with_reducible assumption | with_reducible refine below_dn ?_ _ | with_reducible refine Below.drew ?_ | with_reducible refine below_step ?_ (by assumption) | with_reducible refine Below.setCell ?_ ?_ _ | with_reducible refine Below.alloc ?_ ?_ _ | with_reducible exact Nat.le_refl _ | (simp; done) | (simp; omega) | omega)))).mono ?_
      rintro e w1 ⟨rfl, hb1⟩
      have V1 := Lib.hid ((Bx.new_ (w.alloc (.cells #[.slice A1 n3 c1, .slice A2 n3 c2, .slice A3 n3 c3, .slice A4 n4 c4] 32)) 32 sn sn sn sn).go hb1)
      have B1 := Lib.hid (show Below w.heap.size w w1 from below_step (w := w) ((by repeat' (first | with_reducible exact Below.refl _ _ | with_reducible assumption | with_reducible refine below_dn ?_ _ | with_reducible refine Below.drew ?_ | with_reducible refine below_step ?_ (by assumption) | with_reducible refine Below.setCell ?_ ?_ _ | with_reducible refine Below.alloc ?_ ?_ _ | with_reducible exact Nat.le_refl _ | (simp; done) | (simp; omega) | omega))) hb1)
      have e1 : (w.alloc (.cells #[.slice A1 n3 c1, .slice A2 n3 c2, .slice A3 n3 c3, .slice A4 n4 c4] 32)).heap.size = w.heap.size + 1 := by simp
      rw [e1] at V1
      clear hb1 e1
      obtain ⟨v0, v1, v2, v3, vf⟩ := V1.out.facts
      have lv := V1.out.lt
      rw [q1]
      go_wp2_with (go_at_call 144; refine (spec_l03Rounds q _).mono ?_; rintro e wa ⟨rfl, nq, rfl⟩; rw [q2])
      have V1 := Lib.hid (V1.out.drewN nq)
      have B1 := Lib.hid (below_dn B1.out nq)
      obtain ⟨r0, r1, r2, r3, rf⟩ := (V1.out.setAll sn sn sn sn).facts
      refine bodyPost_ret (v := .tuple #[.agg #[sn, sn, sn, sn], .bool false]) (by simp [results, Try.results70, go_sem, r0, r1, r2, r3]) rfl ?_
      exact ⟨rfl, Bx.bel B1.out (by omega) _ _ _ _⟩
    · go_enter Try.func70, Try.ntmps70
      go_wp2_with fail
      refine (spec_l03Is w.heap.size A1 A2 A3 A4 c1 c2 c3 c4 n3 n3 n3 n4 B D _ ((Bx.new_ _ _ _ _ _ _).alloc _) (H.out.go (by repeat' (first | with_reducible exact Below.refl _ _ | with_reducible assumption | with_reducible refine below_dn ?_ _ | with_reducible refine Below.drew ?_ | with_reducible refine below_step ?_ (by assumption) | with_reducible refine Below.setCell ?_ ?_ _ | with_reducible refine Below.alloc ?_ ?_ _ | with_reducible exact Nat.le_refl _ | (simp; done) | (simp; omega) | omega)))).mono ?_
      rintro e w1 ⟨rfl, hb1⟩
      have P1 := Lib.hid (((Bx.new_ w 32 (.slice A1 n3 c1) (.slice A2 n3 c2) (.slice A3 n3 c3) (.slice A4 n4 c4)).alloc _).go hb1)
      have V1 := Lib.hid ((Bx.new_ (w.alloc (.cells #[.slice A1 n3 c1, .slice A2 n3 c2, .slice A3 n3 c3, .slice A4 n4 c4] 32)) 32 sn sn sn sn).go hb1)
      have B1 := Lib.hid (show Below w.heap.size w w1 from below_step (w := w) ((by repeat' (first | with_reducible exact Below.refl _ _ | with_reducible assumption | with_reducible refine below_dn ?_ _ | with_reducible refine Below.drew ?_ | with_reducible refine below_step ?_ (by assumption) | with_reducible refine Below.setCell ?_ ?_ _ | with_reducible refine Below.alloc ?_ ?_ _ | with_reducible exact Nat.le_refl _ | (simp; done) | (simp; omega) | omega))) hb1)
      have e1 : (w.alloc (.cells #[.slice A1 n3 c1, .slice A2 n3 c2, .slice A3 n3 c3, .slice A4 n4 c4] 32)).heap.size = w.heap.size + 1 := by simp
      rw [e1] at V1
      clear hb1 e1
      rw [q1]
      go_wp2_with (go_at_call 144; refine (spec_l03Rounds q _).mono ?_; rintro e wa ⟨rfl, nq, rfl⟩; rw [q2])
      have V1 := Lib.hid (V1.out.drewN nq)
      have B1 := Lib.hid (below_dn B1.out nq)
      have P1 := Lib.hid (P1.out.drewN nq)
      obtain ⟨w1, hw1⟩ : ∃ z : World, z = w1.drewN nq := ⟨_, rfl⟩
      rw [← hw1] at V1 B1 P1
      rw [← hw1]
      clear hw1
      refine (spec_l03Own w.heap.size A1 A2 A3 A4 c1 c2 c3 c4 n3 n3 n3 n4 D (by omega) (by omega) (by omega) (by omega) _ P1.out ((H.out.go B1.out).s1.in_) ((H.out.go B1.out).s2.in_) ((H.out.go B1.out).s3.in_) ((H.out.go B1.out).s4.in_)).mono ?_
      rintro e w2 ⟨E1, E2, E3, E4, d1, d2, d3, d4, rfl, ho2, hd2, hz2, hb2⟩
      have P2 := Lib.hid (P1.out.go hb2)
      have V2 := Lib.hid (V1.out.go hb2)
      have B2 := Lib.hid (below_step B1.out hb2)
      have O2 := Lib.hid ho2
      have D2 := Lib.hid hd2
      have HZ2 := Lib.hid hz2
      clear hz2
      have y1 := V1.out.lt
      have y2 := hb2.size
      have y0 := B1.out.size
      clear hb2 ho2 hd2 P1 V1 
      obtain ⟨k, rfl, hk⟩ := inI_20 (n := 20) q2
      go_wp2_with fail
      refine (spec_all w2.heap.size w1.heap.size E1 E2 E3 E4 d1 d2 d3 d4 n3 n4 D k _ (Bx.new_ _ _ _ _ _ _) (O2.out.go (by repeat' (first | with_reducible exact Below.refl _ _ | with_reducible assumption | with_reducible refine below_dn ?_ _ | with_reducible refine Below.drew ?_ | with_reducible refine below_step ?_ (by assumption) | with_reducible refine Below.setCell ?_ ?_ _ | with_reducible refine Below.alloc ?_ ?_ _ | with_reducible exact Nat.le_refl _ | (simp; done) | (simp; omega) | omega))) (by simp; omega) (by omega) (by omega) hk (okC_rods q1)).mono ?_
      rintro e wm ⟨rfl, hb, D1, hs, ho, hx⟩
      have XM := Lib.hid hx
      have OM := Lib.hid ho
      have VM := Lib.hid ((V2.out.alloc _).below hb (by omega))
      have BM := Lib.hid ((Below.alloc B2.out (by omega) _).trans (hb.mono y0))
      have SM := Lib.hid (show SimD n3 n3 n3 n4 D1 (rndD D n4 (k : Int).toNat) from hs)
      have DM := Lib.hid ho.bds
      clear hb hx ho hs V2 O2 D2 B2 P2
      obtain ⟨t0, t1, t2, t3, tf⟩ := XM.out.facts
      have lt := XM.out.lt
      go_wp2_with fail
      refine (spec_l03Give E1 E2 E3 E4 d1 d2 d3 d4 (n3) (n3) (n3) (n4) _ (D1) _ OM.out).mono ?_
      rintro e w4 ⟨rfl, hb4⟩
      have V4 := Lib.hid (VM.out.go hb4)
      have B4 := Lib.hid (below_step BM.out hb4)
      have O4 := Lib.hid (OM.out.go hb4)
      have D4_ := Lib.hid (DM.out.mono (Nat.le_refl _) hb4.size)
      clear hb4 t0 t1 t2 t3 tf lt VM BM OM DM
      obtain ⟨v0, v1, v2, v3, vf⟩ := V4.out.facts
      have lv := V4.out.lt
      rw [okC_sim SM.out]
      cases q3 : okC (n3) (n3) (n3) (n4) (rndD D n4 (k : Int).toNat)
      · unfold giveV
        go_wp2_with fail
        obtain ⟨r0, r1, r2, r3, rf⟩ := (V4.out.setAll sn sn sn sn).facts
        refine bodyPost_ret (v := .tuple #[.agg #[sn, sn, sn, sn], .bool false]) (by simp [results, Try.results70, go_sem, r0, r1, r2, r3]) rfl ?_
        rw [q3]
        exact ⟨rfl, Bx.bel B4.out (by omega) _ _ _ _⟩
      · unfold giveV
        have WF := Lib.hid (show Wr (fun k => k = w.heap.size + 1) w4 ((((w4.setCell ⟨w.heap.size + 1, 0, none⟩ (.slice E1 (n3) d1)).setCell ⟨w.heap.size + 1, 1, none⟩ (.slice E2 (n3) d2)).setCell ⟨w.heap.size + 1, 2, none⟩ (.slice E3 (n3) d3)).setCell ⟨w.heap.size + 1, 3, none⟩ (.slice E4 (n4) d4)) from by
          refine Wr.setCell (Wr.setCell (Wr.setCell (Wr.setCell (Wr.refl _ _) ?_ _) ?_ _) ?_ _) ?_ _ <;> rfl)
        go_wp2_with fail
        obtain ⟨r0, r1, r2, r3, rf⟩ := (V4.out.setAll (.slice E1 (n3) d1) (.slice E2 (n3) d2) (.slice E3 (n3) d3) (.slice E4 (n4) d4)).facts
        refine bodyPost_ret (v := .tuple #[.agg #[.slice E1 (n3) d1, .slice E2 (n3) d2, .slice E3 (n3) d3, .slice E4 (n4) d4], .bool true]) (by simp [results, Try.results70, go_sem, r0, r1, r2, r3]) rfl ?_
        rw [q3]
        exact ⟨⟨E1, E2, E3, E4, d1, d2, d3, d4, D1, rfl, SM.out, (O4.out.off V4.out WF.out).mono y0, D4_.out.mono y0 WF.out.size⟩, Bx.bel B4.out (by omega) _ _ _ _⟩
end Go.Proofs.Ytlhgaihfghobmaa
