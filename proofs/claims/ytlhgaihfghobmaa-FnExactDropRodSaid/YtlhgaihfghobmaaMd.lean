/- slices.Delete of one rod. -/
import Derived.Test.YtlhgaihfghobmaaMb
import Derived.Test.YtlhgaihfghobmaaRk
import Derived.Laws.IdiomCopy
namespace Go.Proofs.Ytlhgaihfghobmaa
open Go.ChangeShapes Go.WideShapes Go.ChangeAt Go.RowKit Go.Deep

theorem Rw.setCells {g : Nat} {t : TypeId} {cs c : Nat} : ∀ (vs : List Value) (o : Nat) {w : World} {f : Nat → Value}, Rw w g t cs c f → Rw (w.setCells g o vs) g t cs c (fun j => if o ≤ j then (vs[j - o]?).getD (f j) else f j)
  | [], o, w, f, h => h.congr fun j _ => by simp
  | v :: r, o, w, f, h => by
    refine (Rw.setCells r (o + 1) (h.set o v)).congr fun j _ => ?_
    by_cases h1 : o + 1 ≤ j
    · obtain ⟨i, rfl⟩ : ∃ i, j = o + 1 + i := ⟨j - (o + 1), by omega⟩
      have e1 : ¬ (o + 1 + i = o) := by omega
      have e2 : o ≤ o + 1 + i := by omega
      rw [if_pos h1, if_neg e1, if_pos e2, show o + 1 + i - (o + 1) = i by omega, show o + 1 + i - o = i + 1 by omega, List.getElem?_cons_succ]
    · by_cases h2 : j = o
      · subst h2
        rw [if_neg h1, if_pos rfl, if_pos (Nat.le_refl _), Nat.sub_self]
        rfl
      · rw [if_neg h1, if_neg h2, if_neg (by omega)]
theorem Wr.setCells (g : Nat) : ∀ (vs : List Value) (o : Nat) (w : World), Wr (fun b => b = g) w (w.setCells g o vs)
  | [], _, w => Wr.refl _ w
  | v :: r, o, w => (Wr.set1 w g o v).trans (Wr.setCells g r (o + 1) _)
def delR (R : Nat → Rd) (k : Nat) : Nat → Rd := fun i => if i < k then R i else R (i + 1)
def delD (D : D4) (k : Nat) : D4 := ⟨D.P, D.B, D.W, delR D.R k⟩
/-- the rods behind k, one place down. -/
theorem del_cells (R : Nat → Rd) (k n : Nat) (hk : k ≤ n) : ∀ j, j < n * 3 → (fun j => if k * 3 ≤ j then ((((List.range ((n - k) * 3)).map fun i => rc R ((k + 1) * 3 + i))[j - k * 3]?).getD (rc R j)) else rc R j) j = rc (delR R k) j := fun j hj => by
  show (if k * 3 ≤ j then _ else _) = _
  by_cases h : k * 3 ≤ j
  · rw [if_pos h]
    have hi : j - k * 3 < (n - k) * 3 := by omega
    rw [range_get hi]
    show rc R ((k + 1) * 3 + (j - k * 3)) = _
    rw [show (k + 1) * 3 + (j - k * 3) = j + 3 by omega]
    unfold rc delR
    have e : ¬ (j / 3 < k) := by omega
    rw [show (j + 3) % 3 = j % 3 by omega, show (j + 3) / 3 = j / 3 + 1 by omega]
    simp only [if_neg e]
  · rw [if_neg h]
    unfold rc delR
    rw [if_pos (show j / 3 < k by omega)]
theorem RI.before {ops : Array Oper} {md : Region.Mode} {a0 : Act} {Fs : List (Value → World → Prop)} {J : Array Bool → World → Prop} {listed : Array Bool} {a : Act} {w : World} (h : RI md ops a0 Fs J listed a w) (ho : once ops a0.tmps.size = true) {j : Nat} {o : Oper} {t : Tmp} (hj : ops[j]? = some o) (ht : o.dst = some t) (hu : listed.getD j false = false) : a.tmps[t]? = a0.tmps[t]? :=
  h.keep t fun i q hi hq => by
    have e := once_spec ho hj ht hi hq
    subst e
    have hs : i < listed.size := by rw [h.size]; exact (Array.getElem?_eq_some_iff.1 hj).1
    simp [hs] at hu ⊢
    exact hu
theorem zero_rod (w : World) : (zeroValue 91).run Try.prog w = .ok (.agg #[.int .i64 0, .int .i64 0, .float .f32 0]) w := by
  obtain ⟨i, hi, hzz⟩ := Option.map_eq_some_iff.1 infoR
  simp only [Prod.mk.injEq] at hzz
  simp [zeroValue, typeInfo, hi, hzz.1]
/-- clear of the last rod. -/
theorem run_clear_rod (w : World) (ty : TypeId) (b o c : Nat) (hc : ∀ j, j < 3 → (w.cell? ⟨b, o + j, none⟩).isSome = true) (hf : ∀ j, j < 3 → w.frozen? ⟨b, o + j, none⟩ = false) :
    (Builtin.clear_ #[30] ty #[.slice (some ⟨b, o, none⟩) 1 c]).run Try.prog w = .ok (.tuple #[]) (w.setCells b o [.int .i64 0, .int .i64 0, .float .f32 0]) := by
  have hst := run_storeCells_cells (P := Try.prog) b o [.int .i64 0, .int .i64 0, .float .f32 0] 0 w (by simpa using hc) (by simpa using hf) (by simp [Value.oneCell'])
  simp only [Nat.add_zero] at hst
  have hz : (Builtin.zeroCells (Value.agg #[.int .i64 0, .int .i64 0, .float .f32 0]).cells 1).toList = [.int .i64 0, .int .i64 0, .float .f32 0] := by kernel_rfl
  simp [Builtin.clear_, run_underlying Try.underlying30, hz, hst]
section
variable {P : Program}
/-- append where there is room. -/
theorem wp_room {o : Oper} {a : Act} {w : World} {K : Act → World → Prop} {Q : Exit → Act → World → Prop} (s x : Operand) (t : TypeId)
    (ho : o.op = .call { callee := .builtin .append, args := #[s, x], argTypes := #[t, t] })
    (e : TypeId) (i : TypeInfo) (ht : P.underlying t = some (.slice e)) (hi : P.info? e = some i)
    (b off n c : Nat) (hs : a.eval s = .slice (some ⟨b, off, none⟩) n c) (ad : Addr) (m cx : Nat) (hx : a.eval x = .slice (some ad) m cx) (news : List Value) (hl : news.length = m * i.size) (hnews : ∀ j u, news[j]? = some u → w.cell? (ad.add j) = some u) (h1 : ∀ u ∈ news, u.oneCell' = true)
    (hroom : n + m ≤ c) (hc : ∀ j, j < news.length → (w.cell? ⟨b, off + n * i.size + j, none⟩).isSome = true) (hf : ∀ j, j < news.length → w.frozen? ⟨b, off + n * i.size + j, none⟩ = false)
    (h : K (a.put o.dst (.slice (some ⟨b, off, none⟩) (n + m) c)) (w.setCells b (off + n * i.size) news)) : o.wp P a w K Q := by
  have hr := run_append_room_cells (P := P) w t o.type e i ht hi b off n c ad m cx news hl hnews h1 hroom hc hf
  unfold Oper.wp execOp
  simp only [ho, resolve, invoke, builtin, Sem.run_bind, Sem.run_pure, Result.andThen_ok, List.map_toArray, List.map_cons, List.map_nil, hs, hx, hr]
  exact h
end
set_option maxHeartbeats 4000000 in
set_option maxRecDepth 100000 in
theorem delete_rod (A : Option Addr) (n c M k : Nat) (R : Nat → Rd) (hk : k < n + 1) (hm : n + 1 ≤ 40) (w : World) (h : Sl w M 91 3 A (n + 1) c (rc R)) :
    Calls Try.prog 135 #[.slice A (n + 1) c, .int .i64 (k : Int), .int .i64 ((k : Int) + 1)] w (fun e w' => e = .returned (.slice A n c) ∧ Sl w' M 91 3 A n c (rc (delR R k)) ∧ Wr (fun b => A = some ⟨b, 0, none⟩) w w') := by
  obtain ⟨b, rfl, hB, hmc, hcm, hr⟩ := h (by omega)
  have k0 : (0 : Int) ≤ (k : Int) := by omega
  have k1 : (k : Int) ≤ (n : Int) := by omega
  have k2 : (n : Int) + 1 ≤ (c : Int) := by omega
  have k3 : ((k : Int) == (k : Int) + 1) = false := by simp; omega
  have k4 : k ≤ c := by omega
  have k5 : k ≤ n := by omega
  have k6 : n ≤ c := by omega
  have k7 : ¬ (c = n) := by omega
  have hm' : (n : Int) + 1 ≤ 40 := by omega
  obtain ⟨ad, had⟩ : ∃ ad : Addr, some ad = (if c = k + 1 then some ⟨b, 0, none⟩ else some ⟨b, (k + 1) * 3, none⟩) := by
    by_cases e : c = k + 1
    · exact ⟨_, by rw [if_pos e]⟩
    · exact ⟨_, by rw [if_neg e]⟩
  have HAD := Lib.hid had
  have HR := Lib.hid hr
  clear hr h had
  go_enter Try.func135, Try.ntmps135
  go_upto_region 5 with fail
  have hw0 : Below w.heap.size w w.drew := (Below.refl _ _).drew
  refine region_inv (stat [isE (.slice (some ⟨b, 0, none⟩) (n + 1) c), isE (.int .i64 (k : Int)), isE (.slice (some ⟨b, 0, none⟩) k c), isE (.slice (some ⟨b, 0, none⟩) (n + 1) c), isE (.int .i64 ((k : Int) + 1)), isE (.slice (some ad) (n - k) (c - (k + 1))), isE (.slice (some ⟨b, 0, none⟩) n c), isE (.slice (some ⟨b, 0, none⟩) n c)]) (fun l W => Js [(6, fun W => ∃ W5, Below w.heap.size w W5 ∧ W = W5.setCells b (0 + k * 3) ((List.range ((n - k) * 3)).map fun i => rc R ((k + 1) * 3 + i)))] (fun W => Below w.heap.size w W) l W) (by kernel_rfl) (by kernel_rfl) (by kernel_rfl) (Js.first hw0) ⟨?r0, ?r1, ?r2, ?r3, ?r4, ?r5, ?r6, ?r7, trivial⟩ ?hend
  case r0 =>
    intro listed a u h hu hd K hK
    have f0 : a.tmps[0]? = some (.slice (some ⟨b, 0, none⟩) (n + 1) c) := RI.before h (by kernel_rfl) (j := 7) rfl rfl (RI.wait' h (getD_un hu) (T := 7) rfl (Array.mem_of_getElem? (i := 2) rfl) rfl rfl)
    have e0 : a.tmps.getD 0 undef = .slice (some ⟨b, 0, none⟩) (n + 1) c := by rw [Array.getD_eq_getD_getElem?, f0]; rfl
    rw [if_pos (by rfl)]
    go_simp
    exact hK _ _ (fact_stat _ _ _) (isE.mk rfl) (Js.neutral h.world rfl)
  case r1 =>
    intro listed a u h hu hd K hK
    have e1 : a.tmps.getD 1 undef = .int .i64 (k : Int) := h.base (by kernel_rfl)
    have f1 : a.tmps[1]? = some (.int .i64 (k : Int)) := h.old (by kernel_rfl)
    rw [if_pos (by rfl)]
    go_simp
    exact hK _ _ (fact_stat _ _ _) (isE.mk rfl) (Js.neutral h.world rfl)
  case r2 =>
    intro listed a u h hu hd K hK
    obtain ⟨v20, ev20, em20, F20⟩ := h.slot (i := 0) rfl rfl (hd _ (Array.mem_of_getElem? (i := 0) rfl) rfl)
    have e20 := ev20.trans (isE.out F20)
    have f20 := em20.trans (congrArg some (isE.out F20))
    clear ev20 em20 F20
    obtain ⟨v21, ev21, em21, F21⟩ := h.slot (i := 1) rfl rfl (hd _ (Array.mem_of_getElem? (i := 1) rfl) rfl)
    have e21 := ev21.trans (isE.out F21)
    have f21 := em21.trans (congrArg some (isE.out F21))
    clear ev21 em21 F21
    rw [if_pos (by rfl)]
    go_simp
    exact hK _ _ (fact_stat _ _ _) (isE.mk rfl) (Js.neutral h.world rfl)
  case r3 =>
    intro listed a u h hu hd K hK
    have f0 : a.tmps[0]? = some (.slice (some ⟨b, 0, none⟩) (n + 1) c) := RI.before h (by kernel_rfl) (j := 7) rfl rfl (RI.wait' h (getD_un hu) (T := 7) rfl (Array.mem_of_getElem? (i := 5) rfl) rfl rfl)
    have e0 : a.tmps.getD 0 undef = .slice (some ⟨b, 0, none⟩) (n + 1) c := by rw [Array.getD_eq_getD_getElem?, f0]; rfl
    rw [if_pos (by rfl)]
    go_simp
    exact hK _ _ (fact_stat _ _ _) (isE.mk rfl) (Js.neutral h.world rfl)
  case r4 =>
    intro listed a u h hu hd K hK
    have e2 : a.tmps.getD 2 undef = .int .i64 ((k : Int) + 1) := h.base (by kernel_rfl)
    have f2 : a.tmps[2]? = some (.int .i64 ((k : Int) + 1)) := h.old (by kernel_rfl)
    rw [if_pos (by rfl)]
    go_simp
    exact hK _ _ (fact_stat _ _ _) (isE.mk rfl) (Js.neutral h.world rfl)
  case r5 =>
    intro listed a u h hu hd K hK
    obtain ⟨v23, ev23, em23, F23⟩ := h.slot (i := 3) rfl rfl (hd _ (Array.mem_of_getElem? (i := 0) rfl) rfl)
    have e23 := ev23.trans (isE.out F23)
    have f23 := em23.trans (congrArg some (isE.out F23))
    clear ev23 em23 F23
    obtain ⟨v24, ev24, em24, F24⟩ := h.slot (i := 4) rfl rfl (hd _ (Array.mem_of_getElem? (i := 1) rfl) rfl)
    have e24 := ev24.trans (isE.out F24)
    have f24 := em24.trans (congrArg some (isE.out F24))
    clear ev24 em24 F24
    rw [if_pos (by rfl)]
    go_simp
    exact hK _ _ (fact_stat _ _ _) (isE.mk (by rw [HAD.out])) (Js.neutral h.world rfl)
  case r6 =>
    intro listed a u h hu hd K hK
    have hw := getD_un hu
    have hA := Js.now h.world hw
    obtain ⟨v22, ev22, em22, F22⟩ := h.slot (i := 2) rfl rfl (hd _ (Array.mem_of_getElem? (i := 0) rfl) rfl)
    have e22 := ev22.trans (isE.out F22)
    have f22 := em22.trans (congrArg some (isE.out F22))
    clear ev22 em22 F22
    obtain ⟨v25, ev25, em25, F25⟩ := h.slot (i := 5) rfl rfl (hd _ (Array.mem_of_getElem? (i := 1) rfl) rfl)
    have e25 := ev25.trans (isE.out F25)
    have f25 := em25.trans (congrArg some (isE.out F25))
    clear ev25 em25 F25
    rw [if_pos (by rfl)]
    obtain ⟨i0, hi, hz0, hz1, hz2⟩ := info_parts infoR
    have hr := HR.out.go hA
    have hc : ∀ j, j < ((List.range ((n - k) * 3)).map fun i => rc R ((k + 1) * 3 + i)).length → (u.cell? ⟨b, 0 + k * i0.size + j, none⟩).isSome = true := fun j hj => by rw [hz1, Nat.zero_add, hr.cell (by simp at hj; omega)]; rfl
    have hn : ∀ j v, ((List.range ((n - k) * 3)).map fun i => rc R ((k + 1) * 3 + i))[j]? = some v → u.cell? (ad.add j) = some v := fun j v hv => by
      have hj : j < (n - k) * 3 := by
        have := (List.getElem?_eq_some_iff.1 hv).1
        simpa using this
      rw [range_get hj] at hv
      cases hv
      have had := HAD.out
      rw [if_neg (by omega)] at had
      cases had
      rw [Addr.add_lit]
      exact hr.cell (by omega)
    have h1 : ∀ v ∈ (List.range ((n - k) * 3)).map fun i => rc R ((k + 1) * 3 + i), v.oneCell' = true := fun v hv => by
      obtain ⟨j, _, rfl⟩ := List.mem_map.1 hv
      exact rc_one _ _
    refine wp_room (.tmp 22) (.tmp 25) 30 rfl 91 i0 Try.underlying30 hi b 0 k c e22 ad (n - k) (c - (k + 1)) e25 ((List.range ((n - k) * 3)).map fun i => rc R ((k + 1) * 3 + i)) (by rw [hz1]; simp) hn h1 (by omega) hc (fun j _ => hr.frozen _) ?_
    rw [hz1, show k + (n - k) = n by omega]
    exact hK _ _ (fact_stat _ _ _) (isE.mk rfl) (Js.hit (un_lt hu) (Js.nil ⟨u, hA, rfl⟩))
  case r7 =>
    intro listed a u h hu hd K hK
    obtain ⟨v26, ev26, em26, F26⟩ := h.slot (i := 6) rfl rfl (hd _ (Array.mem_of_getElem? (i := 0) rfl) rfl)
    have e26 := ev26.trans (isE.out F26)
    have f26 := em26.trans (congrArg some (isE.out F26))
    clear ev26 em26 F26
    rw [if_pos (by rfl)]
    go_simp
    exact hK _ _ (fact_stat _ _ _) (isE.mk rfl) (Js.neutral h.world rfl)
  case hend =>
    intro listed a u h hall
    have hB : (fun W => ∃ W5, Below w.heap.size w W5 ∧ W = W5.setCells b (0 + k * 3) ((List.range ((n - k) * 3)).map fun i => rc R ((k + 1) * 3 + i))) u := (Js.past h.world (hall 6 (by decide)))
    obtain ⟨v0, ev0, em0, F0⟩ := h.slot (i := 7) rfl rfl (hall 7 (by decide))
    have f0 := em0.trans (congrArg some (isE.out F0))
    clear ev0 em0 F0
    obtain ⟨v20, ev20, em20, F20⟩ := h.slot (i := 0) rfl rfl (hall 0 (by decide))
    have f20 := em20.trans (congrArg some (isE.out F20))
    clear ev20 em20 F20
    obtain ⟨v21, ev21, em21, F21⟩ := h.slot (i := 1) rfl rfl (hall 1 (by decide))
    have f21 := em21.trans (congrArg some (isE.out F21))
    clear ev21 em21 F21
    obtain ⟨v22, ev22, em22, F22⟩ := h.slot (i := 2) rfl rfl (hall 2 (by decide))
    have f22 := em22.trans (congrArg some (isE.out F22))
    clear ev22 em22 F22
    obtain ⟨v23, ev23, em23, F23⟩ := h.slot (i := 3) rfl rfl (hall 3 (by decide))
    have f23 := em23.trans (congrArg some (isE.out F23))
    clear ev23 em23 F23
    obtain ⟨v24, ev24, em24, F24⟩ := h.slot (i := 4) rfl rfl (hall 4 (by decide))
    have f24 := em24.trans (congrArg some (isE.out F24))
    clear ev24 em24 F24
    obtain ⟨v25, ev25, em25, F25⟩ := h.slot (i := 5) rfl rfl (hall 5 (by decide))
    have f25 := em25.trans (congrArg some (isE.out F25))
    clear ev25 em25 F25
    obtain ⟨v26, ev26, em26, F26⟩ := h.slot (i := 6) rfl rfl (hall 6 (by decide))
    have f26 := em26.trans (congrArg some (isE.out F26))
    clear ev26 em26 F26
    have ha := h.act [0, 20, 21, 22, 23, 24, 25, 26] [_, _, _, _, _, _, _, _] (by kernel_rfl) ⟨f0, f20, f21, f22, f23, f24, f25, f26, trivial⟩
    clear f0 f20 f21 f22 f23 f24 f25 f26
    simp only [setAll, List.setIfInBounds_toArray, List.set_cons_zero, List.set_cons_succ] at ha
    subst ha
    clear h hall
    obtain ⟨W5, hb5, rfl⟩ := hB
    obtain ⟨wt, hwt⟩ : ∃ z : World, z = W5.setCells b (0 + k * 3) ((List.range ((n - k) * 3)).map fun i => rc R ((k + 1) * 3 + i)) := ⟨_, rfl⟩
    rw [← hwt]
    have hr5 := HR.out.go hb5
    have hr6 := hr5.setCells ((List.range ((n - k) * 3)).map fun i => rc R ((k + 1) * 3 + i)) (0 + k * 3)
    rw [← hwt] at hr6
    have hw6 : Wr (fun x => x = b) w wt := by rw [hwt]; exact (Wr.of_go hb5 _).trans (Wr.setCells b _ _ W5)
    have hr7 := hr6.setCells [.int .i64 0, .int .i64 0, .float .f32 0] (n * 3)
    have hcl : ∀ j, j < 3 → (wt.cell? ⟨b, n * 3 + j, none⟩).isSome = true := fun j hj => by rw [hr6.cell (by omega)]; rfl
    have hfl : ∀ j, j < 3 → wt.frozen? ⟨b, n * 3 + j, none⟩ = false := fun j _ => hr6.frozen _
    have HR7 := Lib.hid hr7
    have HW6 := Lib.hid hw6
    have hclr := fun ty => run_clear_rod wt ty b (n * 3) (c - n) hcl hfl
    clear hwt hr5 hr6 hw6 hr7 hcl hfl hb5 hw0
    go_wp2_with fail
    go_ret
    refine ⟨rfl, fun h0 => ⟨b, rfl, hB, k6, hcm, (HR7.out.less (by omega)).congr fun j hj => ?_⟩, (HW6.out.trans (Wr.setCells b _ _ _)).mono (fun x _ e => by rw [e])⟩
    have e : ¬ (n * 3 ≤ j) := by omega
    have hd := del_cells R k n k5 j hj
    rw [if_neg e]
    simpa using hd
end Go.Proofs.Ytlhgaihfghobmaa
