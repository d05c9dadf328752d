/- append onto a slice of the call's own. -/
import Derived.Test.YtlhgaihfghobmaaMa
namespace Go.Proofs.Ytlhgaihfghobmaa
open Go.ChangeShapes Go.WideShapes Go.ChangeAt Go.RowKit Go.Deep

/-- f, and from m on the others. -/
def app (f : Nat → Value) (m : Nat) (g : Nat → Value) (j : Nat) : Value := if j < m then f j else g (j - m)
section
variable {P : Program}
theorem run_app (w : World) (t ty e : TypeId) (i : TypeInfo) (z : Value) (size bytes : Nat) (ht : P.underlying t = some (.slice e)) (hi : P.info? e = some i) (hz : i.zero = some z)
    (hsize : i.size = size) (hby : i.bytes = bytes) (hzs : z.cells.size = size) (hsz : 0 < size)
    (A : Option Addr) (n c M : Nat) (f : Nat → Value) (hs : Sl w M e size A n c f) (hc : n = 0 → c = 0) (hM : M ≤ w.heap.size)
    (ad : Addr) (m cx : Nat) (src : Nat → Value) (hsrc : ∀ j, j < m * size → w.cell? (ad.add j) = some (src j)) (h1 : ∀ j, (src j).oneCell' = true) (hm : 0 < m) (h63 : n + m ≤ maxLen) (hbytes : (n + m) * bytes ≤ 140737488355328) :
    ∃ A' c' w', (Builtin.append_ #[t, t] ty #[.slice A n c, .slice (some ad) m cx]).run P w = .ok (.slice A' (n + m) c') w' ∧ Sl w' M e size A' (n + m) c' (app f (n * size) src) ∧ Wr (fun k => 0 < n ∧ A = some ⟨k, 0, none⟩) w w' ∧ (∀ k, A' = some ⟨k, 0, none⟩ → (0 < n ∧ A = some ⟨k, 0, none⟩) ∨ w.heap.size ≤ k) := by
  have hl : ((List.range (m * size)).map src).length = m * size := by simp
  have hn : ∀ j u, ((List.range (m * size)).map src)[j]? = some u → w.cell? (ad.add j) = some u := fun j u hu => by
    have hj : j < m * size := by
      have := (List.getElem?_eq_some_iff.1 hu).1
      simpa using this
    rw [range_get hj] at hu
    cases hu
    exact hsrc j hj
  have ho : ∀ u ∈ (List.range (m * size)).map src, u.oneCell' = true := fun u hu => by
    obtain ⟨j, _, rfl⟩ := List.mem_map.1 hu
    exact h1 j
  by_cases h0 : 0 < n
  · obtain ⟨g, rfl, _⟩ := hs h0
    obtain ⟨v', w', hr, h2, h3, _, h5⟩ := run_append_own_at (P := P) w M t ty e i z size bytes ht hi hz hsize hby hzs hsz _ n _ (hs.to_own h0) ad m cx _ hl hn ho h63 hbytes hM
    obtain ⟨A', c', rfl, hs', hk⟩ := Sl.of_own h2 (f := app f (n * size) src) (fun j hj => by
      unfold app
      by_cases hjn : j < n * size
      · rw [if_pos hjn, List.getElem?_append_left (by simpa using hjn)]
        exact range_get hjn
      · rw [if_neg hjn, List.getElem?_append_right (by simpa using Nat.le_of_not_lt hjn)]
        simp only [List.length_map, List.length_range]
        exact range_get (by rw [Nat.add_mul] at hj; omega))
    refine ⟨A', c', w', hr, hs', (Wr.of_grown h3).mono (fun k _ hk' => ⟨h0, ?_⟩), fun k hA => ?_⟩
    · simp [Value.ownBlock] at hk'
      rw [hk']
    · have hb := hk k hA
      rw [hb] at h5
      rcases h5 with h5 | h5
      · simp [Value.ownBlock] at h5
        exact .inl ⟨h0, by rw [h5]⟩
      · cases h5
        exact .inr (Nat.le_refl _)
  · obtain rfl : n = 0 := by omega
    obtain rfl := hc rfl
    have key : ∃ v' w', (Builtin.append_ #[t, t] ty #[.slice A 0 0, .slice (some ad) m cx]).run P w = .ok v' w' ∧ w'.ownsRow w.heap.size e size v' (0 + m) ([] ++ (List.range (m * size)).map src) ∧ w.grownBy w' none := by
      cases A with
      | some b => exact run_append_arg_grows (P := P) w t ty e i z size bytes ht hi hz hsize hby hzs hsz b 0 0 [] (by simp) (by simp) ad m cx _ hl hn (by omega) h63 hbytes
      | none =>
        obtain ⟨v', w', hr, h2, h3, _, _⟩ := run_append_own_at (P := P) w w.heap.size t ty e i z size bytes ht hi hz hsize hby hzs hsz _ 0 [] (World.ownsRow_nil w _ e size) ad m cx _ hl hn ho h63 hbytes (Nat.le_refl _)
        exact ⟨v', w', hr, h2, h3⟩
    obtain ⟨v', w', hr, h2, h3⟩ := key
    obtain ⟨A', c', rfl, hs', hk⟩ := Sl.of_own h2 (f := app f (0 * size) src) (fun j hj => by
      unfold app
      rw [if_neg (by omega), List.nil_append, Nat.zero_mul, Nat.sub_zero]
      exact range_get (by rw [Nat.zero_add] at hj; exact hj))
    refine ⟨A', c', w', hr, hs'.mono hM, (Wr.of_grown h3).mono (fun k _ hk' => by simp at hk'), fun k hA => .inr ?_⟩
    obtain ⟨g, hA', hB, _⟩ := hs' (by omega)
    rw [hA] at hA'
    cases hA'
    exact hB
theorem wp_app {o : Oper} {a : Act} {w : World} {K : Act → World → Prop} {Q : Exit → Act → World → Prop} (s x : Operand) (t : TypeId)
    (ho : o.op = .call { callee := .builtin .append, args := #[s, x], argTypes := #[t, t] })
    (e : TypeId) (i : TypeInfo) (z : Value) (size bytes : Nat) (ht : P.underlying t = some (.slice e)) (hi : P.info? e = some i) (hz : i.zero = some z)
    (hsize : i.size = size) (hby : i.bytes = bytes) (hzs : z.cells.size = size) (hsz : 0 < size)
    (A : Option Addr) (n c M : Nat) (f : Nat → Value) (hs : a.eval s = .slice A n c) (hS : Sl w M e size A n c f) (hc : n = 0 → c = 0) (hM : M ≤ w.heap.size)
    (ad : Addr) (m cx : Nat) (src : Nat → Value) (hx : a.eval x = .slice (some ad) m cx) (hsrc : ∀ j, j < m * size → w.cell? (ad.add j) = some (src j)) (h1 : ∀ j, (src j).oneCell' = true) (hm : 0 < m) (h63 : n + m ≤ maxLen) (hbytes : (n + m) * bytes ≤ 140737488355328)
    (h : ∀ A' c' w', Sl w' M e size A' (n + m) c' (app f (n * size) src) → Wr (fun k => 0 < n ∧ A = some ⟨k, 0, none⟩) w w' → (∀ k, A' = some ⟨k, 0, none⟩ → (0 < n ∧ A = some ⟨k, 0, none⟩) ∨ w.heap.size ≤ k) → K (a.put o.dst (.slice A' (n + m) c')) w') : o.wp P a w K Q := by
  obtain ⟨A', c', w', hr, h2, h3, h4⟩ := run_app (P := P) w t o.type e i z size bytes ht hi hz hsize hby hzs hsz A n c M f hS hc hM ad m cx src hsrc h1 hm h63 hbytes
  unfold Oper.wp execOp
  simp only [ho, resolve, invoke, builtin, Sem.run_bind, Sem.run_pure, Result.andThen_ok, List.map_toArray, List.map_cons, List.map_nil, hs, hx, hr]
  exact h A' c' w' h2 h3 h4
theorem wpList_app {ops : Array Oper} {rest : List Oper} {o : Oper} {a : Act} {w : World} {Q : Exit → Act → World → Prop} (hgd : o.guard = none) (s x : Operand) (t : TypeId)
    (ho : o.op = .call { callee := .builtin .append, args := #[s, x], argTypes := #[t, t] })
    (e : TypeId) (i : TypeInfo) (z : Value) (size bytes : Nat) (ht : P.underlying t = some (.slice e)) (hi : P.info? e = some i) (hz : i.zero = some z)
    (hsize : i.size = size) (hby : i.bytes = bytes) (hzs : z.cells.size = size) (hsz : 0 < size)
    (A : Option Addr) (n c M : Nat) (f : Nat → Value) (hs : a.eval s = .slice A n c) (hS : Sl w M e size A n c f) (hc : n = 0 → c = 0) (hM : M ≤ w.heap.size)
    (ad : Addr) (m cx : Nat) (src : Nat → Value) (hx : a.eval x = .slice (some ad) m cx) (hsrc : ∀ j, j < m * size → w.cell? (ad.add j) = some (src j)) (h1 : ∀ j, (src j).oneCell' = true) (hm : 0 < m) (h63 : n + m ≤ maxLen) (hbytes : (n + m) * bytes ≤ 140737488355328)
    (h : ∀ A' c' w', Sl w' M e size A' (n + m) c' (app f (n * size) src) → Wr (fun k => 0 < n ∧ A = some ⟨k, 0, none⟩) w w' → (∀ k, A' = some ⟨k, 0, none⟩ → (0 < n ∧ A = some ⟨k, 0, none⟩) ∨ w.heap.size ≤ k) → wpList P ops Q rest (a.put o.dst (.slice A' (n + m) c')) w') : wpList P ops Q (o :: rest) a w :=
  wpList_plain hgd fun _ hK => wp_app s x t ho e i z size bytes ht hi hz hsize hby hzs hsz A n c M f hs hS hc hM ad m cx src hx hsrc h1 hm h63 hbytes fun A' c' w' h2 h3 h4 => hK _ _ (h A' c' w' h2 h3 h4)
end
/-! ### one element more -/
theorem app_vc (p : Nat → V3) (n : Nat) (q : V3) : ∀ j, j < (n + 1) * 3 → app (vc p) (n * 3) (vc (fun _ => q)) j = vc (upd p n q) j := fun j hj => by
  unfold app vc
  by_cases h : j < n * 3
  · rw [if_pos h, upd_ne p q (show j / 3 ≠ n by omega)]
  · rw [if_neg h, show j / 3 = n by omega, upd_same, show (j - n * 3) % 3 = j % 3 by omega]
theorem app_rc (p : Nat → Rd) (n : Nat) (q : Rd) : ∀ j, j < (n + 1) * 3 → app (rc p) (n * 3) (rc (fun _ => q)) j = rc (upd p n q) j := fun j hj => by
  unfold app rc
  by_cases h : j < n * 3
  · rw [if_pos h, upd_ne p q (show j / 3 ≠ n by omega)]
  · rw [if_neg h, show j / 3 = n by omega, upd_same, show (j - n * 3) % 3 = j % 3 by omega]
theorem app_fc (p : Nat → Nat) (n : Nat) (q : Nat) : ∀ j, j < (n + 1) * 1 → app (fc p) (n * 1) (fc (fun _ => q)) j = fc (upd p n q) j := fun j hj => by
  unfold app fc
  by_cases h : j < n * 1
  · rw [if_pos h, upd_ne p q (show j ≠ n by omega)]
  · rw [if_neg h, show j = n by omega, upd_same]
theorem new3_vc (w : World) (g : Nat) (t : TypeId) (q : V3) (h : Tx w g t (.float .f32 q.x) (.float .f32 q.y) (.float .f32 q.z)) : ∀ j, j < 1 * 3 → w.cell? ((⟨g, 0, none⟩ : Addr).add j) = some (vc (fun _ => q) j) := fun j hj => by
  rw [Addr.add_lit, Nat.zero_add]
  have : j = 0 ∨ j = 1 ∨ j = 2 := by omega
  rcases this with rfl | rfl | rfl
  · exact h.c0
  · exact h.c1
  · exact h.c2
theorem new3_rc (w : World) (g : Nat) (t : TypeId) (q : Rd) (h : Tx w g t (.int .i64 q.a) (.int .i64 q.b) (.float .f32 q.l)) : ∀ j, j < 1 * 3 → w.cell? ((⟨g, 0, none⟩ : Addr).add j) = some (rc (fun _ => q) j) := fun j hj => by
  rw [Addr.add_lit, Nat.zero_add]
  have : j = 0 ∨ j = 1 ∨ j = 2 := by omega
  rcases this with rfl | rfl | rfl
  · exact h.c0
  · exact h.c1
  · exact h.c2
theorem new1_fc (w : World) (g : Nat) (t : TypeId) (q : Nat) (h : Ox w g t (.float .f32 q)) : ∀ j, j < 1 * 1 → w.cell? ((⟨g, 0, none⟩ : Addr).add j) = some (fc (fun _ => q) j) := fun j hj => by
  rw [Addr.add_lit, Nat.zero_add]
  obtain rfl : j = 0 := by omega
  exact h.c
end Go.Proofs.Ytlhgaihfghobmaa
