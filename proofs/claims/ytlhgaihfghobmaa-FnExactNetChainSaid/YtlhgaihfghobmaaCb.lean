/- How the laws make their own chains of what came in: toVectorS, toFloat32S, toRodS, toChain; and how they count. -/
import Derived.Test.YtlhgaihfghobmaaCa
namespace Go.Proofs.Ytlhgaihfghobmaa
open Go.ChangeShapes Go.WideShapes Go.ChangeAt Go.RowKit Go.Deep

/-- returns a new slice that reads as f. -/
def RetSl (t : TypeId) (sz n : Nat) (f : Nat → Value) (w : World) (e : Ending) (w' : World) : Prop :=
  ∃ g, e = .returned (.slice (some ⟨g, 0, none⟩) n n) ∧ w.heap.size ≤ g ∧ g < w'.heap.size ∧ Sl w' w.heap.size t sz (some ⟨g, 0, none⟩) n n f ∧ Below w.heap.size w w'
theorem laws_toRod (a b : Int) (l : Nat) (w : World) : Calls Try.prog 152 #[.agg #[.int .i64 a, .int .i64 b, .float .f32 l]] w (RetV (.agg #[.int .i64 a, .int .i64 b, .float .f32 l]) w) := by
  go_enter Try.func152, Try.ntmps152
  go_wp2
  go_returns
  exact ⟨rfl, (by repeat' (first | with_reducible exact Below.refl _ _ | with_reducible assumption | with_reducible refine below_dn ?_ _ | with_reducible refine Below.drew ?_ | with_reducible refine below_step ?_ (by assumption) | with_reducible refine Below.setCell ?_ ?_ _ | with_reducible refine Below.alloc ?_ ?_ _ | with_reducible exact Nat.le_refl _ | (simp; done) | (simp; omega) | omega))⟩
theorem In.at3 {w : World} {B n k : Nat} {A : Option Addr} {f : Nat → Value} (h : In w B 3 A n f) (hk : k < n) : ∃ b off, A = some ⟨b, off, none⟩ ∧ b < B ∧ w.cell? ⟨b, off + k * 3, none⟩ = some (f (k * 3)) ∧ w.cell? ⟨b, off + k * 3 + 1, none⟩ = some (f (k * 3 + 1)) ∧ w.cell? ⟨b, off + k * 3 + 2, none⟩ = some (f (k * 3 + 2)) := by
  obtain ⟨b, off, e, hb, hc⟩ := h (by omega)
  exact ⟨b, off, e, hb, hc (k * 3) (by omega), hc (k * 3 + 1) (by omega), hc (k * 3 + 2) (by omega)⟩
theorem Rw.at3 {w : World} {g cs n k : Nat} {t : TypeId} {f : Nat → Value} (h : Rw w g t cs (n * 3) f) (hk : k < n) : w.cell? ⟨g, k * 3, none⟩ = some (f (k * 3)) ∧ w.cell? ⟨g, k * 3 + 1, none⟩ = some (f (k * 3 + 1)) ∧ w.cell? ⟨g, k * 3 + 2, none⟩ = some (f (k * 3 + 2)) ∧ w.frozen? ⟨g, k * 3, none⟩ = false ∧ w.frozen? ⟨g, k * 3 + 1, none⟩ = false ∧ w.frozen? ⟨g, k * 3 + 2, none⟩ = false :=
  ⟨h.cell (by omega), h.cell (by omega), h.cell (by omega), h.frozen _, h.frozen _, h.frozen _⟩
theorem Rw.set3v {w : World} {g cs n : Nat} {t : TypeId} {p : Nat → V3} (h : Rw w g t cs n (vc p)) (k x y z : Nat) :
    Rw (((w.setCell ⟨g, k * 3, none⟩ (.float .f32 x)).setCell ⟨g, k * 3 + 1, none⟩ (.float .f32 y)).setCell ⟨g, k * 3 + 2, none⟩ (.float .f32 z)) g t cs n (vc (upd p k ⟨x, y, z⟩)) :=
  (((h.set _ _).set _ _).set _ _).congr fun j _ => Go.Proofs.Ytlhgaihfghobmaa.set3v p k x y z j
theorem Rw.set3r {w : World} {g cs n : Nat} {t : TypeId} {p : Nat → Rd} (h : Rw w g t cs n (rc p)) (k : Nat) (a b : Int) (l : Nat) :
    Rw (((w.setCell ⟨g, k * 3, none⟩ (.int .i64 a)).setCell ⟨g, k * 3 + 1, none⟩ (.int .i64 b)).setCell ⟨g, k * 3 + 2, none⟩ (.float .f32 l)) g t cs n (rc (upd p k ⟨a, b, l⟩)) :=
  (((h.set _ _).set _ _).set _ _).congr fun j _ => Go.Proofs.Ytlhgaihfghobmaa.set3r p k a b l j
/-- the first k are p's, the others q. -/
def upto {α : Type} (p : Nat → α) (q : α) (k : Nat) : Nat → α := fun i => if i < k then p i else q
theorem upto_step {α : Type} (p : Nat → α) (q : α) (k : Nat) : upd (upto p q k) k (p k) = upto p q (k + 1) := by
  funext i
  unfold upd upto
  by_cases h : i = k
  · subst h; rw [if_pos rfl, if_pos (by omega)]
  · rw [if_neg h]
    by_cases h2 : i < k
    · rw [if_pos h2, if_pos (by omega)]
    · rw [if_neg h2, if_neg (by omega)]
theorem vc_upto (p : Nat → V3) (q : V3) (n j : Nat) (h : j < n * 3) : vc (upto p q n) j = vc p j := by
  have e : upto p q n (j / 3) = p (j / 3) := if_pos (by omega)
  unfold vc; rw [e]
theorem rc_upto (p : Nat → Rd) (q : Rd) (n j : Nat) (h : j < n * 3) : rc (upto p q n) j = rc p j := by
  have e : upto p q n (j / 3) = p (j / 3) := if_pos (by omega)
  unfold rc; rw [e]
set_option maxHeartbeats 400000 in
theorem laws_toVectorS (A : Option Addr) (n cap : Nat) (p : Nat → V3) (hn : n ≤ 1048576) (w : World) (h : In w w.heap.size 3 A n (vc p)) :
    Calls Try.prog 78 #[.slice A n cap] w (RetSl 38 3 n (vc p) w) := by
  have hmk := make_vecs n hn
  have H := Lib.hid h
  clear h
  go_enter Try.func78, Try.ntmps78
  go_wp2
  go_loopw [4] (fun i wr => ∃ k : Nat, k ≤ n ∧ i = .int .i64 k ∧ Rw wr w.heap.size 38 (n * 3) (n * 3) (vc (upto p ⟨0, 0, 0⟩ k)) ∧ Below w.heap.size w wr) (fun i _ => n - (intOf i).toNat)
  case atStart => exact ⟨0, Nat.zero_le _, rfl, (Rw.made_vecs _ _).congr (fun _ _ => rfl), (by repeat' (first | with_reducible exact Below.refl _ _ | with_reducible assumption | with_reducible refine below_dn ?_ _ | with_reducible refine Below.drew ?_ | with_reducible refine below_step ?_ (by assumption) | with_reducible refine Below.setCell ?_ ?_ _ | with_reducible refine Below.alloc ?_ ?_ _ | with_reducible exact Nat.le_refl _ | (simp; done) | (simp; omega) | omega))⟩
  case round =>
    obtain ⟨k, hk, rfl, hr, hB⟩ := hrel
    by_cases hlt : k < n
    · obtain ⟨b, off, rfl, hb, d0, d1, d2⟩ := (H.out.below (Nat.le_refl _) hB).at3 hlt
      rw [vc0] at d0
      rw [vc1] at d1
      rw [vc2] at d2
      have hk0 : (0 : Int) ≤ (k : Int) := by omega
      have hk1 : (k : Int) < (n : Int) := by omega
      have HB := Lib.hid hB
      have HR := Lib.hid hr
      clear hB hr
      go_wp2_with fail
      refine (laws_toVector _ _ _ _).mono ?_
      rintro e w1 ⟨rfl, hb1⟩
      have hr1 := HR.out.go hb1
      obtain ⟨c0, c1, c2, f0, f1, f2⟩ := hr1.at3 hlt
      have HR1 := Lib.hid (hr1.set3v k (p k).x (p k).y (p k).z)
      have HB1 := Lib.hid (below_step HB.out hb1)
      clear hr1 hb1
      go_wp2
      go_roundw
      case rel => exact ⟨k + 1, by omega, by go_num, by rw [← upto_step]; exact HR1.out, ((HB1.out.setCell (Nat.le_refl _) _).setCell (Nat.le_refl _) _).setCell (Nat.le_refl _) _⟩
      case measure => simp [intOf]; omega
    · have hke : k = n := by omega
      subst hke
      have HB := Lib.hid hB
      have HR := Lib.hid hr
      clear hB hr
      go_wp2
      go_ret
      exact ⟨w.heap.size, rfl, Nat.le_refl _, HR.out.lt, fun _ => ⟨_, rfl, Nat.le_refl _, Nat.le_refl _, by unfold maxLen; omega, HR.out.congr (fun j hj => vc_upto p _ _ j hj)⟩, HB.out⟩
set_option maxHeartbeats 400000 in
theorem laws_toRodS (A : Option Addr) (n cap : Nat) (p : Nat → Rd) (hn : n ≤ 1048576) (w : World) (h : In w w.heap.size 3 A n (rc p)) :
    Calls Try.prog 80 #[.slice A n cap] w (RetSl 91 3 n (rc p) w) := by
  have hmk := make_rods n hn
  have H := Lib.hid h
  clear h
  go_enter Try.func80, Try.ntmps80
  go_wp2
  go_loopw [4] (fun i wr => ∃ k : Nat, k ≤ n ∧ i = .int .i64 k ∧ Rw wr w.heap.size 91 (n * 3) (n * 3) (rc (upto p ⟨0, 0, 0⟩ k)) ∧ Below w.heap.size w wr) (fun i _ => n - (intOf i).toNat)
  case atStart => exact ⟨0, Nat.zero_le _, rfl, (Rw.made_rods _ _).congr (fun _ _ => rfl), (by repeat' (first | with_reducible exact Below.refl _ _ | with_reducible assumption | with_reducible refine below_dn ?_ _ | with_reducible refine Below.drew ?_ | with_reducible refine below_step ?_ (by assumption) | with_reducible refine Below.setCell ?_ ?_ _ | with_reducible refine Below.alloc ?_ ?_ _ | with_reducible exact Nat.le_refl _ | (simp; done) | (simp; omega) | omega))⟩
  case round =>
    obtain ⟨k, hk, rfl, hr, hB⟩ := hrel
    by_cases hlt : k < n
    · obtain ⟨b, off, rfl, hb, d0, d1, d2⟩ := (H.out.below (Nat.le_refl _) hB).at3 hlt
      rw [rc0] at d0
      rw [rc1] at d1
      rw [rc2] at d2
      have hk0 : (0 : Int) ≤ (k : Int) := by omega
      have hk1 : (k : Int) < (n : Int) := by omega
      have HB := Lib.hid hB
      have HR := Lib.hid hr
      clear hB hr
      go_wp2_with fail
      refine (laws_toRod _ _ _ _).mono ?_
      rintro e w1 ⟨rfl, hb1⟩
      have hr1 := HR.out.go hb1
      obtain ⟨c0, c1, c2, f0, f1, f2⟩ := hr1.at3 hlt
      have HR1 := Lib.hid (hr1.set3r k (p k).a (p k).b (p k).l)
      have HB1 := Lib.hid (below_step HB.out hb1)
      clear hr1 hb1
      go_wp2
      go_roundw
      case rel => exact ⟨k + 1, by omega, by go_num, by rw [← upto_step]; exact HR1.out, ((HB1.out.setCell (Nat.le_refl _) _).setCell (Nat.le_refl _) _).setCell (Nat.le_refl _) _⟩
      case measure => simp [intOf]; omega
    · have hke : k = n := by omega
      subst hke
      have HB := Lib.hid hB
      have HR := Lib.hid hr
      clear hB hr
      go_wp2
      go_ret
      exact ⟨w.heap.size, rfl, Nat.le_refl _, HR.out.lt, fun _ => ⟨_, rfl, Nat.le_refl _, Nat.le_refl _, by unfold maxLen; omega, HR.out.congr (fun j hj => rc_upto p _ _ j hj)⟩, HB.out⟩
end Go.Proofs.Ytlhgaihfghobmaa
