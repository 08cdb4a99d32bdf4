/- find.At. -/
import Derived.Test.YtcjpmgfobnaoeaaA25
namespace Go.Proofs.Ytcjpmgfobnaoeaa
open Go.RowKit

theorem spots_cons (s : Sp) (l : List Sp) : spots (s :: l) = s.cells ++ spots l := by simp [spots]
theorem spots_get : ∀ (l : List Sp) (i : Nat) (h : i < l.length) (j : Nat), j < 5 → (spots l)[i * 5 + j]? = (l[i].cells)[j]?
  | s :: l, 0, _, j, hj => by
    rw [spots_cons, Nat.zero_mul, Nat.zero_add, List.getElem?_append_left (by simp [Sp.cells]; omega)]
    rfl
  | s :: l, i + 1, h, j, hj => by
    rw [spots_cons, List.getElem?_append_right (by simp [Sp.cells]; omega)]
    have := spots_get l i (by simpa using h) j hj
    simp only [List.getElem_cons_succ]
    rw [← this]
    congr 1
    simp only [Sp.cells, List.length_cons, List.length_nil]
    omega
theorem spots_len (l : List Sp) : (spots l).length = l.length * 5 := by
  induction l with
  | nil => rfl
  | cons s l ih => rw [spots_cons, List.length_append, ih]; simp [Sp.cells]; omega

/-- The cells of a row of spots. -/
theorem spots_row {w : World} {base n : Nat} {v : Value} {l : List Sp} (h : w.ownsRow base 66 5 v n (spots l)) : n = l.length ∧ ∃ A c, v = .slice A l.length c ∧ ∀ i (hi : i < l.length), ∃ g, A = some ⟨g, 0, none⟩ ∧ base ≤ g ∧ g < w.heap.size ∧
    w.cell? ⟨g, i * 5, none⟩ = some (.int .i64 l[i].sy) ∧ w.cell? ⟨g, i * 5 + 1, none⟩ = some (.int .i64 l[i].pr) ∧ w.cell? ⟨g, i * 5 + 2, none⟩ = some (.int .i64 l[i].fa) ∧ w.cell? ⟨g, i * 5 + 3, none⟩ = some (.int .i64 l[i].fz) ∧ w.cell? ⟨g, i * 5 + 4, none⟩ = some (.int .i64 l[i].dp) := by
  have hn : n = l.length := by have := h.1; rw [spots_len] at this; omega
  subst hn
  rcases h.2 with ⟨rfl, h0⟩ | ⟨g, c, cur, rfl, hb, hg, h3, h4, h5, h6⟩
  · refine ⟨rfl, none, 0, by rw [h0], fun i hi => by omega⟩
  · refine ⟨rfl, _, c, rfl, fun i hi => ?_⟩
    have hc : ∀ j, j < 5 → ∀ u, (l[i].cells)[j]? = some u → w.cell? ⟨g, i * 5 + j, none⟩ = some u := fun j hj u hu => by
      refine cell_of_heap hg ?_
      have := spots_get l i hi j hj
      rw [hu, ← h6, List.getElem?_take] at this
      split at this
      · simpa using this
      · simp at this
    exact ⟨g, rfl, hb, (Array.getElem?_eq_some_iff.1 hg).1, hc 0 (by decide) _ rfl, hc 1 (by decide) _ rfl, hc 2 (by decide) _ rfl, hc 3 (by decide) _ rfl, hc 4 (by decide) _ rfl⟩

/-- A spot, as a value. -/
def Sp.val (s : Sp) : Value := .agg #[.int .i64 s.sy, .int .i64 s.pr, .int .i64 s.fa, .int .i64 s.fz, .int .i64 s.dp]
def sp0 : Sp := ⟨0, 0, 0, 0, 0⟩

def set5w (w : World) (b : Nat) (v0 v1 v2 v3 v4 : Value) : World := ((((w.setCell ⟨b, 0, none⟩ v0).setCell ⟨b, 1, none⟩ v1).setCell ⟨b, 2, none⟩ v2).setCell ⟨b, 3, none⟩ v3).setCell ⟨b, 4, none⟩ v4
theorem set5 {w : World} {b : Nat} {a0 a1 a2 a3 a4 : Value} {e : TypeId} (h : w.heap[b]? = some (.cells #[a0, a1, a2, a3, a4] e (0, 0))) (v0 v1 v2 v3 v4 : Value) : (set5w w b v0 v1 v2 v3 v4).heap[b]? = some (.cells #[v0, v1, v2, v3, v4] e (0, 0)) :=
  setCell_heap (i := 4) (setCell_heap (i := 3) (setCell_heap (i := 2) (setCell_heap (i := 1) (setCell_heap (i := 0) h v0) v1) v2) v3) v4
theorem set5b {w w' : World} {b B : Nat} (h : Below B w w') (hb : B ≤ b) (v0 v1 v2 v3 v4 : Value) : Below B w (set5w w' b v0 v1 v2 v3 v4) :=
  ((((h.setCell (p := ⟨b, 0, none⟩) hb _).setCell (p := ⟨b, 1, none⟩) hb _).setCell (p := ⟨b, 2, none⟩) hb _).setCell (p := ⟨b, 3, none⟩) hb _).setCell (p := ⟨b, 4, none⟩) hb _

attribute [local irreducible] Calls
set_option maxHeartbeats 2000000 in
theorem at_err (p : Value) (at' x : Int) (w : World) (hx : x ≠ 0) (h : ∀ W, Below w.heap.size w W → Calls Try.prog 40 #[p, .int .i64 at'] W fun e w' => e = .returned (.tuple #[.slice none 0 0, .int .i64 x]) ∧ Below W.heap.size W w') :
    Calls Try.prog 41 #[p, .int .i64 at'] w fun e w' => e = .returned (.tuple #[sp0.val, .int .i64 x]) ∧ Below w.heap.size w w' := by
  have hq : (x == 0) = false := beq_eq_false_iff_ne.2 hx
  have e0 := heap_alloc_new w (.cells #[.int .i64 0, .int .i64 0, .int .i64 0, .int .i64 0, .int .i64 0] 66)
  have eb := below_alloc w (.cells #[.int .i64 0, .int .i64 0, .int .i64 0, .int .i64 0, .int .i64 0] 66)
  have H := Lib.hid h
  have E := Lib.hid (And.intro e0 eb)
  clear h e0 eb
  go_enter Try.func41, Try.ntmps41
  go_wp2_with (first | (go_at_call 40; refine (H.out _ E.out.2).mono ?_; rintro e w1 ⟨rfl, hb⟩; have y := (hb.block _ (Array.getElem?_eq_some_iff.1 E.out.1).1).trans E.out.1; have z : ∀ i, w1.frozen? ⟨w.heap.size, i, none⟩ = false := (fun i => frozen_of_heap y); have y0 := cell_of_heap (i := 0) (v := .int .i64 0) y rfl; have y1 := cell_of_heap (i := 1) (v := .int .i64 0) y rfl; have y2 := cell_of_heap (i := 2) (v := .int .i64 0) y rfl; have y3 := cell_of_heap (i := 3) (v := .int .i64 0) y rfl; have y4 := cell_of_heap (i := 4) (v := .int .i64 0) y rfl; have Y := Lib.hid y; clear y))
  have G := set5 Y.out (.int .i64 0) (.int .i64 0) (.int .i64 0) (.int .i64 0) (.int .i64 0)
  have r0 := cell_of_heap (i := 0) G rfl
  have r1 := cell_of_heap (i := 1) G rfl
  have r2 := cell_of_heap (i := 2) G rfl
  have r3 := cell_of_heap (i := 3) G rfl
  have r4 := cell_of_heap (i := 4) G rfl
  unfold set5w at r0 r1 r2 r3 r4
  exact bodyPost_ret (v := .tuple #[.agg #[.int .i64 0, .int .i64 0, .int .i64 0, .int .i64 0, .int .i64 0], .int .i64 x]) (by simp [results, Try.results41, go_sem, r0, r1, r2, r3, r4]) rfl ⟨rfl, set5b (E.out.2.trans (hb.mono E.out.2.size)) (Nat.le_refl _) _ _ _ _ _⟩

set_option maxHeartbeats 2000000 in
theorem at_okv (p : Value) (at' : Int) (l : List Sp) (s : Sp) (w : World) (hl : l.length ≤ 100000) (hs : l.getLast? = some s) (h : ∀ W, Below w.heap.size w W → Calls Try.prog 40 #[p, .int .i64 at'] W fun e w' => ∃ v, e = .returned (.tuple #[v, .int .i64 0]) ∧ w'.ownsRow W.heap.size 66 5 v l.length (spots l) ∧ Below W.heap.size W w') :
    Calls Try.prog 41 #[p, .int .i64 at'] w fun e w' => e = .returned (.tuple #[s.val, .int .i64 0]) ∧ Below w.heap.size w w' := by
  have hne : l ≠ [] := by intro e; subst e; simp at hs
  have hp : 0 < l.length := List.length_pos_iff.2 hne
  have hlast : l[l.length - 1] = s := by
    rw [List.getLast?_eq_some_getLast hne, List.getLast_eq_getElem hne] at hs
    simpa using hs
  have e0 := heap_alloc_new w (.cells #[.int .i64 0, .int .i64 0, .int .i64 0, .int .i64 0, .int .i64 0] 66)
  have eb := below_alloc w (.cells #[.int .i64 0, .int .i64 0, .int .i64 0, .int .i64 0, .int .i64 0] 66)
  have H := Lib.hid h
  have E := Lib.hid (And.intro e0 eb)
  obtain ⟨m, hlm⟩ : ∃ m, l.length = m + 1 := ⟨l.length - 1, by omega⟩
  have hm2 : m < l.length := by omega
  have hlast : l[m] = s := by rw [← hlast]; congr 1; omega
  clear h e0 eb hs
  go_enter Try.func41, Try.ntmps41
  go_upto_region 4 with (first | (go_at_call 40; refine (H.out _ E.out.2).mono ?_; rintro e w1 ⟨v, rfl, hrow, hb⟩; have y := (hb.block _ (Array.getElem?_eq_some_iff.1 E.out.1).1).trans E.out.1; have z : ∀ i, w1.frozen? ⟨w.heap.size, i, none⟩ = false := (fun i => frozen_of_heap y); have y0 := cell_of_heap (i := 0) (v := .int .i64 0) y rfl; have y1 := cell_of_heap (i := 1) (v := .int .i64 0) y rfl; have y2 := cell_of_heap (i := 2) (v := .int .i64 0) y rfl; have y3 := cell_of_heap (i := 3) (v := .int .i64 0) y rfl; have y4 := cell_of_heap (i := 4) (v := .int .i64 0) y rfl; have Y := Lib.hid y; clear y; obtain ⟨_, A, c, rfl, hcell⟩ := spots_row hrow; rw [hlm]; obtain ⟨g, rfl, _, _, q0, q1, q2, q3, q4⟩ := hcell _ hm2; rw [hlast] at q0 q1 q2 q3 q4))
  clear hrow hcell
  have hi1 : (0 : Int) ≤ (m : Int) := Int.natCast_nonneg _
  have hi2 : (m : Int) < ((m + 1 : Nat) : Int) := by omega
  have hi3 : (((m + 1 : Nat) : Int) - 1) = (m : Int) := by omega
  go_wp2_with fail
  have G := set5 Y.out (.int .i64 s.sy) (.int .i64 s.pr) (.int .i64 s.fa) (.int .i64 s.fz) (.int .i64 s.dp)
  have r0 := cell_of_heap (i := 0) G rfl
  have r1 := cell_of_heap (i := 1) G rfl
  have r2 := cell_of_heap (i := 2) G rfl
  have r3 := cell_of_heap (i := 3) G rfl
  have r4 := cell_of_heap (i := 4) G rfl
  unfold set5w at r0 r1 r2 r3 r4
  exact bodyPost_ret (v := .tuple #[.agg #[.int .i64 s.sy, .int .i64 s.pr, .int .i64 s.fa, .int .i64 s.fz, .int .i64 s.dp], .int .i64 0]) (by simp [results, Try.results41, go_sem, r0, r1, r2, r3, r4]) rfl ⟨rfl, set5b (E.out.2.trans (hb.mono E.out.2.size)) (Nat.le_refl _) _ _ _ _ _⟩

end Go.Proofs.Ytcjpmgfobnaoeaa
