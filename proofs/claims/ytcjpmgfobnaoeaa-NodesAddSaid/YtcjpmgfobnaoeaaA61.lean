/- nested (43): the walk. -/
import Derived.Test.YtcjpmgfobnaoeaaA60
namespace Go.Proofs.Ytcjpmgfobnaoeaa
open Go.RowKit
attribute [local irreducible] Calls

theorem mk62 (w : World) : (Instr.makeSlice 52 (.int .i64 62) (.int .i64 62)).run Try.prog w = .ok (.slice (some ⟨w.heap.size, 0, none⟩) 62 62) (w.alloc (.cells (Array.replicate 62 (.int .i64 0)) 3)) := by kernel_rfl
attribute [local go_sem] mk62

def st0 : St := ⟨fun _ => (0, 0), fun _ => 0, -1⟩

theorem zero129 : Try.zeroCells129 = Array.replicate 124 (.int .i64 0) := by kernel_rfl

theorem upd_same' {α : Type} {f : Int → α} {i j : Int} {v : α} (h : j = i) : upd f i v j = v := by rw [h]; exact upd_same _ _ _

/-- What nested's two lists hold. -/
structure NestMem (w : World) (s : St) (wx : World) : Prop where
  below : Below w.heap.size w wx
  en : ∃ E : Array Value, wx.heap[w.heap.size]? = some (.cells E 3 (0, 0)) ∧ E.size = 62 ∧ ∀ j : Nat, j < 62 → E[j]? = some (.int .i64 (s.en j))
  ab : ∃ A : Array Value, wx.heap[w.heap.size + 1]? = some (.cells A 129 (0, 0)) ∧ A.size = 124 ∧ ∀ j : Nat, j < 62 → A[j * 2]? = some (.int .i64 (s.ab j).1) ∧ A[j * 2 + 1]? = some (.int .i64 (s.ab j).2)
theorem NestMem.keep {w wx wy : World} {s : St} (h : NestMem w s wx) (hb : Below wx.heap.size wx wy) : NestMem w s wy := by
  obtain ⟨h1, ⟨E, e1, e2, e3⟩, ⟨A, a1, a2, a3⟩⟩ := h
  exact ⟨h1.trans (hb.mono h1.size), ⟨E, (hb.block _ (Array.getElem?_eq_some_iff.1 e1).1).trans e1, e2, e3⟩, ⟨A, (hb.block _ (Array.getElem?_eq_some_iff.1 a1).1).trans a1, a2, a3⟩⟩
theorem NestMem.step {w wx : World} {s : St} {p : Sp} {D : Nat} (h : NestMem w s wx) (hD : p.dp = D) (hl : D ≤ 60) :
    NestMem w (s.step p) ((((wx.setCell ⟨w.heap.size + 1, D * 2, none⟩ (.int .i64 p.fa)).setCell ⟨w.heap.size + 1, D * 2 + 1, none⟩ (.int .i64 p.fz)).setCell ⟨w.heap.size, D, none⟩ (.int .i64 p.fz)).setCell ⟨w.heap.size, D + 1, none⟩ (.int .i64 p.fa)) := by
  obtain ⟨h1, ⟨E, e1, e2, e3⟩, ⟨A, a1, a2, a3⟩⟩ := h
  have x1 := setCell_heap (i := D * 2) a1 (.int .i64 p.fa)
  have x2 := setCell_heap (i := D * 2 + 1) x1 (.int .i64 p.fz)
  have y0 : ((wx.setCell ⟨w.heap.size + 1, D * 2, none⟩ (.int .i64 p.fa)).setCell ⟨w.heap.size + 1, D * 2 + 1, none⟩ (.int .i64 p.fz)).heap[w.heap.size]? = some (.cells E 3 (0, 0)) := by
    rw [Below.heap_setCell _ _ _ _ (by show w.heap.size ≠ w.heap.size + 1; omega), Below.heap_setCell _ _ _ _ (by show w.heap.size ≠ w.heap.size + 1; omega)]; exact e1
  have y1 := setCell_heap (i := D) y0 (.int .i64 p.fz)
  have y2 := setCell_heap (i := D + 1) y1 (.int .i64 p.fa)
  refine ⟨(((h1.setCell (p := ⟨w.heap.size + 1, D * 2, none⟩) (by show _ ≤ w.heap.size + 1; omega) _).setCell (p := ⟨w.heap.size + 1, D * 2 + 1, none⟩) (by show _ ≤ w.heap.size + 1; omega) _).setCell (p := ⟨w.heap.size, D, none⟩) (Nat.le_refl _) _).setCell (p := ⟨w.heap.size, D + 1, none⟩) (Nat.le_refl _) _,
    ⟨_, y2, by simp [e2], fun j hj => ?_⟩, ⟨_, ((Below.heap_setCell _ _ _ _ (by show w.heap.size + 1 ≠ w.heap.size; omega)).trans (Below.heap_setCell _ _ _ _ (by show w.heap.size + 1 ≠ w.heap.size; omega))).trans x2, by simp [a2], fun j hj => ?_⟩⟩
  · show _ = some (Value.int IntKind.i64 (upd (upd s.en p.dp p.fz) (p.dp + 1) p.fa j))
    rw [hD, Array.getElem?_setIfInBounds, Array.getElem?_setIfInBounds]
    by_cases c1 : D + 1 = j
    · subst c1
      rw [if_pos rfl, if_pos (by simp [e2]; omega), upd_same' (by omega)]
    · rw [if_neg c1, upd_ne _ _ (by omega)]
      by_cases c2 : D = j
      · subst c2
        rw [if_pos rfl, if_pos (by omega), upd_same]
      · rw [if_neg c2, upd_ne _ _ (by omega)]
        exact e3 j hj
  · show _ = some (Value.int IntKind.i64 (upd s.ab p.dp (p.fa, p.fz) j).1) ∧ _ = some (Value.int IntKind.i64 (upd s.ab p.dp (p.fa, p.fz) j).2)
    rw [hD, Array.getElem?_setIfInBounds, Array.getElem?_setIfInBounds, Array.getElem?_setIfInBounds, Array.getElem?_setIfInBounds]
    by_cases c2 : D = j
    · subst c2
      rw [upd_same, if_neg (by omega), if_pos rfl, if_pos (by omega), if_pos rfl, if_pos (by simp [a2]; omega)]
      exact ⟨rfl, rfl⟩
    · rw [upd_ne _ _ (by omega), if_neg (by omega), if_neg (by omega), if_neg (by omega), if_neg (by omega)]
      exact a3 j hj

set_option maxRecDepth 100000 in
set_option maxHeartbeats 8000000 in
theorem nested_call (v : Value) (l : List Sp) (w : World) (hv : SpotsAt w v l) (hl : l.length ≤ 1000000) (hn : Nest st0 l) (hd : ∀ s ∈ l, 0 ≤ s.dp ∧ s.dp ≤ 60 ∧ s.fa ≤ s.fz) (hp : ∀ i (h : i < l.length), 0 < i → 0 < (l[i]).dp) :
    Calls Try.prog 43 #[v] w fun e w' => e = .returned (.bool true) ∧ Below w.heap.size w w' := by
  obtain ⟨a, c, rfl, hx⟩ := hv
  have HX := Lib.hid hx
  have HN := Lib.hid hn
  have HD := Lib.hid hd
  have HP := Lib.hid hp
  clear hx hn hd hp
  have hm0 : ∀ W, W = (w.alloc (.cells (Array.replicate 62 (.int .i64 0)) 3)).alloc (.cells Try.zeroCells129 129) → NestMem w st0 W := by
    rintro W rfl
    refine ⟨((Below.refl _ _).alloc (Nat.le_refl _) _).alloc (by simp) _, ⟨_, by rw [Below.heap_alloc _ _ _ (by simp)]; exact heap_alloc_new _ _, by simp, fun j hj => ?_⟩, ⟨_, heap_new2 _ _ _, by rw [zero129]; simp, fun j hj => ?_⟩⟩
    · rw [Array.getElem?_replicate, if_pos hj]; rfl
    · rw [zero129, Array.getElem?_replicate, Array.getElem?_replicate, if_pos (by omega), if_pos (by omega)]; exact ⟨rfl, rfl⟩
  have HM := Lib.hid hm0
  clear hm0
  go_enter Try.func43, Try.ntmps43
  go_wp2_with fail
  have M0 := Lib.hid (HM.out _ rfl)
  generalize (w.alloc (.cells (Array.replicate 62 (.int .i64 0)) 3)).alloc (.cells Try.zeroCells129 129) = W0 at *
  clear HM
  go_loopw [5] (fun iv wx => ∃ i : Nat, iv = .int .i64 i ∧ i ≤ l.length ∧ Hid (NestMem w (st0.run (l.take i)) wx)) (fun iv _ => l.length - (intOf iv).toNat)
  case atStart => exact ⟨0, rfl, by omega, M0.out⟩
  case round =>
    obtain ⟨i, rfl, hi, M⟩ := hrel
    by_cases hlt : i < l.length
    · obtain ⟨g, rfl, lg, q0, q1, q2, q3, q4⟩ := HX.out i hlt
      have hfit := nest_at l st0 HN.out i hlt
      have hdd := HD.out l[i] (List.getElem_mem hlt)
      have hrun := run_take (s := st0) hlt
      obtain ⟨s, hs⟩ : ∃ s, st0.run (l.take i) = s := ⟨_, rfl⟩
      rw [hs] at hfit hrun M
      have hs' := hs
      obtain ⟨p, hpp⟩ : ∃ p, l[i] = p := ⟨_, rfl⟩
      have hpos := HP.out i hlt
      rw [hpp] at hfit hdd hrun q0 q1 q2 q3 q4 hpos
      obtain ⟨D, hD⟩ : ∃ D : Nat, p.dp = (D : Int) := ⟨p.dp.toNat, by omega⟩
      obtain ⟨hf1, hf2⟩ := hfit
      rw [hD] at q4 hdd hpos hf1 hf2
      have hst := fun wx (h : NestMem w s wx) => h.step hD (by omega)
      have HST := Lib.hid hst
      have HRUN := Lib.hid hrun
      clear hst hrun
      have hltI : (i : Int) < (l.length : Int) := by omega
      have hi0 : (0 : Int) ≤ (i : Int) := Int.natCast_nonneg _
      have hD0 : (0 : Int) ≤ (D : Int) := Int.natCast_nonneg _
      have hD60 : (D : Int) ≤ 60 := by omega
      have hDn : D ≤ 60 := by omega
      have d1 : decide ((D : Int) < 0) = false := decide_eq_false (by omega)
      have d2 : decide ((60 : Int) < (D : Int)) = false := decide_eq_false (by omega)
      have d3 : decide (60 < D) = false := decide_eq_false (by omega)
      have d4 : decide (p.fz < p.fa) = false := decide_eq_false (by omega)
      have hwD1 : IntKind.i64.wrap ((D : Int) + 1) = ((D + 1 : Nat) : Int) := by rw [IntKind.wrap_i64]; omega
      have hwi1 : IntKind.i64.wrap ((i : Int) + 1) = ((i + 1 : Nat) : Int) := by rw [IntKind.wrap_i64]; omega
      have hwD : IntKind.i64.wrap (D : Int) = (D : Int) := by rw [IntKind.wrap_i64]; omega
      have hwi : IntKind.i64.wrap (i : Int) = (i : Int) := by rw [IntKind.wrap_i64]; omega
      have hbr := M.out.below
      have k0 : wr.cell? ⟨g, i * 5, none⟩ = some (.int .i64 p.sy) := (hbr.cell (p := ⟨g, _, none⟩) lg).trans q0
      have k1 : wr.cell? ⟨g, i * 5 + 1, none⟩ = some (.int .i64 p.pr) := (hbr.cell (p := ⟨g, _, none⟩) lg).trans q1
      have k2 : wr.cell? ⟨g, i * 5 + 2, none⟩ = some (.int .i64 p.fa) := (hbr.cell (p := ⟨g, _, none⟩) lg).trans q2
      have k3 : wr.cell? ⟨g, i * 5 + 3, none⟩ = some (.int .i64 p.fz) := (hbr.cell (p := ⟨g, _, none⟩) lg).trans q3
      have k4 : wr.cell? ⟨g, i * 5 + 4, none⟩ = some (.int .i64 (D : Int)) := (hbr.cell (p := ⟨g, _, none⟩) lg).trans q4
      clear q0 q1 q2 q3 q4 hD hs hpp
      have hs0 := Lib.hid hs'
      clear hs'
      by_cases hz : 0 < i
      · skip
        obtain ⟨j, hj⟩ : ∃ j, i = j + 1 := ⟨i - 1, by omega⟩
        have hjl : j < l.length := by omega
        have hDp := hpos hz
        obtain ⟨D', hD'⟩ : ∃ D', D = D' + 1 := ⟨D - 1, by omega⟩
        obtain ⟨g', hg', lg', _, _, _, _, q4'⟩ := HX.out j hjl
        injection hg' with hg'
        injection hg' with hg'
        subst hg'
        have hpd := run_pd st0 (l := l) (i := j) hjl
        rw [← hj, hs0.out] at hpd
        have hdj := HD.out (l[j]'hjl) (List.getElem_mem hjl)
        obtain ⟨P, hP⟩ : ∃ P, (l[j]'hjl).dp = P := ⟨_, rfl⟩
        rw [hP] at hpd hdj q4'
        obtain ⟨f1, f2, f3⟩ := hf2 (by omega)
        rw [show (D : Int) - 1 = (D' : Int) by omega] at f1 f2
        have e0 : decide ((0 : Int) < (i : Int)) = true := decide_eq_true (by omega)
        have e1 : decide (0 < i) = true := decide_eq_true (by omega)
        have e2 : decide ((0 : Int) < (D : Int)) = true := decide_eq_true (by omega)
        have e3 : decide (0 < D) = true := decide_eq_true (by omega)
        have e4 : ((D : Int) == 0) = false := beq_eq_false_iff_ne.2 (by omega)
        have e5 : (D == 0) = false := beq_eq_false_iff_ne.2 (by omega)
        have e6 : decide (P + 1 < (D : Int)) = false := decide_eq_false (by omega)
        have e7 : decide (p.fa < (s.ab D').1) = false := decide_eq_false (by omega)
        have e8 : decide ((s.ab D').2 < p.fz) = false := decide_eq_false (by omega)
        have e9 : decide (p.fa < s.en D) = false := decide_eq_false (by omega)
        have w1 : IntKind.i64.wrap ((i : Int) - 1) = (j : Int) := by rw [IntKind.wrap_i64]; omega
        have w2 : IntKind.i64.wrap (j : Int) = (j : Int) := by rw [IntKind.wrap_i64]; omega
        have w3 : IntKind.i64.wrap ((D : Int) - 1) = (D' : Int) := by rw [IntKind.wrap_i64]; omega
        have w4 : IntKind.i64.wrap (D' : Int) = (D' : Int) := by rw [IntKind.wrap_i64]; omega
        have w5 : IntKind.i64.wrap (P + 1) = P + 1 := by rw [IntKind.wrap_i64]; omega
        have i1 : (j : Int) < (l.length : Int) := by omega
        have i2 : (0 : Int) ≤ (j : Int) := Int.natCast_nonneg _
        have i3 : (D' : Int) < 62 := by omega
        have i4 : (0 : Int) ≤ (D' : Int) := Int.natCast_nonneg _
        have k5 : wr.cell? ⟨g, j * 5 + 4, none⟩ = some (.int .i64 P) := (hbr.cell (p := ⟨g, _, none⟩) lg').trans q4'
        have HDD := Lib.hid (show D' < 62 by omega)
        clear hj hD' hpd hdj hP q4' f1 f2 f3
        clear hf1 hf2 hpos hz hi hlt hDn hdd hs0 hDp
        go_upto_region 7 with (fail)
        have m0 : ∀ x : Sb wr, x.w.cell? ⟨g, i * 5, none⟩ = some (.int .i64 p.sy) := fun x => x.cell k0
        have m1 : ∀ x : Sb wr, x.w.cell? ⟨g, i * 5 + 1, none⟩ = some (.int .i64 p.pr) := fun x => x.cell k1
        have m2 : ∀ x : Sb wr, x.w.cell? ⟨g, i * 5 + 2, none⟩ = some (.int .i64 p.fa) := fun x => x.cell k2
        have m3 : ∀ x : Sb wr, x.w.cell? ⟨g, i * 5 + 3, none⟩ = some (.int .i64 p.fz) := fun x => x.cell k3
        have m4 : ∀ x : Sb wr, x.w.cell? ⟨g, i * 5 + 4, none⟩ = some (.int .i64 (D : Int)) := fun x => x.cell k4
        have m5 : ∀ x : Sb wr, x.w.cell? ⟨g, j * 5 + 4, none⟩ = some (.int .i64 P) := fun x => x.cell k5
        refine wp_region_sb (by kernel_rfl) (by kernel_rfl) ?_
        repeat (go_big_quiet_step (fail))
        refine wpQuiet_nil ?_
        intro x7
        have b7 := x7.below
        have M7 := Lib.hid (M.out.keep b7)
        replace k0 := m0 x7
        replace k1 := m1 x7
        replace k2 := m2 x7
        replace k3 := m3 x7
        replace k4 := m4 x7
        replace k5 := m5 x7
        clear m0 m1 m2 m3 m4 m5 M
        generalize x7.w = w7 at *
        clear x7
        obtain ⟨E, y1, y2, y3⟩ := M7.out.en
        obtain ⟨A, z1, z2, z3⟩ := M7.out.ab
        have c1 := cell_of_heap z1 (z3 D' HDD.out).1
        have c2 := cell_of_heap z1 (z3 D' HDD.out).2
        have c3 := cell_of_heap y1 (y3 D (by omega))
        clear y1 y2 y3 z1 z2 z3
        go_upto_region 9 with (fail)
        have m0 : ∀ x : Sb w7, x.w.cell? ⟨g, i * 5, none⟩ = some (.int .i64 p.sy) := fun x => x.cell k0
        have m1 : ∀ x : Sb w7, x.w.cell? ⟨g, i * 5 + 1, none⟩ = some (.int .i64 p.pr) := fun x => x.cell k1
        have m2 : ∀ x : Sb w7, x.w.cell? ⟨g, i * 5 + 2, none⟩ = some (.int .i64 p.fa) := fun x => x.cell k2
        have m3 : ∀ x : Sb w7, x.w.cell? ⟨g, i * 5 + 3, none⟩ = some (.int .i64 p.fz) := fun x => x.cell k3
        have m4 : ∀ x : Sb w7, x.w.cell? ⟨g, i * 5 + 4, none⟩ = some (.int .i64 (D : Int)) := fun x => x.cell k4
        have m5 : ∀ x : Sb w7, x.w.cell? ⟨g, j * 5 + 4, none⟩ = some (.int .i64 P) := fun x => x.cell k5
        have n1 : ∀ x : Sb w7, x.w.cell? ⟨w.heap.size + 1, D' * 2, none⟩ = some (.int .i64 (s.ab D').1) := fun x => x.cell c1
        have n2 : ∀ x : Sb w7, x.w.cell? ⟨w.heap.size + 1, D' * 2 + 1, none⟩ = some (.int .i64 (s.ab D').2) := fun x => x.cell c2
        have n3 : ∀ x : Sb w7, x.w.cell? ⟨w.heap.size, D, none⟩ = some (.int .i64 (s.en D)) := fun x => x.cell c3
        refine wp_region_sb (by kernel_rfl) (by kernel_rfl) ?_
        repeat (go_big_quiet_step (fail))
        refine wpQuiet_nil ?_
        intro x9
        have b9 := x9.below
        have M9 := Lib.hid (M7.out.keep b9)
        replace k0 := m0 x9
        replace k1 := m1 x9
        replace k2 := m2 x9
        replace k3 := m3 x9
        replace k4 := m4 x9
        replace k5 := m5 x9
        clear m0 m1 m2 m3 m4 m5 n1 n2 n3 c1 c2 c3
        generalize x9.w = w9 at *
        clear x9
        obtain ⟨E, y1, y2, y3⟩ := M9.out.en
        obtain ⟨A, z1, z2, z3⟩ := M9.out.ab
        have c1 := cell_of_heap z1 (z3 D (by omega)).1
        have c2 := cell_of_heap z1 (z3 D (by omega)).2
        have c3 := cell_of_heap y1 (y3 D (by omega))
        have c4 := cell_of_heap y1 (y3 (D + 1) (by omega))
        have f1 : w9.frozen? ⟨w.heap.size + 1, D * 2, none⟩ = false := frozen_of_heap z1
        have f2 : w9.frozen? ⟨w.heap.size + 1, D * 2 + 1, none⟩ = false := frozen_of_heap z1
        have f3 : w9.frozen? ⟨w.heap.size, D, none⟩ = false := frozen_of_heap y1
        have f4 : w9.frozen? ⟨w.heap.size, D + 1, none⟩ = false := frozen_of_heap y1
        have lgw : g ≠ w.heap.size ∧ g ≠ w.heap.size + 1 := by omega
        obtain ⟨lg1, lg2⟩ := lgw
        have hD62 : (D : Int) < 62 := by omega
        have hD63 : (D : Int) + 1 < 62 := by omega
        clear y1 y2 y3 z1 z2 z3
        go_wp2_with fail
        go_roundw
        case rel => exact ⟨i + 1, by go_num, by omega, by show NestMem _ _ _; rw [HRUN.out]; exact HST.out _ M9.out⟩
        case measure => simp [intOf]; omega
      · skip
        have e0 : decide ((0 : Int) < (i : Int)) = false := decide_eq_false (by omega)
        have e1 : decide (0 < i) = false := decide_eq_false (by omega)
        have hp0 : (D : Int) ≤ 0 := by
          have h1 : s = st0 := by rw [← hs0.out, show i = 0 by omega]; rfl
          rw [h1] at hf1
          exact hf1
        have e2 : decide ((0 : Int) < (D : Int)) = false := decide_eq_false (by omega)
        have e3 : decide (0 < D) = false := decide_eq_false (by omega)
        clear hf1 hf2 hpos hz hi hlt hDn hdd hs0 hp0
        go_upto_region 7 with (fail)
        have m0 : ∀ x : Sb wr, x.w.cell? ⟨g, i * 5, none⟩ = some (.int .i64 p.sy) := fun x => x.cell k0
        have m1 : ∀ x : Sb wr, x.w.cell? ⟨g, i * 5 + 1, none⟩ = some (.int .i64 p.pr) := fun x => x.cell k1
        have m2 : ∀ x : Sb wr, x.w.cell? ⟨g, i * 5 + 2, none⟩ = some (.int .i64 p.fa) := fun x => x.cell k2
        have m3 : ∀ x : Sb wr, x.w.cell? ⟨g, i * 5 + 3, none⟩ = some (.int .i64 p.fz) := fun x => x.cell k3
        have m4 : ∀ x : Sb wr, x.w.cell? ⟨g, i * 5 + 4, none⟩ = some (.int .i64 (D : Int)) := fun x => x.cell k4
        refine wp_region_sb (by kernel_rfl) (by kernel_rfl) ?_
        repeat (go_big_quiet_step (fail))
        refine wpQuiet_nil ?_
        intro x7
        have b7 := x7.below
        have M7 := Lib.hid (M.out.keep b7)
        replace k0 := m0 x7
        replace k1 := m1 x7
        replace k2 := m2 x7
        replace k3 := m3 x7
        replace k4 := m4 x7
        clear m0 m1 m2 m3 m4 M
        generalize x7.w = w7 at *
        clear x7
        go_upto_region 9 with (fail)
        have m0 : ∀ x : Sb w7, x.w.cell? ⟨g, i * 5, none⟩ = some (.int .i64 p.sy) := fun x => x.cell k0
        have m1 : ∀ x : Sb w7, x.w.cell? ⟨g, i * 5 + 1, none⟩ = some (.int .i64 p.pr) := fun x => x.cell k1
        have m2 : ∀ x : Sb w7, x.w.cell? ⟨g, i * 5 + 2, none⟩ = some (.int .i64 p.fa) := fun x => x.cell k2
        have m3 : ∀ x : Sb w7, x.w.cell? ⟨g, i * 5 + 3, none⟩ = some (.int .i64 p.fz) := fun x => x.cell k3
        have m4 : ∀ x : Sb w7, x.w.cell? ⟨g, i * 5 + 4, none⟩ = some (.int .i64 (D : Int)) := fun x => x.cell k4
        refine wp_region_sb (by kernel_rfl) (by kernel_rfl) ?_
        repeat (go_big_quiet_step (fail))
        refine wpQuiet_nil ?_
        intro x9
        have b9 := x9.below
        have M9 := Lib.hid (M7.out.keep b9)
        replace k0 := m0 x9
        replace k1 := m1 x9
        replace k2 := m2 x9
        replace k3 := m3 x9
        replace k4 := m4 x9
        clear m0 m1 m2 m3 m4
        generalize x9.w = w9 at *
        clear x9
        obtain ⟨E, y1, y2, y3⟩ := M9.out.en
        obtain ⟨A, z1, z2, z3⟩ := M9.out.ab
        have c1 := cell_of_heap z1 (z3 D (by omega)).1
        have c2 := cell_of_heap z1 (z3 D (by omega)).2
        have c3 := cell_of_heap y1 (y3 D (by omega))
        have c4 := cell_of_heap y1 (y3 (D + 1) (by omega))
        have f1 : w9.frozen? ⟨w.heap.size + 1, D * 2, none⟩ = false := frozen_of_heap z1
        have f2 : w9.frozen? ⟨w.heap.size + 1, D * 2 + 1, none⟩ = false := frozen_of_heap z1
        have f3 : w9.frozen? ⟨w.heap.size, D, none⟩ = false := frozen_of_heap y1
        have f4 : w9.frozen? ⟨w.heap.size, D + 1, none⟩ = false := frozen_of_heap y1
        have lgw : g ≠ w.heap.size ∧ g ≠ w.heap.size + 1 := by omega
        obtain ⟨lg1, lg2⟩ := lgw
        have hD62 : (D : Int) < 62 := by omega
        have hD63 : (D : Int) + 1 < 62 := by omega
        clear y1 y2 y3 z1 z2 z3
        go_wp2_with fail
        go_roundw
        case rel => exact ⟨i + 1, by go_num, by omega, by show NestMem _ _ _; rw [HRUN.out]; exact HST.out _ M9.out⟩
        case measure => simp [intOf]; omega
    · have hge : ¬ ((i : Int) < (l.length : Int)) := by omega
      have hb := M.out.below
      go_wp2_with fail
      go_ret
      exact ⟨rfl, hb⟩

end Go.Proofs.Ytcjpmgfobnaoeaa
