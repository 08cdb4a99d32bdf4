/- find: one step down, and its span. -/
import Derived.Test.YtcjpmgfobnaoeaaA23
namespace Go.Proofs.Ytcjpmgfobnaoeaa
open Go.RowKit

/-- The kid in whose bytes an offset lies. -/
def belowK (at' : Int) (fr : Int) : List Nd → Option (Nd × Int)
  | [] => none
  | k :: ks => if at' < fr + k.bt then some (k, fr) else belowK at' (fr + k.bt) ks

theorem belowK_cons (at' fr : Int) (k : Nd) (ks : List Nd) : belowK at' fr (k :: ks) = if at' < fr + k.bt then some (k, fr) else belowK at' (fr + k.bt) ks := rfl

/-- A step, as a value. -/
def stepV : Option (Nd × Int) → Value
  | none => .agg #[.pointer none, .int .i64 0]
  | some (k, f) => .agg #[.pointer (some ⟨k.b, 0, none⟩), .int .i64 f]

attribute [local irreducible] Calls
set_option maxRecDepth 100000 in
set_option maxHeartbeats 4000000 in
theorem below_call (n : Nd) (fr at' : Int) (w : World) (hin : n.In w) (hwf : n.WF) (hl : n.kids.length ≤ 1000000) (h0 : 0 ≤ fr) (h1 : fr + n.bt ≤ 1000000) :
    Calls Try.prog 75 #[.agg #[.pointer (some ⟨n.b, 0, none⟩), .int .i64 fr], .int .i64 at'] w fun e w' => e = .returned (stepV (belowK at' fr n.kids)) ∧ Below w.heap.size w w' := by
  have hsum := hwf.sum.2
  have hht := (Nd.WF.ok n hwf).ht1
  have hbox : ∀ W, W = (w.alloc (.cells #[.pointer (some ⟨n.b, 0, none⟩), .int .i64 fr] 126)).alloc (.cells #[.pointer none, .int .i64 0] 126) → Below w.heap.size w W ∧
      W.heap[w.heap.size]? = some (.cells #[.pointer (some ⟨n.b, 0, none⟩), .int .i64 fr] 126 (0, 0)) ∧ W.heap[w.heap.size + 1]? = some (.cells #[.pointer none, .int .i64 0] 126 (0, 0)) := by
    rintro W rfl
    exact ⟨((Below.refl _ _).alloc (Nat.le_refl _) _).alloc (by simp) _, by rw [Below.heap_alloc _ _ _ (by simp)]; exact heap_alloc_new _ _, heap_new2 _ _ _⟩
  have hkd := fun W (hW : Below w.heap.size w W) => kids_some n W (hin.below hW) (by omega) hl
  have HBOX := Lib.hid hbox
  have HKD := Lib.hid hkd
  have HIN := Lib.hid hin
  have HWF := Lib.hid hwf
  unfold Nd.ptr at HKD
  clear hbox hkd hin hwf
  go_enter Try.func75, Try.ntmps75
  apply wp_seq_k
  intro K1 k1
  have H1 := Lib.hid k1
  clear k1
  go_wp2_with fail
  refine H1.out _ _ ?_
  clear H1 K1
  obtain ⟨hB, x0, x1⟩ := HBOX.out _ rfl
  generalize (w.alloc (.cells #[.pointer (some ⟨n.b, 0, none⟩), .int .i64 fr] 126)).alloc (.cells #[.pointer none, .int .i64 0] 126) = W at *
  have c0 : W.cell? ⟨w.heap.size, 0, none⟩ = some (.pointer (some ⟨n.b, 0, none⟩)) := cell_of_heap x0 rfl
  have c1 : W.cell? ⟨w.heap.size, 1, none⟩ = some (.int .i64 fr) := cell_of_heap x0 rfl
  have l1 : w.heap.size + 1 < W.heap.size := (Array.getElem?_eq_some_iff.1 x1).1
  have X1 := Lib.hid x1
  clear x0 x1 HBOX
  go_wp2_with (first | (go_at_call 34; refine (HKD.out _ hB).mono ?_; rintro e w1 ⟨v1, rfl, hrow, hb1⟩; obtain ⟨A1, c1', rfl, hcell⟩ := ownsRow_any hrow))
  have hB1 := hB.trans (hb1.mono hB.size)
  have x1 := (hb1.block _ l1).trans X1.out
  have hcl : ∀ i (hi : i < n.kids.length), ∃ g, A1 = some ⟨g, 0, none⟩ ∧ g < w1.heap.size ∧ w1.cell? ⟨g, i, none⟩ = some (.pointer (some ⟨n.kids[i].b, 0, none⟩)) := fun i hi => by
    obtain ⟨g, h1, _, h3, h4⟩ := hcell i n.kids[i].ptr (by rw [List.getElem?_map, List.getElem?_eq_getElem hi]; rfl)
    exact ⟨g, h1, h3, h4⟩
  have HCL := Lib.hid hcl
  clear hcell hcl hrow
  go_loopg [5, 14] n.kids.length (fun gi fv iv wx => ∃ (i : Nat) (f : Int), fv = .int .i64 f ∧ iv = .int .i64 i ∧ i + gi = n.kids.length ∧ Below w1.heap.size w1 wx ∧ Hid (belowK at' f (n.kids.drop i) = belowK at' fr n.kids ∧ 0 ≤ f ∧ f + sumBt (n.kids.drop i) ≤ 1000000))
  case atStart => exact ⟨0, fr, rfl, rfl, by omega, Below.refl _ _, by rw [List.drop_zero], h0, by rw [List.drop_zero]; omega⟩
  case round =>
    obtain ⟨i, f, rfl, rfl, hi, hbr, HI⟩ := hrel
    have hBr := hB1.trans (hbr.mono hB1.size)
    have xr := (hbr.block _ (Array.getElem?_eq_some_iff.1 x1).1).trans x1
    by_cases hlt : i < n.kids.length
    · obtain ⟨g, rfl, hg, hq⟩ := HCL.out i hlt
      obtain ⟨kd, hkd⟩ : ∃ kd, kd = n.kids[i] := ⟨_, rfl⟩
      have hdrop := drop_cons hlt
      rw [← hkd] at hq hdrop
      have hmem : kd ∈ n.kids := by rw [hkd]; exact List.getElem_mem hlt
      have hq' : wr.cell? ⟨g, i, none⟩ = some (.pointer (some ⟨kd.b, 0, none⟩)) := (hbr.cell (p := ⟨g, i, none⟩) hg).trans hq
      have hki := HIN.out.head.2.2 kd hmem
      have hkw := HWF.out.kid kd hmem
      have hby := fun W (hW : Below w.heap.size w W) => bytes_some kd W (hki.below hW)
      unfold Nd.ptr at hby
      have HBY := Lib.hid hby
      have hI := HI.out
      rw [hdrop, sumBt_cons] at hI
      have hs0 := (sumBt_ge (l := n.kids.drop (i + 1)) fun m hm => (Nd.WF.ok m (HWF.out.kid m (List.mem_of_mem_drop hm))).bt0).1
      have hb0 := (Nd.WF.ok kd hkw).bt0
      obtain ⟨hI1, hI2, hI3⟩ := hI
      rw [belowK_cons] at hI1
      have hltI : (i : Int) < (n.kids.length : Int) := by omega
      have hi0 : (0 : Int) ≤ (i : Int) := Int.natCast_nonneg _
      have HX := Lib.hid xr
      have z0 : wr.frozen? ⟨w.heap.size + 1, 0, none⟩ = false := frozen_of_heap xr
      clear hq hkd hmem hki hkw hby hdrop HI xr
      by_cases hat : at' < f + kd.bt
      · rw [if_pos hat] at hI1
        have HI1 := Lib.hid hI1
        clear hI1
        go_wp2_with (first | (go_at_call 36; refine (HBY.out _ hBr).mono ?_; rintro e w2 ⟨rfl, hb2⟩; have y1 := (hb2.block _ (Array.getElem?_eq_some_iff.1 HX.out).1).trans HX.out; have z0 : w2.frozen? ⟨w.heap.size + 1, 0, none⟩ = false := frozen_of_heap y1; have z1 : w2.frozen? ⟨w.heap.size + 1, 1, none⟩ = false := frozen_of_heap y1; have y10 := cell_of_heap (i := 0) (v := .pointer none) y1 rfl; have y11 := cell_of_heap (i := 1) (v := .int .i64 0) y1 rfl; have Y1 := Lib.hid y1; clear y1))
        have G0 := setCell_heap (i := 0) Y1.out (.pointer (some ⟨kd.b, 0, none⟩))
        have G1 := setCell_heap (i := 1) G0 (.int .i64 f)
        have r0 := cell_of_heap (i := 0) (v := .pointer (some ⟨kd.b, 0, none⟩)) G1 rfl
        have r1 := cell_of_heap (i := 1) (v := .int .i64 f) G1 rfl
        have hb3 := hBr.trans (hb2.mono hBr.size)
        refine bodyPost_ret (v := .agg #[.pointer (some ⟨kd.b, 0, none⟩), .int .i64 f]) (by simp [results, Try.results75, go_sem, r0, r1]) rfl ⟨?_, (hb3.setCell (p := ⟨w.heap.size + 1, 0, none⟩) (by show w.heap.size ≤ w.heap.size + 1; omega) _).setCell (p := ⟨w.heap.size + 1, 1, none⟩) (by show w.heap.size ≤ w.heap.size + 1; omega) _⟩
        rw [← HI1.out]
        rfl
      · rw [if_neg hat] at hI1
        have HI1 := Lib.hid hI1
        clear hI1
        go_wp2_with (first
          | (go_at_call 36; refine (HBY.out _ hBr).mono ?_; rintro e w2 ⟨rfl, hb2⟩; have hBr2 := hBr.trans (hb2.mono hBr.size))
          | (go_at_call 36; refine (HBY.out _ hBr2).mono ?_; rintro e w3 ⟨rfl, hb3⟩))
        go_roundg (gk - 1)
        case measure => omega
        case rel => exact ⟨i + 1, f + kd.bt, by go_num, by go_num, by omega, hbr.trans ((hb2.trans (hb3.mono hb2.size)).mono hbr.size), HI1.out, by omega, by omega⟩
    · have hge : ¬ ((i : Int) < (n.kids.length : Int)) := by omega
      have HI1 := Lib.hid (show belowK at' fr n.kids = none by
        have h := HI.out.1
        rw [List.drop_of_length_le (by omega)] at h
        rw [← h]
        rfl)
      have HX := Lib.hid xr
      have z0 : wr.frozen? ⟨w.heap.size + 1, 0, none⟩ = false := frozen_of_heap xr
      have z1 : wr.frozen? ⟨w.heap.size + 1, 1, none⟩ = false := frozen_of_heap xr
      have y10 := cell_of_heap (i := 0) (v := .pointer none) xr rfl
      have y11 := cell_of_heap (i := 1) (v := .int .i64 0) xr rfl
      clear xr HI
      go_wp2_with fail
      have G0 := setCell_heap (i := 0) HX.out (.pointer none)
      have G1 := setCell_heap (i := 1) G0 (.int .i64 0)
      have r0 := cell_of_heap (i := 0) (v := .pointer none) G1 rfl
      have r1 := cell_of_heap (i := 1) (v := .int .i64 0) G1 rfl
      refine bodyPost_ret (v := .agg #[.pointer none, .int .i64 0]) (by simp [results, Try.results75, go_sem, r0, r1]) rfl ⟨?_, (hBr.setCell (p := ⟨w.heap.size + 1, 0, none⟩) (by show w.heap.size ≤ w.heap.size + 1; omega) _).setCell (p := ⟨w.heap.size + 1, 1, none⟩) (by show w.heap.size ≤ w.heap.size + 1; omega) _⟩
      rw [HI1.out]
      rfl

/-- The step's span. -/
theorem span_call (n : Nd) (fr : Int) (w : World) (hin : n.In w) (hwf : n.WF) (h0 : 0 ≤ fr) (h1 : fr + n.bt ≤ 1000000) :
    Calls Try.prog 76 #[.agg #[.pointer (some ⟨n.b, 0, none⟩), .int .i64 fr]] w fun e w' => e = .returned (.agg #[.int .i64 (fr + n.ld), .int .i64 (fr + n.bt)]) ∧ Below w.heap.size w w' := by
  have hok := Nd.WF.ok n hwf
  have hbox : ∀ W, W = (w.alloc (.cells #[.pointer (some ⟨n.b, 0, none⟩), .int .i64 fr] 126)).alloc (.cells #[.int .i64 0, .int .i64 0] 64) → Below w.heap.size w W ∧
      W.heap[w.heap.size]? = some (.cells #[.pointer (some ⟨n.b, 0, none⟩), .int .i64 fr] 126 (0, 0)) ∧ W.heap[w.heap.size + 1]? = some (.cells #[.int .i64 0, .int .i64 0] 64 (0, 0)) := by
    rintro W rfl
    exact ⟨((Below.refl _ _).alloc (Nat.le_refl _) _).alloc (by simp) _, by rw [Below.heap_alloc _ _ _ (by simp)]; exact heap_alloc_new _ _, heap_new2 _ _ _⟩
  have hld := fun W (hW : Below w.heap.size w W) => lead_some n W (hin.below hW)
  have hby := fun W (hW : Below w.heap.size w W) => bytes_some n W (hin.below hW)
  unfold Nd.ptr at hld hby
  have HBOX := Lib.hid hbox
  have HLD := Lib.hid hld
  have HBY := Lib.hid hby
  have l0 := hok.ld0
  have l1 := hok.ld1
  clear hbox hld hby hin hwf hok
  go_enter Try.func76, Try.ntmps76
  apply wp_seq_k
  intro K1 k1
  have H1 := Lib.hid k1
  clear k1
  go_wp2_with fail
  refine H1.out _ _ ?_
  clear H1 K1
  obtain ⟨hB, x0, x1⟩ := HBOX.out _ rfl
  generalize (w.alloc (.cells #[.pointer (some ⟨n.b, 0, none⟩), .int .i64 fr] 126)).alloc (.cells #[.int .i64 0, .int .i64 0] 64) = W at *
  have c0 : W.cell? ⟨w.heap.size, 0, none⟩ = some (.pointer (some ⟨n.b, 0, none⟩)) := cell_of_heap x0 rfl
  have c1 : W.cell? ⟨w.heap.size, 1, none⟩ = some (.int .i64 fr) := cell_of_heap x0 rfl
  have k0 : w.heap.size < W.heap.size := (Array.getElem?_eq_some_iff.1 x0).1
  have k1 : w.heap.size + 1 < W.heap.size := (Array.getElem?_eq_some_iff.1 x1).1
  have X0 := Lib.hid x0
  have X1 := Lib.hid x1
  have hdw : Below w.heap.size w W.drew := hB.drew
  clear x0 x1 HBOX
  go_wp2_with fail
  go_region_held3 (fun W => W.cell? ⟨w.heap.size, 0, none⟩ = some (.pointer (some ⟨n.b, 0, none⟩)) ∧ W.cell? ⟨w.heap.size, 1, none⟩ = some (.int .i64 fr))
    (first
      | exact ⟨c0, c1⟩
      | exact ⟨c0', c1'⟩
      | exact ⟨c0'', c1''⟩
      | exact ⟨s0 _ _, s1 _ _⟩)
    (first
      | (go_at_call 37; refine (HLD.out _ hdw).mono ?_; rintro e w1 ⟨rfl, hb1⟩; have hB1 := hdw.trans (hb1.mono hdw.size); have c0' := (hb1.cell (p := ⟨w.heap.size, 0, none⟩) k0).trans c0; have c1' := (hb1.cell (p := ⟨w.heap.size, 1, none⟩) k0).trans c1)
      | (go_at_call 36; refine (HBY.out _ hB1).mono ?_; rintro e w2 ⟨rfl, hb2⟩; have hB2 := hB1.trans (hb2.mono hB1.size); have c0'' := (hb2.cell (World.block_lt_of_cell? _ _ c0')).trans c0'; have c1'' := (hb2.cell (World.block_lt_of_cell? _ _ c1')).trans c1'; have y1 := (hb2.block _ (Nat.lt_of_lt_of_le k1 hb1.size)).trans ((hb1.block _ k1).trans X1.out); have z0 : w2.frozen? ⟨w.heap.size + 1, 0, none⟩ = false := frozen_of_heap y1; have z1 : w2.frozen? ⟨w.heap.size + 1, 1, none⟩ = false := frozen_of_heap y1; have y10 := cell_of_heap (i := 0) (v := .int .i64 0) y1 rfl; have y11 := cell_of_heap (i := 1) (v := .int .i64 0) y1 rfl; have Y1 := Lib.hid y1; clear y1; have s0 := fun u v => ((((Below.refl (w.heap.size + 1) w2).setCell (p := ⟨w.heap.size + 1, 0, none⟩) (Nat.le_refl _) u).setCell (p := ⟨w.heap.size + 1, 1, none⟩) (Nat.le_refl _) v).cell (p := ⟨w.heap.size, 0, none⟩) (Nat.lt_succ_self _)).trans c0''; have s1 := fun u v => ((((Below.refl (w.heap.size + 1) w2).setCell (p := ⟨w.heap.size + 1, 0, none⟩) (Nat.le_refl _) u).setCell (p := ⟨w.heap.size + 1, 1, none⟩) (Nat.le_refl _) v).cell (p := ⟨w.heap.size, 1, none⟩) (Nat.lt_succ_self _)).trans c1''))
  have hw1 : IntKind.i64.wrap (fr + n.ld) = fr + n.ld := by rw [IntKind.wrap_i64]; omega
  have hw2 : IntKind.i64.wrap (fr + n.bt) = fr + n.bt := by rw [IntKind.wrap_i64]; omega
  rw [hw1, hw2]
  have G0 := setCell_heap (i := 0) Y1.out (.int .i64 (fr + n.ld))
  have G1 := setCell_heap (i := 1) G0 (.int .i64 (fr + n.bt))
  have r0 := cell_of_heap (i := 0) (v := .int .i64 (fr + n.ld)) G1 rfl
  have r1 := cell_of_heap (i := 1) (v := .int .i64 (fr + n.bt)) G1 rfl
  clear c0 c1 c0' c1' c0'' c1'' s0 s1 z0 z1 y10 y11
  go_wp2_with fail
  exact bodyPost_ret (v := .agg #[.int .i64 (fr + n.ld), .int .i64 (fr + n.bt)]) (by simp [results, Try.results76, go_sem, r0, r1]) rfl ⟨rfl, (hB2.setCell (p := ⟨w.heap.size + 1, 0, none⟩) (by show w.heap.size ≤ w.heap.size + 1; omega) _).setCell (p := ⟨w.heap.size + 1, 1, none⟩) (by show w.heap.size ≤ w.heap.size + 1; omega) _⟩

end Go.Proofs.Ytcjpmgfobnaoeaa
