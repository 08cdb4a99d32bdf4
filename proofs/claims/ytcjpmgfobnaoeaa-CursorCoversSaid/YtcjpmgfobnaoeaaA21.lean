/- CursorTells: the walk. -/
import Derived.Test.YtcjpmgfobnaoeaaA18
import Derived.Test.YtcjpmgfobnaoeaaA20
import Derived.Test.YtcjpmgfobnaoeaaA6
namespace Go.Proofs.Ytcjpmgfobnaoeaa
open Go.RowKit
attribute [local irreducible] Calls

set_option maxRecDepth 100000 in
set_option maxHeartbeats 8000000 in
theorem cursorTells_walk (d : Dt) (v : Value) (a b t k : Int) (w : World) (hd : d.At w.heap.size w v) (ht : t ≤ 9223372036854775807) :
    Calls Try.prog 3 #[v, .agg #[.int .i64 a, .int .i64 b, .int .i64 t, .int .i64 k]] w fun e w' => e = .returned (.bool true) ∧ Below w.heap.size w w' := by
  have hd' := hd
  obtain ⟨kv, tv, sv, rfl, _, _, _⟩ := hd'
  have hW : ∀ W, W = (w.alloc (.cells #[.int .i64 d.tree.sy, .int .i64 d.tree.pr, kv, tv, sv] 28)).alloc (.cells #[.int .i64 a, .int .i64 b, .int .i64 t, .int .i64 k] 30) → Below w.heap.size w W ∧
      W.heap[w.heap.size]? = some (.cells #[.int .i64 d.tree.sy, .int .i64 d.tree.pr, kv, tv, sv] 28 (0, 0)) ∧ W.heap[w.heap.size + 1]? = some (.cells #[.int .i64 a, .int .i64 b, .int .i64 t, .int .i64 k] 30 (0, 0)) := by
    rintro W rfl
    exact ⟨((Below.refl _ _).alloc (Nat.le_refl _) _).alloc (by simp) _, by rw [Below.heap_alloc _ _ _ (by simp)]; exact heap_alloc_new _ _, heap_new2 _ _ _⟩
  have HW := Lib.hid hW
  have HD := Lib.hid hd
  clear hW hd
  go_enter Try.func3, Try.ntmps3
  apply wp_seq_k
  intro K1 k1
  have H1 := Lib.hid k1
  clear k1
  go_wp2_with fail
  refine H1.out _ _ ?_
  clear H1 K1
  obtain ⟨hB, hx2, hx3⟩ := HW.out _ rfl
  generalize (w.alloc (.cells #[.int .i64 d.tree.sy, .int .i64 d.tree.pr, kv, tv, sv] 28)).alloc (.cells #[.int .i64 a, .int .i64 b, .int .i64 t, .int .i64 k] 30) = W at *
  have p0 : W.cell? ⟨w.heap.size, 0, none⟩ = some (.int .i64 d.tree.sy) := cell_of_heap hx2 rfl
  have p1 : W.cell? ⟨w.heap.size, 1, none⟩ = some (.int .i64 d.tree.pr) := cell_of_heap hx2 rfl
  have p2 : W.cell? ⟨w.heap.size, 2, none⟩ = some kv := cell_of_heap hx2 rfl
  have p3 : W.cell? ⟨w.heap.size, 3, none⟩ = some tv := cell_of_heap hx2 rfl
  have p4 : W.cell? ⟨w.heap.size, 4, none⟩ = some sv := cell_of_heap hx2 rfl
  have hgr := great19 w.heap.size d _ W (HD.out.keep hB) hB.size
  have hX : ∀ wx, Below W.heap.size W wx → wx.heap[w.heap.size]? = some (.cells #[.int .i64 d.tree.sy, .int .i64 d.tree.pr, kv, tv, sv] 28 (0, 0)) ∧ wx.heap[w.heap.size + 1]? = some (.cells #[.int .i64 a, .int .i64 b, .int .i64 t, .int .i64 k] 30 (0, 0)) := fun wx hb =>
    ⟨(hb.block _ (Array.getElem?_eq_some_iff.1 hx2).1).trans hx2, (hb.block _ (Array.getElem?_eq_some_iff.1 hx3).1).trans hx3⟩
  have HX := Lib.hid hX
  clear HW hx2 hx3 hX
  cases hg : d.great with
  | true =>
    rw [hg] at hgr
    go_wp2_with (first | (go_at_call 19; refine hgr.mono ?_; rintro e w1 ⟨rfl, hb1⟩) | (go_at_call 20; refine (lives22 _).mono ?_; rintro e w2 ⟨rfl, hb2⟩))
    go_ret
    exact ⟨rfl, hB.trans ((hb1.trans (hb2.mono hb1.size)).mono hB.size)⟩
  | false =>
    rw [hg] at hgr
    have hcnt : d.tree.cnt ≤ 60 := by unfold Dt.great at hg; simpa using hg
    apply wp_seq_k
    intro K1 k1
    have H1 := Lib.hid k1
    clear k1
    go_wp2_with (first | (go_at_call 19; refine hgr.mono ?_; rintro e w1 ⟨rfl, hb1⟩))
    refine H1.out _ _ ?_
    clear H1 K1 hgr p0 p1 p2 p3 p4
    have hx1 := (HX.out _ hb1).1
    have p0 : w1.cell? ⟨w.heap.size, 0, none⟩ = some (.int .i64 d.tree.sy) := cell_of_heap hx1 rfl
    have p1 : w1.cell? ⟨w.heap.size, 1, none⟩ = some (.int .i64 d.tree.pr) := cell_of_heap hx1 rfl
    have p2 : w1.cell? ⟨w.heap.size, 2, none⟩ = some kv := cell_of_heap hx1 rfl
    have p3 : w1.cell? ⟨w.heap.size, 3, none⟩ = some tv := cell_of_heap hx1 rfl
    have p4 : w1.cell? ⟨w.heap.size, 4, none⟩ = some sv := cell_of_heap hx1 rfl
    clear hx1
    have hBW := hB.trans (hb1.mono hB.size)
    have hbt := built_any w.heap.size d _ w1 (HD.out.keep hBW) hBW.size (by omega)
    rcases hr : d.bld with x | pn
    · have hq : ∀ x : Int, x ≠ 0 → (x == 0) = false := fun x h => beq_eq_false_iff_ne.2 h
      have HQ := Lib.hid hq
      have HR := Lib.hid hr
      clear hq hr
      go_wp2_with (first
        | (go_at_call 21; refine hbt.mono ?_; rintro e w2 hsay; obtain ⟨hb2, hx0, rfl⟩ := hsay.err HR.out; have hq := HQ.out _ hx0; have hbx := hb1.trans (hb2.mono hb1.size); have c0 := cell_of_heap (i := 0) (v := .int .i64 a) (HX.out _ hbx).2 rfl; have c1 := cell_of_heap (i := 1) (v := .int .i64 b) (HX.out _ hbx).2 rfl; have c2 := cell_of_heap (i := 2) (v := .int .i64 t) (HX.out _ hbx).2 rfl)
        | (go_at_call 22; refine (cnew_nil _ _ _ _).mono ?_; rintro e w3 ⟨rfl, hb3⟩)
        | (go_at_call 20; refine (lives22 _).mono ?_; rintro e w4 ⟨rfl, hb4⟩))
      go_ret
      exact ⟨rfl, hB.trans ((hbx.trans ((hb3.trans (hb4.mono hb3.size)).mono hbx.size)).mono hB.size)⟩
    · have HR := Lib.hid hr
      clear hr
      apply wp_seq_k
      intro K1 k1
      have H1 := Lib.hid k1
      clear k1
      go_wp2_with (first
        | (go_at_call 21; refine hbt.mono ?_; rintro e w2 hsay; obtain ⟨hb2, n, rfl, rfl, hin, hwf, hht, hcn, _⟩ := hsay.ok HR.out))
      refine H1.out _ _ ?_
      clear H1 K1 hbt p0 p1 p2 p3 p4
      have hbx := hb1.trans (hb2.mono hb1.size)
      have c0 := cell_of_heap (i := 0) (v := .int .i64 a) (HX.out _ hbx).2 rfl
      have c1 := cell_of_heap (i := 1) (v := .int .i64 b) (HX.out _ hbx).2 rfl
      have c2 := cell_of_heap (i := 2) (v := .int .i64 t) (HX.out _ hbx).2 rfl
      have hok := Nd.WF.ok n hwf
      have hh : n.ht ≤ 1000000 := by omega
      have t1 := hok.tk1
      have t2 := hok.tk2
      have hT : ∀ w3, Below w2.heap.size w2 w3 → ∀ s : Sb w3, Calls Try.prog 24 #[.pointer (some ⟨n.b, 0, none⟩)] s.w fun e w' => e = .returned (.int .i64 n.tk) ∧ ∃ s' : Sb w3, w' = s'.w := fun w3 h3 s => Calls.sb (tokens_some n _ ((hin.below h3).below s.below))
      have hM : ∀ w3, ∀ s : Sb w3, Calls Try.prog 23 #[.int .i64 n.tk, .int .i64 a, .int .i64 b, .int .i64 t] s.w fun e w' => e = .returned (.bool (mayC n.tk a b t)) ∧ ∃ s' : Sb w3, w' = s'.w := fun w3 s => Calls.sb_same (may_any _ _ _ _ _ (by omega) t2 ht)
      have HT := Lib.hid hT
      have HM := Lib.hid hM
      have HIN := Lib.hid hin
      have HWF := Lib.hid hwf
      clear hT hM hok hin hwf
      cases hmay : mayC n.tk a b t with
      | false =>
        have hbad : ¬ (0 ≤ a ∧ 0 ≤ b ∧ a ≤ n.tk ∧ a ≤ t ∧ b ≤ n.tk - a ∧ b ≤ t - a) := by
          unfold mayC at hmay
          have := of_decide_eq_false hmay
          omega
        have HBAD := Lib.hid (cnew_bad n a b t w2 HIN.out t1 t2 hbad)
        clear hbad
        unfold Nd.ptr at HBAD ⊢
        go_upto_region 8 with (first | (go_at_call 22; refine HBAD.out.mono ?_; rintro e w3 ⟨rfl, hb3⟩))
        have hbx3 := hbx.trans (hb3.mono hbx.size)
        have q0 : ∀ s : Sb w3, s.w.cell? ⟨w.heap.size + 1, 0, none⟩ = some (.int .i64 a) := fun s => s.cell (cell_of_heap (HX.out _ hbx3).2 rfl)
        have q1 : ∀ s : Sb w3, s.w.cell? ⟨w.heap.size + 1, 1, none⟩ = some (.int .i64 b) := fun s => s.cell (cell_of_heap (HX.out _ hbx3).2 rfl)
        have q2 : ∀ s : Sb w3, s.w.cell? ⟨w.heap.size + 1, 2, none⟩ = some (.int .i64 t) := fun s => s.cell (cell_of_heap (HX.out _ hbx3).2 rfl)
        have HT3 := Lib.hid (HT.out w3 hb3)
        have HM3 := Lib.hid (HM.out w3)
        rw [hmay] at HM3
        go_wp2_with fail
        refine wp_region_sb (by kernel_rfl) (by kernel_rfl) ?_
        repeat (go_big_quiet_step (first | (go_at_call 24; exact HT3.out _) | (go_at_call 23; exact HM3.out _)))
        refine wpQuiet_nil ?_
        intro s
        clear q0 q1 q2
        go_wp2_with (first | (go_at_call 20; refine (lives22 _).mono ?_; rintro e w4 ⟨rfl, hb4⟩))
        go_ret
        exact ⟨rfl, hB.trans ((hbx3.trans ((s.below.trans (hb4.mono s.below.size)).mono hbx3.size)).mono hB.size)⟩
      | true =>
        have hc : CurOk n.tk a b t := by
          unfold mayC at hmay
          have := of_decide_eq_true hmay
          exact ⟨t1, t2, by omega, by omega, by omega, by omega, by omega, by omega, ht⟩
        have HNEW := Lib.hid (cnew_ok n a b t w2 HIN.out hc)
        unfold Nd.ptr at HNEW ⊢
        go_upto_region 8 with (first | (go_at_call 22; refine HNEW.out.mono ?_; rintro e w3 ⟨g3, rfl, hg3, hl3, hb3⟩))
        have hbx3 := hbx.trans (hb3.mono hbx.size)
        have q0 : ∀ s : Sb w3, s.w.cell? ⟨w.heap.size + 1, 0, none⟩ = some (.int .i64 a) := fun s => s.cell (cell_of_heap (HX.out _ hbx3).2 rfl)
        have q1 : ∀ s : Sb w3, s.w.cell? ⟨w.heap.size + 1, 1, none⟩ = some (.int .i64 b) := fun s => s.cell (cell_of_heap (HX.out _ hbx3).2 rfl)
        have q2 : ∀ s : Sb w3, s.w.cell? ⟨w.heap.size + 1, 2, none⟩ = some (.int .i64 t) := fun s => s.cell (cell_of_heap (HX.out _ hbx3).2 rfl)
        have HT3 := Lib.hid (HT.out w3 hb3)
        have HM3 := Lib.hid (HM.out w3)
        rw [hmay] at HM3
        have HG3 := Lib.hid hg3
        clear hg3
        go_wp2_with fail
        refine wp_region_sb (by kernel_rfl) (by kernel_rfl) ?_
        repeat (go_big_quiet_step (first | (go_at_call 24; exact HT3.out _) | (go_at_call 23; exact HM3.out _)))
        refine wpQuiet_nil ?_
        intro s
        clear q0 q1 q2
        have hbx4 := hbx3.trans (s.below.mono hbx3.size)
        have hn4 := HIN.out.below (hb3.trans (s.below.mono hb3.size))
        have hg4 : s.w.heap[g3]? = some (.cells #[n.ptr, .int .i64 a, .int .i64 b, .int .i64 t] 112 (0, 0)) := (s.below.block g3 (Array.getElem?_eq_some_iff.1 HG3.out).1).trans HG3.out
        generalize s.w = w4 at *
        have r3 : w4.cell? ⟨w.heap.size + 1, 3, none⟩ = some (.int .i64 k) := cell_of_heap (HX.out _ hbx4).2 rfl
        have HO := Lib.hid (old_some g3 n a b t k w4 hn4 hg4 hc)
        have HG4 := Lib.hid hg4
        clear hg4
        go_upto_region 13 with (first | (go_at_call 25; refine HO.out.mono ?_; rintro e w5 ⟨rfl, hb5⟩))
        have hbx5 := hbx4.trans (hb5.mono hbx4.size)
        have hn5 := hn4.below hb5
        have hg5 := (hb5.block g3 (Array.getElem?_eq_some_iff.1 HG4.out).1).trans HG4.out
        have q0 : ∀ s : Sb w5, s.w.cell? ⟨w.heap.size + 1, 0, none⟩ = some (.int .i64 a) := fun s => s.cell (cell_of_heap (HX.out _ hbx5).2 rfl)
        have q1 : ∀ s : Sb w5, s.w.cell? ⟨w.heap.size + 1, 1, none⟩ = some (.int .i64 b) := fun s => s.cell (cell_of_heap (HX.out _ hbx5).2 rfl)
        have q2 : ∀ s : Sb w5, s.w.cell? ⟨w.heap.size + 1, 2, none⟩ = some (.int .i64 t) := fun s => s.cell (cell_of_heap (HX.out _ hbx5).2 rfl)
        have q3 : ∀ s : Sb w5, s.w.cell? ⟨w.heap.size + 1, 3, none⟩ = some (.int .i64 k) := fun s => s.cell (cell_of_heap (HX.out _ hbx5).2 rfl)
        have HT5 := Lib.hid (fun s : Sb w5 => Calls.sb (tokens_some n _ (hn5.below s.below)))
        have HO5 := Lib.hid (fun s : Sb w5 => Calls.sb_same (s := s) (refOld_any n.tk a b t k s.w hc))
        have HG5 := Lib.hid hg5
        have hinr : (oldC n.tk a b t k).2 = true → 0 ≤ (oldC n.tk a b t k).1 ∧ (oldC n.tk a b t k).1 < n.tk := oldC_in hc
        have hatb : (oldC n.tk a b t k).2 = true → atC n a b t k = begN n.tk a b (oldC n.tk a b t k).1 0 n := atC_beg HWF.out hc
        have hatn : (oldC n.tk a b t k).2 = false → atC n a b t k = [] := atC_none
        clear hg5 r3
        generalize oldC n.tk a b t k = xy at *
        obtain ⟨x, y⟩ := xy
        unfold Nd.ptr at HT5
        refine wp_region_sb (by kernel_rfl) (by kernel_rfl) ?_
        repeat (go_big_quiet_step (first | (go_at_call 24; exact HT5.out _) | (go_at_call 26; exact HO5.out _)))
        refine wpQuiet_nil ?_
        intro s
        clear q0 q1 q2 q3
        have hbx6 := hbx5.trans (s.below.mono hbx5.size)
        have hn6 := hn5.below s.below
        have hg6 : s.w.heap[g3]? = some (.cells #[n.ptr, .int .i64 a, .int .i64 b, .int .i64 t] 112 (0, 0)) := (s.below.block g3 (Array.getElem?_eq_some_iff.1 HG5.out).1).trans HG5.out
        generalize s.w = w6 at *
        have r3 : w6.cell? ⟨w.heap.size + 1, 3, none⟩ = some (.int .i64 k) := cell_of_heap (HX.out _ hbx6).2 rfl
        have HA := Lib.hid (at_any g3 n a b t k w6 hn6 HWF.out hh hg6 hc)
        clear hg6
        simp only [] at hinr hatb hatn
        cases y with
        | false =>
          rw [hatn rfl] at HA
          go_wp2_with (first | (go_at_call 27; refine HA.out.mono ?_; rintro e w7 ⟨v7, rfl, hrow, hb7⟩; obtain ⟨A7, c7, rfl, _⟩ := ownsRow_any hrow) | (go_at_call 20; refine (lives22 _).mono ?_; rintro e w8 ⟨rfl, hb8⟩))
          go_ret
          exact ⟨rfl, hB.trans ((hbx6.trans ((hb7.trans (hb8.mono hb7.size)).mono hbx6.size)).mono hB.size)⟩
        | true =>
          rw [hatb rfl] at HA
          go_upto_region 19 with (first | (go_at_call 27; refine HA.out.mono ?_; rintro e w7 ⟨v7, rfl, hrow, hb7⟩; obtain ⟨A7, c7, rfl, hA7⟩ := ownsRow_any hrow))
          obtain ⟨x0, x1⟩ := hinr (by simp)
          have hbx7 := hbx6.trans (hb7.mono hbx6.size)
          have hn7 := hn6.below hb7
          have q0 : w7.cell? ⟨w.heap.size + 1, 0, none⟩ = some (.int .i64 a) := cell_of_heap (HX.out _ hbx7).2 rfl
          have q1 : w7.cell? ⟨w.heap.size + 1, 1, none⟩ = some (.int .i64 b) := cell_of_heap (HX.out _ hbx7).2 rfl
          have q2 : w7.cell? ⟨w.heap.size + 1, 2, none⟩ = some (.int .i64 t) := cell_of_heap (HX.out _ hbx7).2 rfl
          have q3 : w7.cell? ⟨w.heap.size + 1, 3, none⟩ = some (.int .i64 k) := cell_of_heap (HX.out _ hbx7).2 rfl
          have hbg : ∀ W, Below w7.heap.size w7 W → Calls Try.prog 28 #[n.ptr, .int .i64 n.tk, .agg #[.int .i64 a, .int .i64 b, .int .i64 t, .int .i64 k], .int .i64 0, .int .i64 x] W fun e w' => ∃ v, e = .returned v ∧
              w'.ownsRow W.heap.size 33 1 v (begN n.tk a b x 0 n).length ((begN n.tk a b x 0 n).map Nd.ptr) ∧ Below W.heap.size W w' := fun W hW =>
            begins_any n.tk a b t k x hc n 0 W (hn7.below hW) HWF.out (by omega) (by omega) (by omega)
          have htw : ∀ W, Below w7.heap.size w7 W → Calls Try.prog 24 #[n.ptr] W fun e w' => e = .returned (.int .i64 n.tk) ∧ Below W.heap.size W w' := fun W hW => tokens_some n W (hn7.below hW)
          have hlen := begN_len n.tk a b x n 0
          unfold Nd.ptr at htw
          have hbg' : ∀ W, Below w7.heap.size w7 W → Calls Try.prog 28 #[.pointer (some ⟨n.b, 0, none⟩), .int .i64 n.tk, .agg #[.int .i64 a, .int .i64 b, .int .i64 t, .int .i64 k], .int .i64 0, .int .i64 x] W fun e w' => ∃ v, e = .returned v ∧
              w'.ownsRow W.heap.size 33 1 v (begN n.tk a b x 0 n).length ((begN n.tk a b x 0 n).map Nd.ptr) ∧ Below W.heap.size W w' := hbg
          clear hatb hatn hbg
          generalize begN n.tk a b x 0 n = L at *
          have hA7l : ∀ i (hi : i < L.length), ∃ g, A7 = some ⟨g, 0, none⟩ ∧ g < w7.heap.size ∧ w7.cell? ⟨g, i, none⟩ = some (.pointer (some ⟨L[i].b, 0, none⟩)) := fun i hi => by
            obtain ⟨g, h1, _, h3, h4⟩ := hA7 i L[i].ptr (by simp [hi])
            exact ⟨g, h1, h3, h4⟩
          have HA7 := Lib.hid hA7l
          have HTW := Lib.hid htw
          have HBG := Lib.hid hbg'
          have hdw : Below w7.heap.size w7 w7.drew := (Below.refl _ _).drew
          clear hA7 hA7l htw hbg' r3 hrow
          go_region_held3 (fun W => W.cell? ⟨w.heap.size + 1, 0, none⟩ = some (.int .i64 a) ∧ W.cell? ⟨w.heap.size + 1, 1, none⟩ = some (.int .i64 b) ∧ W.cell? ⟨w.heap.size + 1, 2, none⟩ = some (.int .i64 t) ∧ W.cell? ⟨w.heap.size + 1, 3, none⟩ = some (.int .i64 k))
            (first
              | exact ⟨q0, q1, q2, q3⟩
              | exact ⟨cell_of_heap (HX.out _ hbx8).2 rfl, cell_of_heap (HX.out _ hbx8).2 rfl, cell_of_heap (HX.out _ hbx8).2 rfl, cell_of_heap (HX.out _ hbx8).2 rfl⟩
              | exact ⟨cell_of_heap (HX.out _ hbx9).2 rfl, cell_of_heap (HX.out _ hbx9).2 rfl, cell_of_heap (HX.out _ hbx9).2 rfl, cell_of_heap (HX.out _ hbx9).2 rfl⟩)
            (first
              | (go_at_call 24; refine (HTW.out _ hdw).mono ?_; rintro e w8 ⟨rfl, hb8⟩; have hb78 := hdw.trans hb8; have hbx8 := hbx7.trans (hb78.mono hbx7.size))
              | (go_at_call 28; refine (HBG.out _ hb78).mono ?_; rintro e w9 ⟨v9, rfl, hrow9, hb9⟩; obtain ⟨A9, c9, rfl, hA9⟩ := ownsRow_any hrow9; have hb79 := hb78.trans (hb9.mono hb78.size); have hbx9 := hbx7.trans (hb79.mono hbx7.size)))
          have hA9l : ∀ i (hi : i < L.length), ∃ g g', A7 = some ⟨g, 0, none⟩ ∧ A9 = some ⟨g', 0, none⟩ ∧ ∀ wx, Below w9.heap.size w9 wx → wx.cell? ⟨g, i, none⟩ = some (.pointer (some ⟨L[i].b, 0, none⟩)) ∧ wx.cell? ⟨g', i, none⟩ = some (.pointer (some ⟨L[i].b, 0, none⟩)) := fun i hi => by
            obtain ⟨g, h1, h2, h3⟩ := HA7.out i hi
            obtain ⟨g', h4, _, h6, h5⟩ := hA9 i L[i].ptr (by simp [hi])
            exact ⟨g, g', h1, h4, fun wx hx => ⟨((hb79.trans (hx.mono hb79.size)).cell (p := ⟨g, i, none⟩) h2).trans h3, (hx.cell (p := ⟨g', i, none⟩) h6).trans h5⟩⟩
          have HA9 := Lib.hid hA9l
          clear hA9 hA9l q0 q1 q2 q3 hrow9
          go_wp2_with fail
          go_loopw [17] (fun iv wx => ∃ i : Nat, iv = .int .i64 i ∧ i ≤ L.length ∧ Below w9.heap.size w9 wx) (fun iv _ => L.length - (intOf iv).toNat)
          case atStart => exact ⟨0, rfl, by omega, Below.refl _ _⟩
          case round =>
            obtain ⟨i, rfl, hi, hbr⟩ := hrel
            by_cases hlt : i < L.length
            · obtain ⟨g7, g9, rfl, rfl, e79⟩ := HA9.out i hlt
              obtain ⟨e7, e9⟩ := e79 _ hbr
              clear e79
              have hltI : (i : Int) < (L.length : Int) := by omega
              go_wp2_with fail
              go_quiet (fail)
              go_wp2_with fail
              go_roundw
              case rel => exact ⟨i + 1, by go_num, by omega, ⟨hbr.os, hbr.tape, hbr.output, hbr.size, hbr.block⟩⟩
              case measure => simp [intOf]; omega
            · have hge : ¬ ((i : Int) < (L.length : Int)) := by omega
              go_wp2_with (first | (go_at_call 20; refine (lives22 _).mono ?_; rintro e w10 ⟨rfl, hb10⟩))
              go_ret
              exact ⟨rfl, hB.trans ((hbx9.trans ((hbr.trans (hb10.mono hbr.size)).mono hbx9.size)).mono hB.size)⟩

end Go.Proofs.Ytcjpmgfobnaoeaa
