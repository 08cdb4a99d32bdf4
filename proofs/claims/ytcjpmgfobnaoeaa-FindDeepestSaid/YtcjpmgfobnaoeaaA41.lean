/- FindDeepest: the walk. -/
import Derived.Test.YtcjpmgfobnaoeaaA39
import Derived.Test.YtcjpmgfobnaoeaaA40
namespace Go.Proofs.Ytcjpmgfobnaoeaa
open Go.RowKit

theorem take_filter {α : Type} (p : α → Bool) {l : List α} {i : Nat} (h : i < l.length) : (l.take (i + 1)).filter p = (l.take i).filter p ++ (if p l[i] then [l[i]] else []) := by
  rw [List.take_succ_eq_append_getElem h, List.filter_append]
  congr 1
  rw [List.filter_cons]
  split <;> simp

attribute [local irreducible] Calls
set_option maxRecDepth 100000 in
set_option maxHeartbeats 8000000 in
theorem findDeepest_walk (d : Dt) (v : Value) (at' : Int) (w : World) (hd : d.At w.heap.size w v) :
    Calls Try.prog 13 #[v, .int .i64 at'] w fun e w' => e = .returned (.bool true) ∧ Below w.heap.size w w' := by
  have hd' := hd
  obtain ⟨kv, tv, sv, rfl, _, _, _⟩ := hd'
  have hW : ∀ W, W = w.alloc (.cells #[.int .i64 d.tree.sy, .int .i64 d.tree.pr, kv, tv, sv] 28) → Below w.heap.size w W ∧
      W.heap[w.heap.size]? = some (.cells #[.int .i64 d.tree.sy, .int .i64 d.tree.pr, kv, tv, sv] 28 (0, 0)) := by
    rintro W rfl
    exact ⟨below_alloc _ _, heap_alloc_new _ _⟩
  have HW := Lib.hid hW
  have HD := Lib.hid hd
  clear hW hd
  go_enter Try.func13, Try.ntmps13
  apply wp_seq_k
  intro K1 k1
  have H1 := Lib.hid k1
  clear k1
  go_wp2_with fail
  refine H1.out _ _ ?_
  clear H1 K1
  obtain ⟨hB, hx2⟩ := HW.out _ rfl
  generalize w.alloc (.cells #[.int .i64 d.tree.sy, .int .i64 d.tree.pr, kv, tv, sv] 28) = W at *
  have p0 : W.cell? ⟨w.heap.size, 0, none⟩ = some (.int .i64 d.tree.sy) := cell_of_heap hx2 rfl
  have p1 : W.cell? ⟨w.heap.size, 1, none⟩ = some (.int .i64 d.tree.pr) := cell_of_heap hx2 rfl
  have p2 : W.cell? ⟨w.heap.size, 2, none⟩ = some kv := cell_of_heap hx2 rfl
  have p3 : W.cell? ⟨w.heap.size, 3, none⟩ = some tv := cell_of_heap hx2 rfl
  have p4 : W.cell? ⟨w.heap.size, 4, none⟩ = some sv := cell_of_heap hx2 rfl
  have hgr := great38 w.heap.size d _ W (HD.out.keep hB) hB.size
  have hX : ∀ wx, Below W.heap.size W wx → wx.heap[w.heap.size]? = some (.cells #[.int .i64 d.tree.sy, .int .i64 d.tree.pr, kv, tv, sv] 28 (0, 0)) := fun wx hb =>
    (hb.block _ (Array.getElem?_eq_some_iff.1 hx2).1).trans hx2
  have HX := Lib.hid hX
  clear HW hx2 hX
  cases hg : d.great with
  | true =>
    rw [hg] at hgr
    go_wp2_with (first | (go_at_call 38; refine hgr.mono ?_; rintro e w1 ⟨rfl, hb1⟩) | (go_at_call 39; refine (lives25 _).mono ?_; rintro e w2 ⟨rfl, hb2⟩))
    go_ret
    exact ⟨rfl, hB.trans ((hb1.trans (hb2.mono hb1.size)).mono hB.size)⟩
  | false =>
    rw [hg] at hgr
    have hcnt : d.tree.cnt ≤ 60 := by unfold Dt.great at hg; simpa using hg
    apply wp_seq_k
    intro K1 k1
    have H1 := Lib.hid k1
    clear k1
    go_wp2_with (first | (go_at_call 38; refine hgr.mono ?_; rintro e w1 ⟨rfl, hb1⟩))
    refine H1.out _ _ ?_
    clear H1 K1 hgr p0 p1 p2 p3 p4
    have hx1 := HX.out _ hb1
    have p0 : w1.cell? ⟨w.heap.size, 0, none⟩ = some (.int .i64 d.tree.sy) := cell_of_heap hx1 rfl
    have p1 : w1.cell? ⟨w.heap.size, 1, none⟩ = some (.int .i64 d.tree.pr) := cell_of_heap hx1 rfl
    have p2 : w1.cell? ⟨w.heap.size, 2, none⟩ = some kv := cell_of_heap hx1 rfl
    have p3 : w1.cell? ⟨w.heap.size, 3, none⟩ = some tv := cell_of_heap hx1 rfl
    have p4 : w1.cell? ⟨w.heap.size, 4, none⟩ = some sv := cell_of_heap hx1 rfl
    clear hx1
    have hBW := hB.trans (hb1.mono hB.size)
    have hbt := built_any w.heap.size d _ w1 (HD.out.keep hBW) hBW.size (by omega)
    rcases hr : d.bld with x | pn
    · have hq : ∀ x : Int, x ≠ 0 → (x == 0) = false := fun x h => beq_eq_false_iff_ne.2 h
      have HQ := Lib.hid hq
      have HR := Lib.hid hr
      clear hq hr
      go_wp2_with (first
        | (go_at_call 21; refine hbt.mono ?_; rintro e w2 hsay; obtain ⟨hb2, hx0, rfl⟩ := hsay.err HR.out; have hq := HQ.out _ hx0; have hbx := hb1.trans (hb2.mono hb1.size))
        | (go_at_call 39; refine (lives25 _).mono ?_; rintro e w4 ⟨rfl, hb4⟩))
      go_ret
      exact ⟨rfl, hB.trans ((hbx.trans (hb4.mono hbx.size)).mono hB.size)⟩
    · have HR := Lib.hid hr
      clear hr
      apply wp_seq_k
      intro K1 k1
      have H1 := Lib.hid k1
      clear k1
      go_wp2_with (first
        | (go_at_call 21; refine hbt.mono ?_; rintro e w2 hsay; obtain ⟨hb2, n, rfl, rfl, hin, hwf, hht, hcn, _⟩ := hsay.ok HR.out))
      refine H1.out _ _ ?_
      clear H1 K1 hbt p0 p1 p2 p3 p4
      have hbx := hB.trans ((hb1.trans (hb2.mono hb1.size)).mono hB.size)
      have hok := Nd.WF.ok n hwf
      have hc3 : n.cnt ≤ 1000 := by omega
      have hby := fun W (hW : Below w2.heap.size w2 W) => bytes_some n W (hin.below hW)
      by_cases hout : at' < 0 ∨ n.bt ≤ at'
      · have han := fun W (hW : Below w2.heap.size w2 W) => at_err n.ptr at' 4 W (by decide) (fun W2 hW2 => path_out n at' W2 (hin.below (hW.trans (hW2.mono hW.size))) hwf hout)
        unfold Sp.val sp0 at han
        unfold Nd.ptr at han hby ⊢
        have HAN := Lib.hid han
        have HBY := Lib.hid hby
        clear han hby hin hwf hok
        have hcur := Below.refl w2.heap.size w2
        by_cases h0 : at' < 0
        · clear hout
          go_wp2_with (first
            | (go_at_call 41; refine (HAN.out _ hcur).mono ?_; rintro e w7 ⟨rfl, hb7⟩; replace hcur := hcur.trans (hb7.mono hcur.size); have hal := hcur.alloc hcur.size (.cells #[.int .i64 0, .int .i64 0, .int .i64 0, .int .i64 0, .int .i64 0] 66))
            | (go_at_call 39; refine (lives25 _).mono ?_; rintro e w9 ⟨rfl, hb9⟩; replace hcur := hal.trans (hb9.mono hal.size)))
          go_ret
          exact ⟨rfl, hbx.trans (hcur.mono hbx.size)⟩
        · have h1 : n.bt ≤ at' := by omega
          clear hout
          go_wp2_with (first
            | (go_at_call 41; refine (HAN.out _ hcur).mono ?_; rintro e w7 ⟨rfl, hb7⟩; replace hcur := hcur.trans (hb7.mono hcur.size); have hal := hcur.alloc hcur.size (.cells #[.int .i64 0, .int .i64 0, .int .i64 0, .int .i64 0, .int .i64 0] 66); have hnw := Lib.hid (heap_alloc_new w7 (.cells #[.int .i64 0, .int .i64 0, .int .i64 0, .int .i64 0, .int .i64 0] 66)); have hls := Lib.hid (World.size_alloc w7 (.cells #[.int .i64 0, .int .i64 0, .int .i64 0, .int .i64 0, .int .i64 0] 66)))
            | (go_at_call 36; refine (HBY.out _ hal).mono ?_; rintro e w8 ⟨rfl, hb8⟩; replace hcur := hal.trans (hb8.mono hal.size); have g8 := (hb8.block w7.heap.size (by rw [hls.out]; omega)).trans hnw.out; have y0 := cell_of_heap (i := 0) (v := .int .i64 0) g8 rfl; have y1 := cell_of_heap (i := 1) (v := .int .i64 0) g8 rfl; have y2 := cell_of_heap (i := 2) (v := .int .i64 0) g8 rfl; have y3 := cell_of_heap (i := 3) (v := .int .i64 0) g8 rfl; have y4 := cell_of_heap (i := 4) (v := .int .i64 0) g8 rfl; clear g8)
            | (go_at_call 39; refine (lives25 _).mono ?_; rintro e w9 ⟨rfl, hb9⟩; replace hcur := hcur.trans (hb9.mono hcur.size)))
          go_ret
          exact ⟨rfl, hbx.trans (hcur.mono hbx.size)⟩
      · have ha0 : 0 ≤ at' := by omega
        have ha1 : at' < n.bt := by omega
        have hlen := pathA_len n at'
        obtain ⟨sp, hlast⟩ : ∃ sp, (pathA n at').getLast? = some sp := ⟨_, List.getLast?_eq_some_getLast (by simp [pathA])⟩
        have hdeep := deep_of n hwf at' ha0 ha1 hlast
        have han := fun W (hW : Below w2.heap.size w2 W) => at_okv n.ptr at' (pathA n at') sp W (by omega) hlast fun W2 hW2 => path_in n at' W2 (hin.below (hW.trans (hW2.mono hW.size))) hwf hc3 ha0 ha1
        have hsn := fun W (hW : Below w2.heap.size w2 W) => spots_call n W (hin.below hW) hwf hc3
        have hsl : (spotsN n).length ≤ 1000 := by unfold spotsN; rw [List.length_map, preN_len]; exact hc3
        unfold Sp.val at han
        unfold Nd.ptr at han hby hsn ⊢
        have HAN := Lib.hid han
        have HBY := Lib.hid hby
        have HSN := Lib.hid hsn
        have HDP := Lib.hid hdeep
        clear han hby hsn hdeep hlast hlen hin hwf hok hout
        generalize spotsN n = l at *
        have hcur := Below.refl w2.heap.size w2
        have hn1 : ¬ at' < 0 := by omega
        have hn2 : ¬ n.bt ≤ at' := by omega
        go_upto_region 11 with (first
          | (go_at_call 41; refine (HAN.out _ hcur).mono ?_; rintro e w7 ⟨rfl, hb7⟩; replace hcur := hcur.trans (hb7.mono hcur.size); have hal := hcur.alloc hcur.size (.cells #[.int .i64 sp.sy, .int .i64 sp.pr, .int .i64 sp.fa, .int .i64 sp.fz, .int .i64 sp.dp] 66); have hnw := Lib.hid (heap_alloc_new w7 (.cells #[.int .i64 sp.sy, .int .i64 sp.pr, .int .i64 sp.fa, .int .i64 sp.fz, .int .i64 sp.dp] 66)); have hls := Lib.hid (World.size_alloc w7 (.cells #[.int .i64 sp.sy, .int .i64 sp.pr, .int .i64 sp.fa, .int .i64 sp.fz, .int .i64 sp.dp] 66)))
          | (go_at_call 36; refine (HBY.out _ hal).mono ?_; rintro e w8 ⟨rfl, hb8⟩; replace hcur := hal.trans (hb8.mono hal.size); have G8 := Lib.hid ((hb8.block w7.heap.size (by rw [hls.out]; omega)).trans hnw.out))
          | (go_at_call 31; refine (HSN.out _ hcur).mono ?_; rintro e w5 ⟨v5, rfl, hrow5, hb5⟩; replace hcur := hcur.trans (hb5.mono hcur.size); have S5 := Lib.hid (SpotsAt.of_row hrow5); have G5 := Lib.hid ((hb5.block w7.heap.size (Array.getElem?_eq_some_iff.1 G8.out).1).trans G8.out); clear hrow5))
        obtain ⟨A, c5, hv, hcell⟩ := S5.out
        subst hv
        have HC := Lib.hid hcell
        obtain ⟨xb, hxb⟩ : ∃ b, b = w7.heap.size := ⟨_, rfl⟩
        have GX := G5.out
        rw [← hxb] at GX ⊢
        have HGX := Lib.hid GX
        clear hcell hxb GX
        go_wp2_with fail
        go_loopw [10, 11] (fun fv iv wx => ∃ i : Nat, iv = .int .i64 i ∧ fv = .int .i64 (((l.take i).filter fun s => s.has at' && decide (s.dp = sp.dp)).length : Nat) ∧ i ≤ l.length ∧ Below w5.heap.size w5 wx) (fun _ iv _ => l.length - (intOf iv).toNat)
        case atStart => exact ⟨0, rfl, rfl, by omega, Below.refl _ _⟩
        case round =>
          obtain ⟨i, rfl, rfl, hi, hbr⟩ := hrel
          have GR := (hbr.block xb (Array.getElem?_eq_some_iff.1 HGX.out).1).trans HGX.out
          have x0 : wr.cell? ⟨xb, 0, none⟩ = some (.int .i64 sp.sy) := cell_of_heap GR rfl
          have x1 : wr.cell? ⟨xb, 1, none⟩ = some (.int .i64 sp.pr) := cell_of_heap GR rfl
          have x2 : wr.cell? ⟨xb, 2, none⟩ = some (.int .i64 sp.fa) := cell_of_heap GR rfl
          have x3 : wr.cell? ⟨xb, 3, none⟩ = some (.int .i64 sp.fz) := cell_of_heap GR rfl
          have x4 : wr.cell? ⟨xb, 4, none⟩ = some (.int .i64 sp.dp) := cell_of_heap GR rfl
          clear GR
          have hfl : ((l.take i).filter fun s => s.has at' && decide (s.dp = sp.dp)).length ≤ i := by
            refine Nat.le_trans (List.length_filter_le _ _) ?_
            rw [List.length_take]
            omega
          by_cases hlt : i < l.length
          · obtain ⟨g, rfl, lg, q0, q1, q2, q3, q4⟩ := HC.out i hlt
            have hcs := HDP.out.cases l[i] (List.getElem_mem hlt)
            have htk := take_filter (fun s : Sp => s.has at' && decide (s.dp = sp.dp)) hlt
            obtain ⟨s, hs⟩ : ∃ s, l[i] = s := ⟨_, rfl⟩
            rw [hs] at q0 q1 q2 q3 q4 hcs htk
            replace q0 := (hbr.cell (p := ⟨g, _, none⟩) lg).trans q0
            replace q1 := (hbr.cell (p := ⟨g, _, none⟩) lg).trans q1
            replace q2 := (hbr.cell (p := ⟨g, _, none⟩) lg).trans q2
            replace q3 := (hbr.cell (p := ⟨g, _, none⟩) lg).trans q3
            replace q4 := (hbr.cell (p := ⟨g, _, none⟩) lg).trans q4
            have hltI : (i : Int) < (l.length : Int) := by omega
            have hi0 : (0 : Int) ≤ (i : Int) := Int.natCast_nonneg _
            have HT := Lib.hid htk
            clear htk hs
            obtain ⟨f, hf⟩ : ∃ f, ((l.take i).filter fun s => s.has at' && decide (s.dp = sp.dp)) = f := ⟨_, rfl⟩
            rw [hf] at hfl HT ⊢
            have HF := Lib.hid hf
            clear hf
            by_cases hin : s.fa ≤ at' ∧ at' < s.fz
            · have hh : s.has at' = true := by unfold Sp.has; exact decide_eq_true hin
              obtain ⟨k1, k2⟩ := hin
              have k3 : ¬ at' < s.fa := by omega
              have k4 : ¬ s.fz ≤ at' := by omega
              rcases hcs hh with rfl | hd
              · have HT2 := Lib.hid (show ((l.take (i + 1)).filter fun u => u.has at' && decide (u.dp = s.dp)).length = f.length + 1 by
                  rw [HT.out, if_pos (by rw [hh]; simp)]
                  simp)
                have e0 : (s.sy == s.sy) = true := beq_self_eq_true _
                have e1 : (s.pr == s.pr) = true := beq_self_eq_true _
                have e2 : (s.fa == s.fa) = true := beq_self_eq_true _
                have e3 : (s.fz == s.fz) = true := beq_self_eq_true _
                have e4 : (s.dp == s.dp) = true := beq_self_eq_true _
                have e5 : ¬ s.dp < s.dp := by omega
                have hwf2 : IntKind.i64.wrap ((f.length : Int) + 1) = (f.length : Int) + 1 := by rw [IntKind.wrap_i64]; omega
                clear hh hcs HT
                go_wp2_with fail
                go_quiet (fail)
                go_wp2_with fail
                go_quiet (fail)
                go_wp2_with fail
                go_roundw
                case rel => exact ⟨i + 1, by go_num, by rw [HT2.out]; go_num, by omega, ⟨hbr.os, hbr.tape, hbr.output, hbr.size, hbr.block⟩⟩
                case measure => simp [intOf]; omega
              · have HT2 := Lib.hid (show ((l.take (i + 1)).filter fun u => u.has at' && decide (u.dp = sp.dp)).length = f.length by
                  rw [HT.out, if_neg (by simp; omega)]
                  simp)
                have e4 : (s.dp == sp.dp) = false := beq_eq_false_iff_ne.2 (by omega)
                have e5 : ¬ sp.dp < s.dp := by omega
                clear hh hcs HT
                go_wp2_with fail
                go_quiet (fail)
                go_wp2_with fail
                go_quiet (fail)
                go_wp2_with fail
                go_roundw
                case rel => exact ⟨i + 1, by go_num, by rw [HT2.out], by omega, ⟨hbr.os, hbr.tape, hbr.output, hbr.size, hbr.block⟩⟩
                case measure => simp [intOf]; omega
            · have hh : s.has at' = false := by unfold Sp.has; exact decide_eq_false hin
              have HT2 := Lib.hid (show ((l.take (i + 1)).filter fun u => u.has at' && decide (u.dp = sp.dp)).length = f.length by
                rw [HT.out, if_neg (by rw [hh]; simp)]
                simp)
              clear hh hcs HT
              by_cases k1 : at' < s.fa
              · clear hin
                go_wp2_with fail
                go_roundw
                case rel => exact ⟨i + 1, by go_num, by rw [HT2.out], by omega, hbr⟩
                case measure => simp [intOf]; omega
              · have k2 : s.fz ≤ at' := by omega
                clear hin
                go_wp2_with fail
                go_roundw
                case rel => exact ⟨i + 1, by go_num, by rw [HT2.out], by omega, hbr⟩
                case measure => simp [intOf]; omega
          · have hge : ¬ ((i : Int) < (l.length : Int)) := by omega
            have hfull : l.take i = l := List.take_of_length_le (by omega)
            rw [hfull, HDP.out.count]
            clear hfull hfl
            have hcr := hcur.trans (hbr.mono hcur.size)
            go_wp2_with (first
              | (go_at_call 39; refine (lives25 _).mono ?_; rintro e w9 ⟨rfl, hb9⟩; replace hcr := hcr.trans (hb9.mono hcr.size)))
            go_ret
            exact ⟨rfl, hbx.trans (hcr.mono hbx.size)⟩

end Go.Proofs.Ytcjpmgfobnaoeaa
