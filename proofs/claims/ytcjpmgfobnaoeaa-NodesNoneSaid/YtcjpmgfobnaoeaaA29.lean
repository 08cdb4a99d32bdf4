/- FindPath: the walk. -/
import Derived.Test.YtcjpmgfobnaoeaaA27
import Derived.Test.YtcjpmgfobnaoeaaA28
namespace Go.Proofs.Ytcjpmgfobnaoeaa
open Go.RowKit

attribute [local irreducible] Calls
set_option maxRecDepth 100000 in
set_option maxHeartbeats 8000000 in
theorem findPath_walk (d : Dt) (v : Value) (at' : Int) (w : World) (hd : d.At w.heap.size w v) :
    Calls Try.prog 6 #[v, .int .i64 at'] w fun e w' => e = .returned (.bool true) ∧ Below w.heap.size w w' := by
  have hd' := hd
  obtain ⟨kv, tv, sv, rfl, _, _, _⟩ := hd'
  have hW : ∀ W, W = w.alloc (.cells #[.int .i64 d.tree.sy, .int .i64 d.tree.pr, kv, tv, sv] 28) → Below w.heap.size w W ∧
      W.heap[w.heap.size]? = some (.cells #[.int .i64 d.tree.sy, .int .i64 d.tree.pr, kv, tv, sv] 28 (0, 0)) := by
    rintro W rfl
    exact ⟨below_alloc _ _, heap_alloc_new _ _⟩
  have HW := Lib.hid hW
  have HD := Lib.hid hd
  clear hW hd
  go_enter Try.func6, Try.ntmps6
  apply wp_seq_k
  intro K1 k1
  have H1 := Lib.hid k1
  clear k1
  go_wp2_with fail
  refine H1.out _ _ ?_
  clear H1 K1
  obtain ⟨hB, hx2⟩ := HW.out _ rfl
  generalize w.alloc (.cells #[.int .i64 d.tree.sy, .int .i64 d.tree.pr, kv, tv, sv] 28) = W at *
  have p0 : W.cell? ⟨w.heap.size, 0, none⟩ = some (.int .i64 d.tree.sy) := cell_of_heap hx2 rfl
  have p1 : W.cell? ⟨w.heap.size, 1, none⟩ = some (.int .i64 d.tree.pr) := cell_of_heap hx2 rfl
  have p2 : W.cell? ⟨w.heap.size, 2, none⟩ = some kv := cell_of_heap hx2 rfl
  have p3 : W.cell? ⟨w.heap.size, 3, none⟩ = some tv := cell_of_heap hx2 rfl
  have p4 : W.cell? ⟨w.heap.size, 4, none⟩ = some sv := cell_of_heap hx2 rfl
  have hgr := great38 w.heap.size d _ W (HD.out.keep hB) hB.size
  have hX : ∀ wx, Below W.heap.size W wx → wx.heap[w.heap.size]? = some (.cells #[.int .i64 d.tree.sy, .int .i64 d.tree.pr, kv, tv, sv] 28 (0, 0)) := fun wx hb =>
    (hb.block _ (Array.getElem?_eq_some_iff.1 hx2).1).trans hx2
  have HX := Lib.hid hX
  clear HW hx2 hX
  cases hg : d.great with
  | true =>
    rw [hg] at hgr
    go_wp2_with (first | (go_at_call 38; refine hgr.mono ?_; rintro e w1 ⟨rfl, hb1⟩) | (go_at_call 39; refine (lives25 _).mono ?_; rintro e w2 ⟨rfl, hb2⟩))
    go_ret
    exact ⟨rfl, hB.trans ((hb1.trans (hb2.mono hb1.size)).mono hB.size)⟩
  | false =>
    rw [hg] at hgr
    have hcnt : d.tree.cnt ≤ 60 := by unfold Dt.great at hg; simpa using hg
    apply wp_seq_k
    intro K1 k1
    have H1 := Lib.hid k1
    clear k1
    go_wp2_with (first | (go_at_call 38; refine hgr.mono ?_; rintro e w1 ⟨rfl, hb1⟩))
    refine H1.out _ _ ?_
    clear H1 K1 hgr p0 p1 p2 p3 p4
    have hx1 := HX.out _ hb1
    have p0 : w1.cell? ⟨w.heap.size, 0, none⟩ = some (.int .i64 d.tree.sy) := cell_of_heap hx1 rfl
    have p1 : w1.cell? ⟨w.heap.size, 1, none⟩ = some (.int .i64 d.tree.pr) := cell_of_heap hx1 rfl
    have p2 : w1.cell? ⟨w.heap.size, 2, none⟩ = some kv := cell_of_heap hx1 rfl
    have p3 : w1.cell? ⟨w.heap.size, 3, none⟩ = some tv := cell_of_heap hx1 rfl
    have p4 : w1.cell? ⟨w.heap.size, 4, none⟩ = some sv := cell_of_heap hx1 rfl
    clear hx1
    have hBW := hB.trans (hb1.mono hB.size)
    have hbt := built_any w.heap.size d _ w1 (HD.out.keep hBW) hBW.size (by omega)
    rcases hr : d.bld with x | pn
    · have hq : ∀ x : Int, x ≠ 0 → (x == 0) = false := fun x h => beq_eq_false_iff_ne.2 h
      have HQ := Lib.hid hq
      have HR := Lib.hid hr
      clear hq hr
      go_wp2_with (first
        | (go_at_call 21; refine hbt.mono ?_; rintro e w2 hsay; obtain ⟨hb2, hx0, rfl⟩ := hsay.err HR.out; have hq := HQ.out _ hx0; have hbx := hb1.trans (hb2.mono hb1.size))
        | (go_at_call 39; refine (lives25 _).mono ?_; rintro e w4 ⟨rfl, hb4⟩))
      go_ret
      exact ⟨rfl, hB.trans ((hbx.trans (hb4.mono hbx.size)).mono hB.size)⟩
    · have HR := Lib.hid hr
      clear hr
      apply wp_seq_k
      intro K1 k1
      have H1 := Lib.hid k1
      clear k1
      go_wp2_with (first
        | (go_at_call 21; refine hbt.mono ?_; rintro e w2 hsay; obtain ⟨hb2, n, rfl, rfl, hin, hwf, hht, hcn, _⟩ := hsay.ok HR.out))
      refine H1.out _ _ ?_
      clear H1 K1 hbt p0 p1 p2 p3 p4
      have hbx := hB.trans ((hb1.trans (hb2.mono hb1.size)).mono hB.size)
      have hok := Nd.WF.ok n hwf
      have hc3 : n.cnt ≤ 1000 := by omega
      by_cases hout : at' < 0 ∨ n.bt ≤ at'
      · have hp := path_out n at' w2 hin hwf hout
        clear hin hwf hok hout
        unfold Nd.ptr
        go_wp2_with (first | (go_at_call 40; refine hp.mono ?_; rintro e w3 ⟨rfl, hb3⟩) | (go_at_call 39; refine (lives25 _).mono ?_; rintro e w4 ⟨rfl, hb4⟩))
        go_ret
        exact ⟨rfl, hbx.trans ((hb3.trans (hb4.mono hb3.size)).mono hbx.size)⟩
      · have ha0 : 0 ≤ at' := by omega
        have ha1 : at' < n.bt := by omega
        have hp := path_in n at' w2 hin hwf hc3 ha0 ha1
        have hch := pathA_chain hwf ha0 ha1
        have hlen := pathA_len n at'
        have hl0 : 0 < (pathA n at').length := by simp [pathA]
        have h00 : (pathA n at')[0] = ⟨n.sy, n.pr, 0, n.bt, 0⟩ := rfl
        have hat : ∀ s, (pathA n at').getLast? = some s → ∀ W, Below w2.heap.size w2 W → Calls Try.prog 41 #[n.ptr, .int .i64 at'] W fun e w' => e = .returned (.tuple #[.agg #[.int .i64 s.sy, .int .i64 s.pr, .int .i64 s.fa, .int .i64 s.fz, .int .i64 s.dp], .int .i64 0]) ∧ Below W.heap.size W w' := fun s hs W hW =>
          at_okv n.ptr at' (pathA n at') s W (by omega) hs fun W2 hW2 => path_in n at' W2 (hin.below (hW.trans (hW2.mono hW.size))) hwf hc3 ha0 ha1
        have hby := fun W (hW : Below w2.heap.size w2 W) => bytes_some n W (hin.below hW)
        have hsy := fun W (hW : Below w2.heap.size w2 W) => sym_some n W (hin.below hW) (by have := hok.ht1; omega)
        unfold Nd.ptr at hat hby hsy ⊢
        have HAT := Lib.hid hat
        have HBY := Lib.hid hby
        have HSY := Lib.hid hsy
        have HCH := Lib.hid hch
        clear hat hby hsy hch hok hin hwf hout
        generalize pathA n at' = l at *
        have hlq : ((l.length : Int) == 0) = false := beq_eq_false_iff_ne.2 (by omega)
        go_upto_region 9 with (first | (go_at_call 40; refine hp.mono ?_; rintro e w3 ⟨v3, rfl, hrow, hb3⟩; obtain ⟨_, A3, c3, rfl, hcell⟩ := spots_row hrow))
        obtain ⟨g, rfl, _, lg, q0, q1, q2, q3, q4⟩ := hcell 0 hl0
        rw [h00] at q0 q1 q2 q3 q4
        simp only [] at q0 q1 q2 q3 q4
        have HC := Lib.hid hcell
        have r0 : ∀ s : Sb w3, s.w.cell? ⟨g, 0, none⟩ = some (.int .i64 n.sy) := fun s => s.cell q0
        have r2 : ∀ s : Sb w3, s.w.cell? ⟨g, 2, none⟩ = some (.int .i64 0) := fun s => s.cell q2
        have r3 : ∀ s : Sb w3, s.w.cell? ⟨g, 3, none⟩ = some (.int .i64 n.bt) := fun s => s.cell q3
        have HB3 := Lib.hid (fun s : Sb w3 => Calls.sb (HBY.out s.w (hb3.trans (s.below.mono hb3.size))))
        have HS3 := Lib.hid (fun s : Sb w3 => Calls.sb_same (s := s) (HSY.out s.w (hb3.trans (s.below.mono hb3.size))))
        clear q0 q1 q2 q3 q4 hrow hcell hp
        refine wp_region_sb (by kernel_rfl) (by kernel_rfl) ?_
        repeat (go_big_quiet_step (first | (go_at_call 36; exact HB3.out _) | (go_at_call 32; exact HS3.out _)))
        refine wpQuiet_nil ?_
        intro s
        clear r0 r2 r3
        have hb4 := hb3.trans (s.below.mono hb3.size)
        have hcells : ∀ W, Below s.w.heap.size s.w W → ∀ i (hi : i < l.length), W.cell? ⟨g, i * 5, none⟩ = some (.int .i64 l[i].sy) ∧ W.cell? ⟨g, i * 5 + 1, none⟩ = some (.int .i64 l[i].pr) ∧ W.cell? ⟨g, i * 5 + 2, none⟩ = some (.int .i64 l[i].fa) ∧ W.cell? ⟨g, i * 5 + 3, none⟩ = some (.int .i64 l[i].fz) ∧ W.cell? ⟨g, i * 5 + 4, none⟩ = some (.int .i64 l[i].dp) := fun W hW i hi => by
          obtain ⟨g', e, _, lg', q0, q1, q2, q3, q4⟩ := HC.out i hi
          have e' : g' = g := by simpa using e.symm
          subst e'
          have hb := s.below.trans (hW.mono s.below.size)
          exact ⟨(hb.cell (p := ⟨g', i * 5, none⟩) lg').trans q0, (hb.cell (p := ⟨g', i * 5 + 1, none⟩) lg').trans q1, (hb.cell (p := ⟨g', i * 5 + 2, none⟩) lg').trans q2, (hb.cell (p := ⟨g', i * 5 + 3, none⟩) lg').trans q3, (hb.cell (p := ⟨g', i * 5 + 4, none⟩) lg').trans q4⟩
        generalize s.w = w4 at *
        have HCE := Lib.hid hcells
        clear hcells
        go_wp2_with fail
        have hlb : l.length ≤ 1000 := by omega
        go_loopw [9] (fun iv wx => ∃ i : Nat, iv = .int .i64 i ∧ i ≤ l.length ∧ Below w4.heap.size w4 wx) (fun iv _ => l.length - (intOf iv).toNat)
        case atStart => exact ⟨0, rfl, by omega, Below.refl _ _⟩
        case round =>
          obtain ⟨i, rfl, hi, hbr⟩ := hrel
          by_cases hlt : i < l.length
          · obtain ⟨q0, q1, q2, q3, q4⟩ := HCE.out wr hbr i hlt
            obtain ⟨e1, e2, e3⟩ := HCH.out.at i hlt
            rw [Int.zero_add] at e1
            rw [e1] at q4
            have hltI : (i : Int) < (l.length : Int) := by omega
            have hi0 : (0 : Int) ≤ (i : Int) := Int.natCast_nonneg _
            have hne : ((i : Int) != (i : Int)) = false := by simp
            rcases i with _ | m
            · clear e1
              go_wp2_with fail
              go_quiet (fail)
              go_wp2_with fail
              go_roundw
              case rel => exact ⟨1, by go_num, by omega, ⟨hbr.os, hbr.tape, hbr.output, hbr.size, hbr.block⟩⟩
              case measure => simp [intOf]; omega
            · obtain ⟨z0, z1, z2, z3, z4⟩ := HCE.out wr hbr m (Nat.lt_of_succ_lt hlt)
              obtain ⟨k1, k2⟩ := HCH.out.step m hlt
              have hi3 : (((m + 1 : Nat) : Int) - 1) = (m : Int) := by omega
              have hmI : (m : Int) < (l.length : Int) := by omega
              have hm0 : (0 : Int) ≤ (m : Int) := Int.natCast_nonneg _
              have hpos : (0 : Int) < (m : Int) + 1 := by omega
              have hwr : IntKind.i64.wrap ((m : Int) + 1 - 1) = (m : Int) := by rw [IntKind.wrap_i64]; omega
              have hwr2 : IntKind.i64.wrap (m : Int) = (m : Int) := by rw [IntKind.wrap_i64]; omega
              clear e1 z0 z1 z4
              go_wp2_with fail
              go_quiet (fail)
              go_wp2_with fail
              go_roundw
              case rel => exact ⟨m + 1 + 1, by go_num, by omega, ⟨hbr.os, hbr.tape, hbr.output, hbr.size, hbr.block⟩⟩
              case measure => simp [intOf]; omega
          · have hge : ¬ ((i : Int) < (l.length : Int)) := by omega
            obtain ⟨m, hlm⟩ : ∃ m, l.length = m + 1 := ⟨l.length - 1, by omega⟩
            have hm2 : m < l.length := by omega
            have hlast : l.getLast? = some l[m] := by
              rw [List.getLast?_eq_getElem?, hlm]
              simp [hm2]
            have hatl := HAT.out _ hlast
            obtain ⟨z0, z1, z2, z3, z4⟩ := HCE.out wr hbr m hm2
            have hbw := hb4.trans (hbr.mono hb4.size)
            have HATL := Lib.hid hatl
            have lgr : g < wr.heap.size := World.block_lt_of_cell? _ _ z0
            have hm0 : (0 : Int) ≤ (m : Int) := Int.natCast_nonneg _
            have hmI : (m : Int) < (m : Int) + 1 := by omega
            have hwr : IntKind.i64.wrap ((m : Int) + 1 - 1) = (m : Int) := by rw [IntKind.wrap_i64]; omega
            generalize l[m] = sp at *
            clear hlast hatl HCE HCH
            have hge1 : ¬ ((i : Int) < (m : Int) + 1) := by omega
            have hge2 : (m : Int) + 1 ≤ (i : Int) := by omega
            rw [hlm] at *
            go_upto_region 19 with (first | (go_at_call 41; refine (HATL.out _ hbw).mono ?_; rintro e w5 ⟨rfl, hb5⟩))
            have ha := below_alloc w5 (.cells #[.int .i64 sp.sy, .int .i64 sp.pr, .int .i64 sp.fa, .int .i64 sp.fz, .int .i64 sp.dp] 66)
            have gx := heap_alloc_new w5 (.cells #[.int .i64 sp.sy, .int .i64 sp.pr, .int .i64 sp.fa, .int .i64 sp.fz, .int .i64 sp.dp] 66)
            obtain ⟨xb, hxb⟩ : ∃ b, b = w5.heap.size := ⟨_, rfl⟩
            rw [← hxb] at gx ⊢
            have h5x := hb5.trans (ha.mono hb5.size)
            generalize w5.alloc (.cells #[.int .i64 sp.sy, .int .i64 sp.pr, .int .i64 sp.fa, .int .i64 sp.fz, .int .i64 sp.dp] 66) = w6 at *
            have y0 : ∀ s : Sb w6, s.w.cell? ⟨g, m * 5, none⟩ = some (.int .i64 sp.sy) := fun s => s.cell ((h5x.cell (p := ⟨g, m * 5, none⟩) lgr).trans z0)
            have y1 : ∀ s : Sb w6, s.w.cell? ⟨g, m * 5 + 1, none⟩ = some (.int .i64 sp.pr) := fun s => s.cell ((h5x.cell (p := ⟨g, m * 5 + 1, none⟩) lgr).trans z1)
            have y2 : ∀ s : Sb w6, s.w.cell? ⟨g, m * 5 + 2, none⟩ = some (.int .i64 sp.fa) := fun s => s.cell ((h5x.cell (p := ⟨g, m * 5 + 2, none⟩) lgr).trans z2)
            have y3 : ∀ s : Sb w6, s.w.cell? ⟨g, m * 5 + 3, none⟩ = some (.int .i64 sp.fz) := fun s => s.cell ((h5x.cell (p := ⟨g, m * 5 + 3, none⟩) lgr).trans z3)
            have y4 : ∀ s : Sb w6, s.w.cell? ⟨g, m * 5 + 4, none⟩ = some (.int .i64 sp.dp) := fun s => s.cell ((h5x.cell (p := ⟨g, m * 5 + 4, none⟩) lgr).trans z4)
            have x0 : ∀ s : Sb w6, s.w.cell? ⟨xb, 0, none⟩ = some (.int .i64 sp.sy) := fun s => s.cell (cell_of_heap gx rfl)
            have x1 : ∀ s : Sb w6, s.w.cell? ⟨xb, 1, none⟩ = some (.int .i64 sp.pr) := fun s => s.cell (cell_of_heap gx rfl)
            have x2 : ∀ s : Sb w6, s.w.cell? ⟨xb, 2, none⟩ = some (.int .i64 sp.fa) := fun s => s.cell (cell_of_heap gx rfl)
            have x3 : ∀ s : Sb w6, s.w.cell? ⟨xb, 3, none⟩ = some (.int .i64 sp.fz) := fun s => s.cell (cell_of_heap gx rfl)
            have x4 : ∀ s : Sb w6, s.w.cell? ⟨xb, 4, none⟩ = some (.int .i64 sp.dp) := fun s => s.cell (cell_of_heap gx rfl)
            have HLV := Lib.hid (fun s : Sb w6 => Calls.sb (lives25 s.w))
            have hwr2 : IntKind.i64.wrap (m : Int) = (m : Int) := by rw [IntKind.wrap_i64]; omega
            clear z0 z1 z2 z3 z4 hxb ha gx
            refine wp_region_sb (by kernel_rfl) (by kernel_rfl) ?_
            repeat (go_big_quiet_step (first | (go_at_call 39; exact HLV.out _)))
            refine wpQuiet_nil ?_
            intro s
            clear y0 y1 y2 y3 y4 x0 x1 x2 x3 x4
            go_wp2_with fail
            go_ret
            exact ⟨rfl, hbx.trans ((hbw.trans ((h5x.trans (s.below.mono h5x.size)).mono hbw.size)).mono hbx.size)⟩

end Go.Proofs.Ytcjpmgfobnaoeaa
