/- FindSame: the walk. -/
import Derived.Test.YtcjpmgfobnaoeaaA39
import Derived.Test.YtcjpmgfobnaoeaaA40
namespace Go.Proofs.Ytcjpmgfobnaoeaa
open Go.RowKit

attribute [local irreducible] Calls
set_option maxRecDepth 100000 in
set_option maxHeartbeats 8000000 in
theorem findSame_walk (d : Dt) (v : Value) (q : Int) (w : World) (hd : d.At w.heap.size w v) (hq0 : 0 ≤ q) (hq1 : q ≤ 65535) :
    Calls Try.prog 14 #[v, .int .u16 q] w fun e w' => e = .returned (.bool true) ∧ Below w.heap.size w w' := by
  have hd' := hd
  obtain ⟨kv, tv, sv, rfl, _, _, _⟩ := hd'
  have hW : ∀ W, W = w.alloc (.cells #[.int .i64 d.tree.sy, .int .i64 d.tree.pr, kv, tv, sv] 28) → Below w.heap.size w W ∧
      W.heap[w.heap.size]? = some (.cells #[.int .i64 d.tree.sy, .int .i64 d.tree.pr, kv, tv, sv] 28 (0, 0)) := by
    rintro W rfl
    exact ⟨below_alloc _ _, heap_alloc_new _ _⟩
  have HW := Lib.hid hW
  have HD := Lib.hid hd
  clear hW hd
  go_enter Try.func14, Try.ntmps14
  apply wp_seq_k
  intro K1 k1
  have H1 := Lib.hid k1
  clear k1
  go_wp2_with fail
  refine H1.out _ _ ?_
  clear H1 K1
  obtain ⟨hB, hx2⟩ := HW.out _ rfl
  generalize w.alloc (.cells #[.int .i64 d.tree.sy, .int .i64 d.tree.pr, kv, tv, sv] 28) = W at *
  have p0 : W.cell? ⟨w.heap.size, 0, none⟩ = some (.int .i64 d.tree.sy) := cell_of_heap hx2 rfl
  have p1 : W.cell? ⟨w.heap.size, 1, none⟩ = some (.int .i64 d.tree.pr) := cell_of_heap hx2 rfl
  have p2 : W.cell? ⟨w.heap.size, 2, none⟩ = some kv := cell_of_heap hx2 rfl
  have p3 : W.cell? ⟨w.heap.size, 3, none⟩ = some tv := cell_of_heap hx2 rfl
  have p4 : W.cell? ⟨w.heap.size, 4, none⟩ = some sv := cell_of_heap hx2 rfl
  have hgr := great38 w.heap.size d _ W (HD.out.keep hB) hB.size
  have hX : ∀ wx, Below W.heap.size W wx → wx.heap[w.heap.size]? = some (.cells #[.int .i64 d.tree.sy, .int .i64 d.tree.pr, kv, tv, sv] 28 (0, 0)) := fun wx hb =>
    (hb.block _ (Array.getElem?_eq_some_iff.1 hx2).1).trans hx2
  have HX := Lib.hid hX
  clear HW hx2 hX
  cases hg : d.great with
  | true =>
    rw [hg] at hgr
    go_wp2_with (first | (go_at_call 38; refine hgr.mono ?_; rintro e w1 ⟨rfl, hb1⟩) | (go_at_call 39; refine (lives25 _).mono ?_; rintro e w2 ⟨rfl, hb2⟩))
    go_ret
    exact ⟨rfl, hB.trans ((hb1.trans (hb2.mono hb1.size)).mono hB.size)⟩
  | false =>
    rw [hg] at hgr
    have hcnt : d.tree.cnt ≤ 60 := by unfold Dt.great at hg; simpa using hg
    apply wp_seq_k
    intro K1 k1
    have H1 := Lib.hid k1
    clear k1
    go_wp2_with (first | (go_at_call 38; refine hgr.mono ?_; rintro e w1 ⟨rfl, hb1⟩))
    refine H1.out _ _ ?_
    clear H1 K1 hgr p0 p1 p2 p3 p4
    have hx1 := HX.out _ hb1
    have p0 : w1.cell? ⟨w.heap.size, 0, none⟩ = some (.int .i64 d.tree.sy) := cell_of_heap hx1 rfl
    have p1 : w1.cell? ⟨w.heap.size, 1, none⟩ = some (.int .i64 d.tree.pr) := cell_of_heap hx1 rfl
    have p2 : w1.cell? ⟨w.heap.size, 2, none⟩ = some kv := cell_of_heap hx1 rfl
    have p3 : w1.cell? ⟨w.heap.size, 3, none⟩ = some tv := cell_of_heap hx1 rfl
    have p4 : w1.cell? ⟨w.heap.size, 4, none⟩ = some sv := cell_of_heap hx1 rfl
    clear hx1
    have hBW := hB.trans (hb1.mono hB.size)
    have hbt := built_any w.heap.size d _ w1 (HD.out.keep hBW) hBW.size (by omega)
    rcases hr : d.bld with x | pn
    · have hq : ∀ x : Int, x ≠ 0 → (x == 0) = false := fun x h => beq_eq_false_iff_ne.2 h
      have HQ := Lib.hid hq
      have HR := Lib.hid hr
      clear hq hr
      go_wp2_with (first
        | (go_at_call 21; refine hbt.mono ?_; rintro e w2 hsay; obtain ⟨hb2, hx0, rfl⟩ := hsay.err HR.out; have hq := HQ.out _ hx0; have hbx := hb1.trans (hb2.mono hb1.size))
        | (go_at_call 39; refine (lives25 _).mono ?_; rintro e w4 ⟨rfl, hb4⟩))
      go_ret
      exact ⟨rfl, hB.trans ((hbx.trans (hb4.mono hbx.size)).mono hB.size)⟩
    · have HR := Lib.hid hr
      clear hr
      apply wp_seq_k
      intro K1 k1
      have H1 := Lib.hid k1
      clear k1
      go_wp2_with (first
        | (go_at_call 21; refine hbt.mono ?_; rintro e w2 hsay; obtain ⟨hb2, n, rfl, rfl, hin, hwf, hht, hcn, _⟩ := hsay.ok HR.out))
      refine H1.out _ _ ?_
      clear H1 K1 hbt p0 p1 p2 p3 p4
      have hbx := hB.trans ((hb1.trans (hb2.mono hb1.size)).mono hB.size)
      have hok := Nd.WF.ok n hwf
      have hc3 : n.cnt ≤ 1000 := by omega
      have hby := fun W (hW : Below w2.heap.size w2 W) => bytes_some n W (hin.below hW)
      have hcur := Below.refl w2.heap.size w2
      by_cases hsm : n.bt < 2
      · unfold Nd.ptr at hby ⊢
        have HBY := Lib.hid hby
        clear hby hin hwf hok
        go_wp2_with (first
          | (go_at_call 36; refine (HBY.out _ hcur).mono ?_; rintro e w8 ⟨rfl, hb8⟩; replace hcur := hcur.trans (hb8.mono hcur.size))
          | (go_at_call 39; refine (lives25 _).mono ?_; rintro e w9 ⟨rfl, hb9⟩; replace hcur := hcur.trans (hb9.mono hcur.size)))
        go_ret
        exact ⟨rfl, hbx.trans (hcur.mono hbx.size)⟩
      · obtain ⟨r, hr⟩ : ∃ r, Int.tmod q (n.bt - 1) = r := ⟨_, rfl⟩
        have hr0 : 0 ≤ r := by rw [← hr]; exact Int.tmod_nonneg _ hq0
        have hr1 : r < n.bt - 1 := by rw [← hr]; exact Int.tmod_lt_of_pos _ (by omega)
        have hb1' := hok.bt1
        have hwb : IntKind.i64.wrap (n.bt - 1) = n.bt - 1 := by rw [IntKind.wrap_i64]; omega
        have hwr : IntKind.i64.wrap r = r := by rw [IntKind.wrap_i64]; omega
        have hwr1 : IntKind.i64.wrap (r + 1) = r + 1 := by rw [IntKind.wrap_i64]; omega
        have hwq : IntKind.i64.wrap q = q := by rw [IntKind.wrap_i64]; omega
        have hz0 : ((n.bt - 1) == 0) = false := beq_eq_false_iff_ne.2 (by omega)
        have hlen1 := pathA_len n r
        have hlen2 := pathA_len n (r + 1)
        obtain ⟨sp, hsp⟩ : ∃ sp, (pathA n r).getLast? = some sp := ⟨_, List.getLast?_eq_some_getLast (by simp [pathA])⟩
        obtain ⟨tp, htp⟩ : ∃ tp, (pathA n (r + 1)).getLast? = some tp := ⟨_, List.getLast?_eq_some_getLast (by simp [pathA])⟩
        have han := fun W (hW : Below w2.heap.size w2 W) => at_okv n.ptr r (pathA n r) sp W (by omega) hsp fun W2 hW2 => path_in n r W2 (hin.below (hW.trans (hW2.mono hW.size))) hwf hc3 hr0 (by omega)
        have han2 := fun W (hW : Below w2.heap.size w2 W) => at_okv n.ptr (r + 1) (pathA n (r + 1)) tp W (by omega) htp fun W2 hW2 => path_in n (r + 1) W2 (hin.below (hW.trans (hW2.mono hW.size))) hwf hc3 (by omega) (by omega)
        have hsn := fun W (hW : Below w2.heap.size w2 W) => spots_call n W (hin.below hW) hwf hc3
        have hsl : (spotsN n).length ≤ 1000 := by unfold spotsN; rw [List.length_map, preN_len]; exact hc3
        have hsame : (∀ s ∈ spotsN n, s.fa ≠ r + 1 ∧ s.fz ≠ r + 1) → sp = tp := fun h => by
          have e := same_path n hwf r hr0 (by omega) h
          rw [e, htp] at hsp
          injection hsp with hsp
          exact hsp.symm
        unfold Sp.val at han han2
        unfold Nd.ptr at han han2 hby hsn ⊢
        have HAN := Lib.hid han
        have HAN2 := Lib.hid han2
        have HBY := Lib.hid hby
        have HSN := Lib.hid hsn
        have HSM := Lib.hid hsame
        clear han han2 hby hsn hsame hsp htp hlen1 hlen2 hin hwf hok
        generalize spotsN n = l at *
        have hn2 : 2 ≤ n.bt := by omega
        go_upto_region 11 with (first
          | (go_at_call 36; refine (HBY.out _ hcur).mono ?_; rintro e w8 ⟨rfl, hb8⟩; replace hcur := hcur.trans (hb8.mono hcur.size))
          | (go_at_call 41; refine (HAN.out _ hcur).mono ?_; rintro e w6 ⟨rfl, hb6⟩; replace hcur := hcur.trans (hb6.mono hcur.size); have hal := hcur.alloc hcur.size (.cells #[.int .i64 sp.sy, .int .i64 sp.pr, .int .i64 sp.fa, .int .i64 sp.fz, .int .i64 sp.dp] 66); have hnw := Lib.hid (heap_alloc_new w6 (.cells #[.int .i64 sp.sy, .int .i64 sp.pr, .int .i64 sp.fa, .int .i64 sp.fz, .int .i64 sp.dp] 66)); have hls := Lib.hid (World.size_alloc w6 (.cells #[.int .i64 sp.sy, .int .i64 sp.pr, .int .i64 sp.fa, .int .i64 sp.fz, .int .i64 sp.dp] 66)); clear HAN)
          | (go_at_call 41; refine (HAN2.out _ hal).mono ?_; rintro e w7 ⟨rfl, hb7⟩; replace hcur := hal.trans (hb7.mono hal.size); have G6 := Lib.hid ((hb7.block w6.heap.size (by rw [hls.out]; omega)).trans hnw.out); replace hal := hcur.alloc hcur.size (.cells #[.int .i64 tp.sy, .int .i64 tp.pr, .int .i64 tp.fa, .int .i64 tp.fz, .int .i64 tp.dp] 66); have hnw2 := Lib.hid (heap_alloc_new w7 (.cells #[.int .i64 tp.sy, .int .i64 tp.pr, .int .i64 tp.fa, .int .i64 tp.fz, .int .i64 tp.dp] 66)); clear HAN2))
        obtain ⟨W8, hW8⟩ : ∃ W8, w7.alloc (.cells #[.int .i64 tp.sy, .int .i64 tp.pr, .int .i64 tp.fa, .int .i64 tp.fz, .int .i64 tp.dp] 66) = W8 := ⟨_, rfl⟩
        have yg : W8.heap[w7.heap.size]? = some (.cells #[.int .i64 tp.sy, .int .i64 tp.pr, .int .i64 tp.fa, .int .i64 tp.fz, .int .i64 tp.dp] 66 (0, 0)) := by rw [← hW8]; exact hnw2.out
        have xg : W8.heap[w6.heap.size]? = some (.cells #[.int .i64 sp.sy, .int .i64 sp.pr, .int .i64 sp.fa, .int .i64 sp.fz, .int .i64 sp.dp] 66 (0, 0)) := by
          rw [← hW8, Below.heap_alloc _ _ _ (Array.getElem?_eq_some_iff.1 G6.out).1]
          exact G6.out
        rw [hW8] at hal ⊢
        clear hW8
        obtain ⟨xb, hxb⟩ : ∃ b, b = w6.heap.size := ⟨_, rfl⟩
        obtain ⟨yb, hyb⟩ : ∃ b, b = w7.heap.size := ⟨_, rfl⟩
        rw [← hxb] at xg ⊢
        rw [← hyb] at yg ⊢
        have x0 : W8.cell? ⟨xb, 0, none⟩ = some (.int .i64 sp.sy) := cell_of_heap xg rfl
        have x1 : W8.cell? ⟨xb, 1, none⟩ = some (.int .i64 sp.pr) := cell_of_heap xg rfl
        have x2 : W8.cell? ⟨xb, 2, none⟩ = some (.int .i64 sp.fa) := cell_of_heap xg rfl
        have x3 : W8.cell? ⟨xb, 3, none⟩ = some (.int .i64 sp.fz) := cell_of_heap xg rfl
        have x4 : W8.cell? ⟨xb, 4, none⟩ = some (.int .i64 sp.dp) := cell_of_heap xg rfl
        have y0 : W8.cell? ⟨yb, 0, none⟩ = some (.int .i64 tp.sy) := cell_of_heap yg rfl
        have y1 : W8.cell? ⟨yb, 1, none⟩ = some (.int .i64 tp.pr) := cell_of_heap yg rfl
        have y2 : W8.cell? ⟨yb, 2, none⟩ = some (.int .i64 tp.fa) := cell_of_heap yg rfl
        have y3 : W8.cell? ⟨yb, 3, none⟩ = some (.int .i64 tp.fz) := cell_of_heap yg rfl
        have y4 : W8.cell? ⟨yb, 4, none⟩ = some (.int .i64 tp.dp) := cell_of_heap yg rfl
        clear xg yg hxb hyb G6 hnw hnw2 hls
        by_cases heq : sp = tp
        · subst heq
          have e0 : (sp.sy == sp.sy) = true := beq_self_eq_true _
          have e1 : (sp.pr == sp.pr) = true := beq_self_eq_true _
          have e2 : (sp.fa == sp.fa) = true := beq_self_eq_true _
          have e3 : (sp.fz == sp.fz) = true := beq_self_eq_true _
          have e4 : (sp.dp == sp.dp) = true := beq_self_eq_true _
          go_wp2_with (first
            | (go_at_call 39; refine (lives25 _).mono ?_; rintro e w9 ⟨rfl, hb9⟩; replace hcur := hal.trans (hb9.mono hal.size)))
          go_ret
          exact ⟨rfl, hbx.trans (hcur.mono hbx.size)⟩
        · have hne : (sp.sy == tp.sy && (sp.pr == tp.pr && ((sp.fa == tp.fa && (sp.fz == tp.fz)) && (sp.dp == tp.dp)))) = false := by
            rw [Bool.eq_false_iff]
            intro h
            apply heq
            simp only [Bool.and_eq_true, beq_iff_eq] at h
            obtain ⟨h1, h2, ⟨h3, h4⟩, h5⟩ := h
            cases sp
            cases tp
            simp only [] at h1 h2 h3 h4 h5
            subst h1 h2 h3 h4 h5
            rfl
          have HEQ := Lib.hid heq
          have heql : ∀ W : World, (binOp .eql 66 (.agg #[.int .i64 sp.sy, .int .i64 sp.pr, .int .i64 sp.fa, .int .i64 sp.fz, .int .i64 sp.dp]) (.agg #[.int .i64 tp.sy, .int .i64 tp.pr, .int .i64 tp.fa, .int .i64 tp.fz, .int .i64 tp.dp])).run Try.prog W = .ok (.bool false) W := fun W => by rw [eql66, hne]
          clear heq hne
          go_upto_region 15 with (first
            | (go_at_call 31; refine (HSN.out _ hal).mono ?_; rintro e w9 ⟨v9, rfl, hrow9, hb9⟩; replace hcur := hal.trans (hb9.mono hal.size); have S9 := Lib.hid (SpotsAt.of_row hrow9); clear hrow9))
          obtain ⟨A, c5, hv, hcell⟩ := S9.out
          subst hv
          have HC := Lib.hid hcell
          clear hcell x0 x1 x2 x3 x4 y0 y1 y2 y3 y4 heql
          go_wp2_with fail
          go_loopw [13] (fun iv wx => ∃ i : Nat, iv = .int .i64 i ∧ i ≤ l.length ∧ Below w9.heap.size w9 wx ∧ Hid (∀ s ∈ l.take i, s.fa ≠ r + 1 ∧ s.fz ≠ r + 1)) (fun iv _ => l.length - (intOf iv).toNat)
          case atStart => exact ⟨0, rfl, by omega, Below.refl _ _, by intro s hs; simp at hs⟩
          case round =>
            obtain ⟨i, rfl, hi, hbr, HI⟩ := hrel
            have hcr := hcur.trans (hbr.mono hcur.size)
            by_cases hlt : i < l.length
            · obtain ⟨g, rfl, lg, q0, q1, q2, q3, q4⟩ := HC.out i hlt
              have htk := List.take_succ_eq_append_getElem hlt
              obtain ⟨s, hs⟩ : ∃ s, l[i] = s := ⟨_, rfl⟩
              rw [hs] at q2 q3 htk
              replace q2 := (hbr.cell (p := ⟨g, _, none⟩) lg).trans q2
              replace q3 := (hbr.cell (p := ⟨g, _, none⟩) lg).trans q3
              have hltI : (i : Int) < (l.length : Int) := by omega
              have hi0 : (0 : Int) ≤ (i : Int) := Int.natCast_nonneg _
              have HT := Lib.hid htk
              clear htk hs q0 q1 q4
              by_cases c1 : s.fa = r + 1
              · have e1 : (s.fa == r + 1) = true := by rw [c1]; exact beq_self_eq_true _
                clear c1
                go_wp2_with (first
                  | (go_at_call 39; refine (lives25 _).mono ?_; rintro e w10 ⟨rfl, hb10⟩; replace hcr := hcr.trans (hb10.mono hcr.size)))
                go_ret
                exact ⟨rfl, hbx.trans (hcr.mono hbx.size)⟩
              · have e1 : (s.fa == r + 1) = false := beq_eq_false_iff_ne.2 c1
                by_cases c2 : s.fz = r + 1
                · have e2 : (s.fz == r + 1) = true := by rw [c2]; exact beq_self_eq_true _
                  clear c1 c2
                  go_wp2_with (first
                    | (go_at_call 39; refine (lives25 _).mono ?_; rintro e w10 ⟨rfl, hb10⟩; replace hcr := hcr.trans (hb10.mono hcr.size)))
                  go_ret
                  exact ⟨rfl, hbx.trans (hcr.mono hbx.size)⟩
                · have e2 : (s.fz == r + 1) = false := beq_eq_false_iff_ne.2 c2
                  have HI2 := Lib.hid (show ∀ u ∈ l.take (i + 1), u.fa ≠ r + 1 ∧ u.fz ≠ r + 1 by
                    intro u hu
                    rw [HT.out] at hu
                    rcases List.mem_append.1 hu with hu | hu
                    · exact HI.out u hu
                    · obtain rfl := List.mem_singleton.1 hu
                      exact ⟨c1, c2⟩)
                  clear c1 c2
                  go_wp2_with fail
                  go_roundw
                  case rel => exact ⟨i + 1, by go_num, by omega, hbr, HI2.out⟩
                  case measure => simp [intOf]; omega
            · exfalso
              refine HEQ.out (HSM.out ?_)
              have h := HI.out
              rw [List.take_of_length_le (by omega)] at h
              exact h

end Go.Proofs.Ytcjpmgfobnaoeaa
