/- FindLeaves: the walk. -/
import Derived.Test.YtcjpmgfobnaoeaaA43
import Derived.Test.YtcjpmgfobnaoeaaA39
namespace Go.Proofs.Ytcjpmgfobnaoeaa
open Go.RowKit

attribute [local irreducible] Calls
set_option maxRecDepth 100000 in
set_option maxHeartbeats 8000000 in
theorem findLeaves_walk (d : Dt) (v : Value) (q : Int) (w : World) (hd : d.At w.heap.size w v) (hq0 : 0 ≤ q) (hq1 : q ≤ 65535) :
    Calls Try.prog 17 #[v, .int .u16 q] w fun e w' => e = .returned (.bool true) ∧ Below w.heap.size w w' := by
  have hd' := hd
  obtain ⟨kv, tv, sv, rfl, _, _, _⟩ := hd'
  have hW : ∀ W, W = w.alloc (.cells #[.int .i64 d.tree.sy, .int .i64 d.tree.pr, kv, tv, sv] 28) → Below w.heap.size w W ∧
      W.heap[w.heap.size]? = some (.cells #[.int .i64 d.tree.sy, .int .i64 d.tree.pr, kv, tv, sv] 28 (0, 0)) := by
    rintro W rfl
    exact ⟨below_alloc _ _, heap_alloc_new _ _⟩
  have HW := Lib.hid hW
  have HD := Lib.hid hd
  clear hW hd
  go_enter Try.func17, Try.ntmps17
  apply wp_seq_k
  intro K1 k1
  have H1 := Lib.hid k1
  clear k1
  go_wp2_with fail
  refine H1.out _ _ ?_
  clear H1 K1
  obtain ⟨hB, hx2⟩ := HW.out _ rfl
  generalize w.alloc (.cells #[.int .i64 d.tree.sy, .int .i64 d.tree.pr, kv, tv, sv] 28) = W at *
  have p0 : W.cell? ⟨w.heap.size, 0, none⟩ = some (.int .i64 d.tree.sy) := cell_of_heap hx2 rfl
  have p1 : W.cell? ⟨w.heap.size, 1, none⟩ = some (.int .i64 d.tree.pr) := cell_of_heap hx2 rfl
  have p2 : W.cell? ⟨w.heap.size, 2, none⟩ = some kv := cell_of_heap hx2 rfl
  have p3 : W.cell? ⟨w.heap.size, 3, none⟩ = some tv := cell_of_heap hx2 rfl
  have p4 : W.cell? ⟨w.heap.size, 4, none⟩ = some sv := cell_of_heap hx2 rfl
  have hgr := great38 w.heap.size d _ W (HD.out.keep hB) hB.size
  have hX : ∀ wx, Below W.heap.size W wx → wx.heap[w.heap.size]? = some (.cells #[.int .i64 d.tree.sy, .int .i64 d.tree.pr, kv, tv, sv] 28 (0, 0)) := fun wx hb =>
    (hb.block _ (Array.getElem?_eq_some_iff.1 hx2).1).trans hx2
  have HX := Lib.hid hX
  clear HW hx2 hX
  cases hg : d.great with
  | true =>
    rw [hg] at hgr
    go_wp2_with (first | (go_at_call 38; refine hgr.mono ?_; rintro e w1 ⟨rfl, hb1⟩) | (go_at_call 39; refine (lives25 _).mono ?_; rintro e w2 ⟨rfl, hb2⟩))
    go_ret
    exact ⟨rfl, hB.trans ((hb1.trans (hb2.mono hb1.size)).mono hB.size)⟩
  | false =>
    rw [hg] at hgr
    have hcnt : d.tree.cnt ≤ 60 := by unfold Dt.great at hg; simpa using hg
    apply wp_seq_k
    intro K1 k1
    have H1 := Lib.hid k1
    clear k1
    go_wp2_with (first | (go_at_call 38; refine hgr.mono ?_; rintro e w1 ⟨rfl, hb1⟩))
    refine H1.out _ _ ?_
    clear H1 K1 hgr p0 p1 p2 p3 p4
    have hx1 := HX.out _ hb1
    have p0 : w1.cell? ⟨w.heap.size, 0, none⟩ = some (.int .i64 d.tree.sy) := cell_of_heap hx1 rfl
    have p1 : w1.cell? ⟨w.heap.size, 1, none⟩ = some (.int .i64 d.tree.pr) := cell_of_heap hx1 rfl
    have p2 : w1.cell? ⟨w.heap.size, 2, none⟩ = some kv := cell_of_heap hx1 rfl
    have p3 : w1.cell? ⟨w.heap.size, 3, none⟩ = some tv := cell_of_heap hx1 rfl
    have p4 : w1.cell? ⟨w.heap.size, 4, none⟩ = some sv := cell_of_heap hx1 rfl
    clear hx1
    have hBW := hB.trans (hb1.mono hB.size)
    have hbt := built_any w.heap.size d _ w1 (HD.out.keep hBW) hBW.size (by omega)
    rcases hr : d.bld with x | pn
    · have hq : ∀ x : Int, x ≠ 0 → (x == 0) = false := fun x h => beq_eq_false_iff_ne.2 h
      have HQ := Lib.hid hq
      have HR := Lib.hid hr
      clear hq hr
      go_wp2_with (first
        | (go_at_call 21; refine hbt.mono ?_; rintro e w2 hsay; obtain ⟨hb2, hx0, rfl⟩ := hsay.err HR.out; have hq := HQ.out _ hx0; have hbx := hb1.trans (hb2.mono hb1.size))
        | (go_at_call 39; refine (lives25 _).mono ?_; rintro e w4 ⟨rfl, hb4⟩))
      go_ret
      exact ⟨rfl, hB.trans ((hbx.trans (hb4.mono hbx.size)).mono hB.size)⟩
    · have HR := Lib.hid hr
      clear hr
      apply wp_seq_k
      intro K1 k1
      have H1 := Lib.hid k1
      clear k1
      go_wp2_with (first
        | (go_at_call 21; refine hbt.mono ?_; rintro e w2 hsay; obtain ⟨hb2, n, rfl, rfl, hin, hwf, hht, hcn, _⟩ := hsay.ok HR.out))
      refine H1.out _ _ ?_
      clear H1 K1 hbt p0 p1 p2 p3 p4
      have hbx := hB.trans ((hb1.trans (hb2.mono hb1.size)).mono hB.size)
      have hok := Nd.WF.ok n hwf
      have hc3 : n.cnt ≤ 1000 := by omega
      have hby := fun W (hW : Below w2.heap.size w2 W) => bytes_some n W (hin.below hW)
      have hcur := Below.refl w2.heap.size w2
      by_cases hsm : n.bt = 0
      · have hsm0 : (n.bt == 0) = true := by rw [hsm]; rfl
        clear hsm
        unfold Nd.ptr at hby ⊢
        have HBY := Lib.hid hby
        clear hby hin hwf hok
        go_wp2_with (first
          | (go_at_call 36; refine (HBY.out _ hcur).mono ?_; rintro e w8 ⟨rfl, hb8⟩; replace hcur := hcur.trans (hb8.mono hcur.size))
          | (go_at_call 39; refine (lives25 _).mono ?_; rintro e w9 ⟨rfl, hb9⟩; replace hcur := hcur.trans (hb9.mono hcur.size)))
        go_ret
        exact ⟨rfl, hbx.trans (hcur.mono hbx.size)⟩
      · obtain ⟨r, hr⟩ : ∃ r, Int.tmod q n.bt = r := ⟨_, rfl⟩
        have hb0' := hok.bt0
        have hb1' := hok.bt1
        have hr0 : 0 ≤ r := by rw [← hr]; exact Int.tmod_nonneg _ hq0
        have hr1 : r < n.bt := by rw [← hr]; exact Int.tmod_lt_of_pos _ (by omega)
        have hwr : IntKind.i64.wrap r = r := by rw [IntKind.wrap_i64]; omega
        have hwq : IntKind.i64.wrap q = q := by rw [IntKind.wrap_i64]; omega
        have hz0 : (n.bt == 0) = false := beq_eq_false_iff_ne.2 hsm
        have hlen1 := pathA_len n r
        obtain ⟨sp, hsp⟩ : ∃ sp, (pathA n r).getLast? = some sp := ⟨_, List.getLast?_eq_some_getLast (by simp [pathA])⟩
        have hsay := leaf_says n hwf r hr0 hr1 hsp
        have htok := leaves_ok n hwf
        have hbt : bytesOf n.plain.leaves = n.bt := (Nd.WF.adds n hwf).2.1.symm
        have hltk := (Nd.WF.adds n hwf).1
        have hll : n.plain.leaves.length ≤ 1000000 := by have := hok.tk2; omega
        have han := fun W (hW : Below w2.heap.size w2 W) => at_okv n.ptr r (pathA n r) sp W (by omega) hsp fun W2 hW2 => path_in n r W2 (hin.below (hW.trans (hW2.mono hW.size))) hwf hc3 hr0 (by omega)
        have hlv := fun W (hW : Below w2.heap.size w2 W) => leaves_is n W (hin.below hW) hwf hc3
        unfold Sp.val at han
        unfold Nd.ptr at han hby hlv ⊢
        have HAN := Lib.hid han
        have HBY := Lib.hid hby
        have HLV := Lib.hid hlv
        have HSAY := Lib.hid hsay
        have HTOK := Lib.hid htok
        have HBT := Lib.hid hbt
        clear han hby hlv hsay htok hbt hltk hsp hlen1 hin hwf hok
        generalize n.plain.leaves = l at *
        go_upto_region 10 with (first
          | (go_at_call 36; refine (HBY.out _ hcur).mono ?_; rintro e w8 ⟨rfl, hb8⟩; replace hcur := hcur.trans (hb8.mono hcur.size))
          | (go_at_call 41; refine (HAN.out _ hcur).mono ?_; rintro e w6 ⟨rfl, hb6⟩; replace hcur := hcur.trans (hb6.mono hcur.size); have hal := hcur.alloc hcur.size (.cells #[.int .i64 sp.sy, .int .i64 sp.pr, .int .i64 sp.fa, .int .i64 sp.fz, .int .i64 sp.dp] 66); have hnw := Lib.hid (heap_alloc_new w6 (.cells #[.int .i64 sp.sy, .int .i64 sp.pr, .int .i64 sp.fa, .int .i64 sp.fz, .int .i64 sp.dp] 66)); have hls := Lib.hid (World.size_alloc w6 (.cells #[.int .i64 sp.sy, .int .i64 sp.pr, .int .i64 sp.fa, .int .i64 sp.fz, .int .i64 sp.dp] 66)); clear HAN)
          | (go_at_call 42; refine (HLV.out _ hal).mono ?_; rintro e w7 ⟨v7, rfl, htk, _, hb7⟩; replace hcur := hal.trans (hb7.mono hal.size); have G6 := Lib.hid ((hb7.block w6.heap.size (by rw [hls.out]; omega)).trans hnw.out); have S7 := Lib.hid htk; clear htk))
        obtain ⟨A, c5, hv, hcell⟩ := S7.out
        subst hv
        have HC := Lib.hid hcell
        obtain ⟨xb, hxb⟩ : ∃ b, b = w6.heap.size := ⟨_, rfl⟩
        have GX := G6.out
        rw [← hxb] at GX ⊢
        have HGX := Lib.hid GX
        clear hcell hxb GX
        go_wp2_with fail
        go_loopw [11, 12] (fun fv iv wx => ∃ (i : Nat) (f : Int), iv = .int .i64 i ∧ fv = .int .i64 f ∧ i ≤ l.length ∧ Below w7.heap.size w7 wx ∧ 0 ≤ f ∧ Hid (f ≤ 65536 ∧ f + bytesOf (l.drop i) = n.bt ∧ tokAt r f (l.drop i) = tokAt r 0 l)) (fun _ iv _ => l.length - (intOf iv).toNat)
        case atStart => exact ⟨0, 0, rfl, rfl, by omega, Below.refl _ _, by omega, by omega, by rw [List.drop_zero, HBT.out]; omega, by rw [List.drop_zero]⟩
        case round =>
          obtain ⟨i, f, rfl, rfl, hi, hbr, hf0, HI⟩ := hrel
          have hcr := hcur.trans (hbr.mono hcur.size)
          have GR := (hbr.block xb (Array.getElem?_eq_some_iff.1 HGX.out).1).trans HGX.out
          have x0 : wr.cell? ⟨xb, 0, none⟩ = some (.int .i64 sp.sy) := cell_of_heap GR rfl
          have x1 : wr.cell? ⟨xb, 1, none⟩ = some (.int .i64 sp.pr) := cell_of_heap GR rfl
          have x2 : wr.cell? ⟨xb, 2, none⟩ = some (.int .i64 sp.fa) := cell_of_heap GR rfl
          have x3 : wr.cell? ⟨xb, 3, none⟩ = some (.int .i64 sp.fz) := cell_of_heap GR rfl
          have x4 : wr.cell? ⟨xb, 4, none⟩ = some (.int .i64 sp.dp) := cell_of_heap GR rfl
          clear GR
          by_cases hlt : i < l.length
          · obtain ⟨g, rfl, lg, q0, q1, q2⟩ := HC.out i hlt
            have hdr := List.drop_eq_getElem_cons hlt
            have htk := HTOK.out l[i] (List.getElem_mem hlt)
            obtain ⟨t, ht⟩ : ∃ t, l[i] = t := ⟨_, rfl⟩
            rw [ht] at q0 q1 q2 hdr htk
            replace q0 := (hbr.cell (p := ⟨g, _, none⟩) lg).trans q0
            replace q1 := (hbr.cell (p := ⟨g, _, none⟩) lg).trans q1
            replace q2 := (hbr.cell (p := ⟨g, _, none⟩) lg).trans q2
            obtain ⟨j1, j2, j3⟩ := HI.out
            rw [hdr, bytesOf_cons] at j2
            rw [hdr, tokAt_cons] at j3
            have hrest := bytesOf_nonneg (l := l.drop (i + 1)) fun u hu => HTOK.out u (List.mem_of_mem_drop hu)
            obtain ⟨t1, t2⟩ := htk
            have hltI : (i : Int) < (l.length : Int) := by omega
            have hi0 : (0 : Int) ≤ (i : Int) := Int.natCast_nonneg _
            have hw1 : IntKind.i64.wrap (f + t.2.1) = f + t.2.1 := by rw [IntKind.wrap_i64]; omega
            have hw2 : IntKind.i64.wrap (f + t.2.1 + t.2.2) = f + t.2.1 + t.2.2 := by rw [IntKind.wrap_i64]; omega
            have J2 := Lib.hid j2
            have J3 := Lib.hid j3
            have HDR := Lib.hid hdr
            have HRS := Lib.hid hrest
            clear hdr ht j2 j3 hrest HI
            by_cases c1 : r < f + t.2.1
            · have hs := HSAY.out
              rw [← J3.out, if_pos c1] at hs
              have hs' : 0 ≤ sp.pr ∨ sp.dp = 0 := hs
              clear hs
              by_cases c2 : 0 ≤ sp.pr
              · clear hs'
                go_wp2_with (first
                  | (go_at_call 39; refine (lives25 _).mono ?_; rintro e w10 ⟨rfl, hb10⟩; replace hcr := hcr.trans (hb10.mono hcr.size)))
                go_ret
                exact ⟨rfl, hbx.trans (hcr.mono hbx.size)⟩
              · have c3 : sp.pr < 0 := by omega
                have c4 : sp.dp = 0 := by rcases hs' with h | h; exact absurd h c2; exact h
                have c5 : (sp.dp == 0) = true := by rw [c4]; rfl
                clear hs' c4
                go_wp2_with (first
                  | (go_at_call 39; refine (lives25 _).mono ?_; rintro e w10 ⟨rfl, hb10⟩; replace hcr := hcr.trans (hb10.mono hcr.size)))
                go_ret
                exact ⟨rfl, hbx.trans (hcr.mono hbx.size)⟩
            · have c1' : f + t.2.1 ≤ r := by omega
              by_cases c2 : r < f + t.2.1 + t.2.2
              · have hs := HSAY.out
                rw [← J3.out, if_neg c1, if_pos c2] at hs
                have hs' : sp.pr < 0 ∧ sp.sy = t.1 ∧ ((sp.fa = f + t.2.1 ∧ sp.fz = f + t.2.1 + t.2.2) ∨ sp.dp = 0) := hs
                obtain ⟨s1, s2, s3⟩ := hs'
                have s2' : (sp.sy == t.1) = true := by rw [s2]; exact beq_self_eq_true _
                have u0 : ∀ s : Sb wr, s.w.cell? ⟨xb, 0, none⟩ = some (.int .i64 sp.sy) := fun s => s.cell x0
                have u1 : ∀ s : Sb wr, s.w.cell? ⟨xb, 1, none⟩ = some (.int .i64 sp.pr) := fun s => s.cell x1
                have u2 : ∀ s : Sb wr, s.w.cell? ⟨xb, 2, none⟩ = some (.int .i64 sp.fa) := fun s => s.cell x2
                have u3 : ∀ s : Sb wr, s.w.cell? ⟨xb, 3, none⟩ = some (.int .i64 sp.fz) := fun s => s.cell x3
                have u4 : ∀ s : Sb wr, s.w.cell? ⟨xb, 4, none⟩ = some (.int .i64 sp.dp) := fun s => s.cell x4
                have v0 : ∀ s : Sb wr, s.w.cell? ⟨g, i * 3, none⟩ = some (.int .i64 t.1) := fun s => s.cell q0
                have v1 : ∀ s : Sb wr, s.w.cell? ⟨g, i * 3 + 1, none⟩ = some (.int .i64 t.2.1) := fun s => s.cell q1
                have v2 : ∀ s : Sb wr, s.w.cell? ⟨g, i * 3 + 2, none⟩ = some (.int .i64 t.2.2) := fun s => s.cell q2
                have HLV2 := Lib.hid (fun s : Sb wr => Calls.sb (lives25 s.w))
                clear hs s2
                by_cases c6 : sp.fa = f + t.2.1 ∧ sp.fz = f + t.2.1 + t.2.2
                · have c7 : (sp.fa == f + t.2.1) = true := by rw [c6.1]; exact beq_self_eq_true _
                  have c8 : (sp.fz == f + t.2.1 + t.2.2) = true := by rw [c6.2]; exact beq_self_eq_true _
                  clear c6 s3
                  go_upto_region 17 with fail
                  refine wp_region_sb (by kernel_rfl) (by kernel_rfl) ?_
                  repeat (go_big_quiet_step (first | (go_at_call 39; exact HLV2.out _)))
                  refine wpQuiet_nil ?_
                  intro s
                  clear u0 u1 u2 u3 u4 v0 v1 v2 x0 x1 x2 x3 x4 q0 q1 q2
                  go_wp2_with fail
                  go_ret
                  exact ⟨rfl, hbx.trans ((hcr.trans (s.below.mono hcr.size)).mono hbx.size)⟩
                · have c9 : sp.dp = 0 := by rcases s3 with h | h; exact absurd h c6; exact h
                  have c10 : (sp.dp == 0) = true := by rw [c9]; rfl
                  have hf : (sp.fa == f + t.2.1 && (sp.fz == f + t.2.1 + t.2.2)) = false := by
                    rw [Bool.eq_false_iff]
                    intro h
                    apply c6
                    simpa only [Bool.and_eq_true, beq_iff_eq] using h
                  have heql : ∀ W : World, (binOp .eql 64 (.agg #[.int .i64 sp.fa, .int .i64 sp.fz]) (.agg #[.int .i64 (f + t.2.1), .int .i64 (f + t.2.1 + t.2.2)])).run Try.prog W = .ok (.bool false) W := fun W => by rw [eql64, hf]
                  clear c6 s3 c9 hf
                  go_upto_region 17 with fail
                  refine wp_region_sb (by kernel_rfl) (by kernel_rfl) ?_
                  repeat (go_big_quiet_step (first | (go_at_call 39; exact HLV2.out _)))
                  refine wpQuiet_nil ?_
                  intro s
                  clear u0 u1 u2 u3 u4 v0 v1 v2 x0 x1 x2 x3 x4 q0 q1 q2 heql
                  go_wp2_with fail
                  go_ret
                  exact ⟨rfl, hbx.trans ((hcr.trans (s.below.mono hcr.size)).mono hbx.size)⟩
              · have c2' : f + t.2.1 + t.2.2 ≤ r := by omega
                go_wp2_with fail
                go_roundw
                case rel =>
                  have hh := J2.out
                  have hh3 := J3.out
                  have hr5 := HRS.out
                  rw [if_neg c1, if_neg c2] at hh3
                  exact ⟨i + 1, f + t.2.1 + t.2.2, by go_num, by go_num, by omega, hbr, by omega, by omega, by omega, hh3⟩
                case measure => simp [intOf]; omega
          · exfalso
            have hs := HSAY.out
            have h3 := HI.out.2.2
            rw [List.drop_of_length_le (by omega)] at h3
            rw [← h3] at hs
            exact hs

end Go.Proofs.Ytcjpmgfobnaoeaa
