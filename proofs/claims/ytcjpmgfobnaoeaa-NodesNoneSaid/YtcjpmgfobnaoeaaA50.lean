/- NodesNone: the walk. -/
import Derived.Test.YtcjpmgfobnaoeaaA49
import Derived.Test.YtcjpmgfobnaoeaaA29
namespace Go.Proofs.Ytcjpmgfobnaoeaa
open Go.RowKit

attribute [local irreducible] Calls
set_option maxRecDepth 100000 in
set_option maxHeartbeats 8000000 in
theorem nodesNone_walk (d : Dt) (v : Value) (w : World) (hd : d.At w.heap.size w v) :
    Calls Try.prog 18 #[v] w fun e w' => e = .returned (.bool true) ∧ Below w.heap.size w w' := by
  have hd' := hd
  obtain ⟨kv, tv, sv, rfl, _, _, _⟩ := hd'
  have hW : ∀ W, W = w.alloc (.cells #[.int .i64 d.tree.sy, .int .i64 d.tree.pr, kv, tv, sv] 28) → Below w.heap.size w W ∧
      W.heap[w.heap.size]? = some (.cells #[.int .i64 d.tree.sy, .int .i64 d.tree.pr, kv, tv, sv] 28 (0, 0)) := by
    rintro W rfl
    exact ⟨below_alloc _ _, heap_alloc_new _ _⟩
  have HW := Lib.hid hW
  have HD := Lib.hid hd
  clear hW hd
  go_enter Try.func18, Try.ntmps18
  apply wp_seq_k
  intro K1 k1
  have H1 := Lib.hid k1
  clear k1
  go_wp2_with fail
  refine H1.out _ _ ?_
  clear H1 K1
  obtain ⟨hB, hx2⟩ := HW.out _ rfl
  generalize w.alloc (.cells #[.int .i64 d.tree.sy, .int .i64 d.tree.pr, kv, tv, sv] 28) = W at *
  have p0 : W.cell? ⟨w.heap.size, 0, none⟩ = some (.int .i64 d.tree.sy) := cell_of_heap hx2 rfl
  have p1 : W.cell? ⟨w.heap.size, 1, none⟩ = some (.int .i64 d.tree.pr) := cell_of_heap hx2 rfl
  have p2 : W.cell? ⟨w.heap.size, 2, none⟩ = some kv := cell_of_heap hx2 rfl
  have p3 : W.cell? ⟨w.heap.size, 3, none⟩ = some tv := cell_of_heap hx2 rfl
  have p4 : W.cell? ⟨w.heap.size, 4, none⟩ = some sv := cell_of_heap hx2 rfl
  have hgr := great29 w.heap.size d _ W (HD.out.keep hB) hB.size
  have hX : ∀ wx, Below W.heap.size W wx → wx.heap[w.heap.size]? = some (.cells #[.int .i64 d.tree.sy, .int .i64 d.tree.pr, kv, tv, sv] 28 (0, 0)) := fun wx hb =>
    (hb.block _ (Array.getElem?_eq_some_iff.1 hx2).1).trans hx2
  have HX := Lib.hid hX
  clear HW hx2 hX
  cases hg : d.great with
  | true =>
    rw [hg] at hgr
    go_wp2_with (first | (go_at_call 29; refine hgr.mono ?_; rintro e w1 ⟨rfl, hb1⟩) | (go_at_call 30; refine (lives20 _).mono ?_; rintro e w2 ⟨rfl, hb2⟩))
    go_ret
    exact ⟨rfl, hB.trans ((hb1.trans (hb2.mono hb1.size)).mono hB.size)⟩
  | false =>
    rw [hg] at hgr
    have hcnt : d.tree.cnt ≤ 60 := by unfold Dt.great at hg; simpa using hg
    apply wp_seq_k
    intro K1 k1
    have H1 := Lib.hid k1
    clear k1
    go_wp2_with (first | (go_at_call 29; refine hgr.mono ?_; rintro e w1 ⟨rfl, hb1⟩))
    refine H1.out _ _ ?_
    clear H1 K1 hgr p0 p1 p2 p3 p4
    have hx1 := HX.out _ hb1
    have p0 : w1.cell? ⟨w.heap.size, 0, none⟩ = some (.int .i64 d.tree.sy) := cell_of_heap hx1 rfl
    have p1 : w1.cell? ⟨w.heap.size, 1, none⟩ = some (.int .i64 d.tree.pr) := cell_of_heap hx1 rfl
    have p2 : w1.cell? ⟨w.heap.size, 2, none⟩ = some kv := cell_of_heap hx1 rfl
    have p3 : w1.cell? ⟨w.heap.size, 3, none⟩ = some tv := cell_of_heap hx1 rfl
    have p4 : w1.cell? ⟨w.heap.size, 4, none⟩ = some sv := cell_of_heap hx1 rfl
    clear hx1
    have hBW := hB.trans (hb1.mono hB.size)
    have hbt := built_any w.heap.size d _ w1 (HD.out.keep hBW) hBW.size (by omega)
    rcases hr : d.bld with x | pn
    · have HR := Lib.hid hr
      clear hr
      go_upto_region 4 with (first
        | (go_at_call 21; refine hbt.mono ?_; rintro e w2 hsay; obtain ⟨hb2, hx0, rfl⟩ := hsay.err HR.out))
      have hbx2 := hB.trans ((hb1.trans (hb2.mono hb1.size)).mono hB.size)
      have HMN := Lib.hid (fun W (_ : Below w2.heap.size w2 W) => made_dud (w := W) (p := .pointer none) (.inl rfl))
      clear hbt p0 p1 p2 p3 p4
      have hcx := hbx2
      have HLK := Lib.hid (fun (q : Option Addr) W (h : NoneAt W q) => same_of (like_no q none false false false W (fun W' hW' => made_dud ((h.keep hW').dud)) (fun W' hW' => made_dud (.inl rfl)) (.inl rfl)))
      have HLA := Lib.hid (fun (q : Option Addr) W (h : NoneAt W q) => alike_of (like_no none q false false true W (fun W' hW' => made_dud (.inl rfl)) (fun W' hW' => made_dud ((h.keep hW').dud)) (.inl rfl)))
      have HLN := Lib.hid (fun (q : Option Addr) W (h : NoneAt W q) (hW : Below w2.heap.size w2 W) => same_of (like_no q none false false false W (fun W' hW' => made_dud ((h.keep hW').dud)) (fun W' hW' => HMN.out W' (hW.trans (hW'.mono hW.size))) (.inl rfl)))
      have HLB := Lib.hid (fun (q : Option Addr) W (h : NoneAt W q) (hW : Below w2.heap.size w2 W) => alike_of (like_no none q false false true W (fun W' hW' => HMN.out W' (hW.trans (hW'.mono hW.size))) (fun W' hW' => made_dud ((h.keep hW').dud)) (.inr rfl)))
      go_wp2_with fail
      go_loopw [5, 6] (fun pv iv wx => ∃ (i : Nat) (q : Option Addr), pv = .pointer q ∧ iv = .int .i64 i ∧ i ≤ 2 ∧ Below w2.heap.size w2 wx ∧ Hid (NoneAt wx q)) (fun _ iv _ => 2 - (intOf iv).toNat)
      case atStart => exact ⟨0, none, rfl, rfl, by omega, Below.refl _ _, .inl rfl⟩
      case round =>
        obtain ⟨i, q, rfl, rfl, hi, hbr, HN⟩ := hrel
        by_cases hlt : i < 2
        · have hltI : (i : Int) < 2 := by omega
          have hi0 : (0 : Int) ≤ (i : Int) := Int.natCast_nonneg _
          go_wp2_with (first
            | (go_at_call 60; refine (token_dud HN.out.dud).mono ?_; rintro e wa ⟨rfl, hba⟩; have hC := hba.alloc hba.size (.cells #[.int .i64 0, .int .i64 0, .int .i64 0] 72); have hnw := Lib.hid (heap_alloc_new wa (.cells #[.int .i64 0, .int .i64 0, .int .i64 0] 72)); have hnl := Lib.hid (World.size_alloc wa (.cells #[.int .i64 0, .int .i64 0, .int .i64 0] 72)))
            | (go_at_call 32; refine (sym_dud (HN.out.keep hC).dud).mono ?_; rintro e wb ⟨rfl, h1⟩; rw [h1]; clear h1)
            | (go_at_call 44; refine (prod_dud (HN.out.keep hC).dud).mono ?_; rintro e wb ⟨rfl, h1⟩; rw [h1]; clear h1)
            | (go_at_call 61; refine (stamp_dud (HN.out.keep hC).dud).mono ?_; rintro e wc ⟨rfl, hbc⟩; have gt := (hbc.block wa.heap.size (by rw [hnl.out]; omega)).trans hnw.out; have y0 := cell_of_heap (i := 0) (v := .int .i64 0) gt rfl; have y1 := cell_of_heap (i := 1) (v := .int .i64 0) gt rfl; have y2 := cell_of_heap (i := 2) (v := .int .i64 0) gt rfl; clear gt; replace hC := hC.trans (hbc.mono hC.size))
            | (go_at_call 34; refine (kids_dud (HN.out.keep hC).dud).mono ?_; rintro e wb ⟨rfl, h1⟩; rw [h1]; clear h1)
            | (go_at_call 24; refine (tokens_no (HN.out.keep hC)).mono ?_; rintro e wd ⟨rfl, hbd⟩; clear y0 y1 y2; replace hC := hC.trans (hbd.mono hC.size))
            | (go_at_call 36; refine (bytes_no (HN.out.keep hC)).mono ?_; rintro e wd2 ⟨rfl, hbd⟩; replace hC := hC.trans (hbd.mono hC.size))
            | (go_at_call 37; refine (lead_no (HN.out.keep hC)).mono ?_; rintro e wd3 ⟨rfl, hbd⟩; replace hC := hC.trans (hbd.mono hC.size))
            | (go_at_call 62; refine (height_no (HN.out.keep hC)).mono ?_; rintro e wd4 ⟨rfl, hbd⟩; replace hC := hC.trans (hbd.mono hC.size))
            | (go_at_call 57; refine (HLK.out _ _ (HN.out.keep hC)).mono ?_; rintro e we ⟨rfl, hbe⟩; replace hC := hC.trans (hbe.mono hC.size); clear HLK)
            | (go_at_call 58; refine (HLA.out _ _ (HN.out.keep hC)).mono ?_; rintro e wf ⟨rfl, hbf⟩; replace hC := hC.trans (hbf.mono hC.size); clear HLA)
            | (go_at_call 42; refine (leaves_dud _ _ (HN.out.keep hC).dud).mono ?_; rintro e wg ⟨rfl, hbg⟩; replace hC := hC.trans (hbg.mono hC.size))
            | (go_at_call 31; refine (spots_dud _ _ (HN.out.keep hC).dud).mono ?_; rintro e wh ⟨rfl, hbh⟩; replace hC := hC.trans (hbh.mono hC.size))
            | (go_at_call 54; refine (tree_no _ _ (HN.out.keep hC).dud).mono ?_; rintro e wi ⟨rfl, hbi⟩; replace hC := hC.trans (hbi.mono hC.size))
            | (go_at_call 53; refine (sameTree_zero _).mono ?_; rintro e wj ⟨rfl, hbj⟩; replace hC := hC.trans (hbj.mono hC.size))
            | (go_at_call 57; refine (HLN.out _ _ (HN.out.keep hC) (hbr.trans (hC.mono hbr.size))).mono ?_; rintro e wk ⟨rfl, hbk⟩; replace hC := hC.trans (hbk.mono hC.size))
            | (go_at_call 58; refine (HLB.out _ _ (HN.out.keep hC) (hbr.trans (hC.mono hbr.size))).mono ?_; rintro e wl ⟨rfl, hbl⟩; replace hC := hC.trans (hbl.mono hC.size)))
          have hf := hbr.trans (hC.mono hbr.size)
          go_roundw
          case rel => exact ⟨i + 1, some ⟨wl.heap.size, 0, none⟩, rfl, by go_num, by omega, hf.alloc hf.size _, .inr ⟨_, rfl, heap_alloc_new _ _⟩⟩
          case measure => simp [intOf]; omega
        · have hge : ¬ ((i : Int) < 2) := by omega
          go_wp2_with (first
            | (go_at_call 30; refine (lives20 _).mono ?_; rintro e w9 ⟨rfl, hb9⟩; replace hbr := hbr.trans (hb9.mono hbr.size)))
          go_ret
          exact ⟨rfl, hcx.trans (hbr.mono hcx.size)⟩
    · have HR := Lib.hid hr
      clear hr
      go_upto_region 4 with (first
        | (go_at_call 21; refine hbt.mono ?_; rintro e w2 hsay; obtain ⟨hb2, n, rfl, rfl, hin, hwf, hht, hcn, _⟩ := hsay.ok HR.out))
      have hbx2 := hB.trans ((hb1.trans (hb2.mono hb1.size)).mono hB.size)
      have hmn := fun W (hW : Below w2.heap.size w2 W) => made_yes n W (hin.below hW) (by have := (Nd.WF.ok n hwf).ht1; omega)
      unfold Nd.ptr at hmn ⊢
      have HMN := Lib.hid hmn
      clear hbt p0 p1 p2 p3 p4 hmn hin hwf
      have hcx := hbx2
      have HLK := Lib.hid (fun (q : Option Addr) W (h : NoneAt W q) => same_of (like_no q none false false false W (fun W' hW' => made_dud ((h.keep hW').dud)) (fun W' hW' => made_dud (.inl rfl)) (.inl rfl)))
      have HLA := Lib.hid (fun (q : Option Addr) W (h : NoneAt W q) => alike_of (like_no none q false false true W (fun W' hW' => made_dud (.inl rfl)) (fun W' hW' => made_dud ((h.keep hW').dud)) (.inl rfl)))
      have HLN := Lib.hid (fun (q : Option Addr) W (h : NoneAt W q) (hW : Below w2.heap.size w2 W) => same_of (like_no q (some ⟨n.b, 0, none⟩) false true false W (fun W' hW' => made_dud ((h.keep hW').dud)) (fun W' hW' => HMN.out W' (hW.trans (hW'.mono hW.size))) (.inl rfl)))
      have HLB := Lib.hid (fun (q : Option Addr) W (h : NoneAt W q) (hW : Below w2.heap.size w2 W) => alike_of (like_no (some ⟨n.b, 0, none⟩) q true false true W (fun W' hW' => HMN.out W' (hW.trans (hW'.mono hW.size))) (fun W' hW' => made_dud ((h.keep hW').dud)) (.inr rfl)))
      go_wp2_with fail
      go_loopw [5, 6] (fun pv iv wx => ∃ (i : Nat) (q : Option Addr), pv = .pointer q ∧ iv = .int .i64 i ∧ i ≤ 2 ∧ Below w2.heap.size w2 wx ∧ Hid (NoneAt wx q)) (fun _ iv _ => 2 - (intOf iv).toNat)
      case atStart => exact ⟨0, none, rfl, rfl, by omega, Below.refl _ _, .inl rfl⟩
      case round =>
        obtain ⟨i, q, rfl, rfl, hi, hbr, HN⟩ := hrel
        by_cases hlt : i < 2
        · have hltI : (i : Int) < 2 := by omega
          have hi0 : (0 : Int) ≤ (i : Int) := Int.natCast_nonneg _
          go_wp2_with (first
            | (go_at_call 60; refine (token_dud HN.out.dud).mono ?_; rintro e wa ⟨rfl, hba⟩; have hC := hba.alloc hba.size (.cells #[.int .i64 0, .int .i64 0, .int .i64 0] 72); have hnw := Lib.hid (heap_alloc_new wa (.cells #[.int .i64 0, .int .i64 0, .int .i64 0] 72)); have hnl := Lib.hid (World.size_alloc wa (.cells #[.int .i64 0, .int .i64 0, .int .i64 0] 72)))
            | (go_at_call 32; refine (sym_dud (HN.out.keep hC).dud).mono ?_; rintro e wb ⟨rfl, h1⟩; rw [h1]; clear h1)
            | (go_at_call 44; refine (prod_dud (HN.out.keep hC).dud).mono ?_; rintro e wb ⟨rfl, h1⟩; rw [h1]; clear h1)
            | (go_at_call 61; refine (stamp_dud (HN.out.keep hC).dud).mono ?_; rintro e wc ⟨rfl, hbc⟩; have gt := (hbc.block wa.heap.size (by rw [hnl.out]; omega)).trans hnw.out; have y0 := cell_of_heap (i := 0) (v := .int .i64 0) gt rfl; have y1 := cell_of_heap (i := 1) (v := .int .i64 0) gt rfl; have y2 := cell_of_heap (i := 2) (v := .int .i64 0) gt rfl; clear gt; replace hC := hC.trans (hbc.mono hC.size))
            | (go_at_call 34; refine (kids_dud (HN.out.keep hC).dud).mono ?_; rintro e wb ⟨rfl, h1⟩; rw [h1]; clear h1)
            | (go_at_call 24; refine (tokens_no (HN.out.keep hC)).mono ?_; rintro e wd ⟨rfl, hbd⟩; clear y0 y1 y2; replace hC := hC.trans (hbd.mono hC.size))
            | (go_at_call 36; refine (bytes_no (HN.out.keep hC)).mono ?_; rintro e wd2 ⟨rfl, hbd⟩; replace hC := hC.trans (hbd.mono hC.size))
            | (go_at_call 37; refine (lead_no (HN.out.keep hC)).mono ?_; rintro e wd3 ⟨rfl, hbd⟩; replace hC := hC.trans (hbd.mono hC.size))
            | (go_at_call 62; refine (height_no (HN.out.keep hC)).mono ?_; rintro e wd4 ⟨rfl, hbd⟩; replace hC := hC.trans (hbd.mono hC.size))
            | (go_at_call 57; refine (HLK.out _ _ (HN.out.keep hC)).mono ?_; rintro e we ⟨rfl, hbe⟩; replace hC := hC.trans (hbe.mono hC.size); clear HLK)
            | (go_at_call 58; refine (HLA.out _ _ (HN.out.keep hC)).mono ?_; rintro e wf ⟨rfl, hbf⟩; replace hC := hC.trans (hbf.mono hC.size); clear HLA)
            | (go_at_call 42; refine (leaves_dud _ _ (HN.out.keep hC).dud).mono ?_; rintro e wg ⟨rfl, hbg⟩; replace hC := hC.trans (hbg.mono hC.size))
            | (go_at_call 31; refine (spots_dud _ _ (HN.out.keep hC).dud).mono ?_; rintro e wh ⟨rfl, hbh⟩; replace hC := hC.trans (hbh.mono hC.size))
            | (go_at_call 54; refine (tree_no _ _ (HN.out.keep hC).dud).mono ?_; rintro e wi ⟨rfl, hbi⟩; replace hC := hC.trans (hbi.mono hC.size))
            | (go_at_call 53; refine (sameTree_zero _).mono ?_; rintro e wj ⟨rfl, hbj⟩; replace hC := hC.trans (hbj.mono hC.size))
            | (go_at_call 57; refine (HLN.out _ _ (HN.out.keep hC) (hbr.trans (hC.mono hbr.size))).mono ?_; rintro e wk ⟨rfl, hbk⟩; replace hC := hC.trans (hbk.mono hC.size))
            | (go_at_call 58; refine (HLB.out _ _ (HN.out.keep hC) (hbr.trans (hC.mono hbr.size))).mono ?_; rintro e wl ⟨rfl, hbl⟩; replace hC := hC.trans (hbl.mono hC.size)))
          have hf := hbr.trans (hC.mono hbr.size)
          go_roundw
          case rel => exact ⟨i + 1, some ⟨wl.heap.size, 0, none⟩, rfl, by go_num, by omega, hf.alloc hf.size _, .inr ⟨_, rfl, heap_alloc_new _ _⟩⟩
          case measure => simp [intOf]; omega
        · have hge : ¬ ((i : Int) < 2) := by omega
          go_wp2_with (first
            | (go_at_call 30; refine (lives20 _).mono ?_; rintro e w9 ⟨rfl, hb9⟩; replace hbr := hbr.trans (hb9.mono hbr.size)))
          go_ret
          exact ⟨rfl, hcx.trans (hbr.mono hcx.size)⟩

end Go.Proofs.Ytcjpmgfobnaoeaa
