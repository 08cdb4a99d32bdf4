/- CursorChain: the walk. -/
import Derived.Test.YtcjpmgfobnaoeaaA43
import Derived.Test.YtcjpmgfobnaoeaaA51
namespace Go.Proofs.Ytcjpmgfobnaoeaa
open Go.RowKit
attribute [local irreducible] Calls

set_option maxRecDepth 100000 in
set_option maxHeartbeats 8000000 in
theorem cursorChain_walk (d : Dt) (v : Value) (a b t k : Int) (w : World) (hd : d.At w.heap.size w v) (ha0 : -9223372036854775808 ≤ a) (ha1 : a ≤ 9223372036854775807) (hb0 : -9223372036854775808 ≤ b) (hb1' : b ≤ 9223372036854775807) (ht0 : -9223372036854775808 ≤ t) (ht : t ≤ 9223372036854775807) :
    Calls Try.prog 15 #[v, .agg #[.int .i64 a, .int .i64 b, .int .i64 t, .int .i64 k]] w fun e w' => e = .returned (.bool true) ∧ Below w.heap.size w w' := by
  have hd' := hd
  obtain ⟨kv, tv, sv, rfl, _, _, _⟩ := hd'
  have hW : ∀ W, W = (w.alloc (.cells #[.int .i64 d.tree.sy, .int .i64 d.tree.pr, kv, tv, sv] 28)).alloc (.cells #[.int .i64 a, .int .i64 b, .int .i64 t, .int .i64 k] 30) → Below w.heap.size w W ∧
      W.heap[w.heap.size]? = some (.cells #[.int .i64 d.tree.sy, .int .i64 d.tree.pr, kv, tv, sv] 28 (0, 0)) ∧ W.heap[w.heap.size + 1]? = some (.cells #[.int .i64 a, .int .i64 b, .int .i64 t, .int .i64 k] 30 (0, 0)) := by
    rintro W rfl
    exact ⟨((Below.refl _ _).alloc (Nat.le_refl _) _).alloc (by simp) _, by rw [Below.heap_alloc _ _ _ (by simp)]; exact heap_alloc_new _ _, heap_new2 _ _ _⟩
  have HW := Lib.hid hW
  have HD := Lib.hid hd
  clear hW hd
  go_enter Try.func15, Try.ntmps15
  apply wp_seq_k
  intro K1 k1
  have H1 := Lib.hid k1
  clear k1
  go_wp2_with fail
  refine H1.out _ _ ?_
  clear H1 K1
  obtain ⟨hB, hx2, hx3⟩ := HW.out _ rfl
  generalize (w.alloc (.cells #[.int .i64 d.tree.sy, .int .i64 d.tree.pr, kv, tv, sv] 28)).alloc (.cells #[.int .i64 a, .int .i64 b, .int .i64 t, .int .i64 k] 30) = W at *
  have p0 : W.cell? ⟨w.heap.size, 0, none⟩ = some (.int .i64 d.tree.sy) := cell_of_heap hx2 rfl
  have p1 : W.cell? ⟨w.heap.size, 1, none⟩ = some (.int .i64 d.tree.pr) := cell_of_heap hx2 rfl
  have p2 : W.cell? ⟨w.heap.size, 2, none⟩ = some kv := cell_of_heap hx2 rfl
  have p3 : W.cell? ⟨w.heap.size, 3, none⟩ = some tv := cell_of_heap hx2 rfl
  have p4 : W.cell? ⟨w.heap.size, 4, none⟩ = some sv := cell_of_heap hx2 rfl
  have hgr := great19 w.heap.size d _ W (HD.out.keep hB) hB.size
  have hX : ∀ wx, Below W.heap.size W wx → wx.heap[w.heap.size]? = some (.cells #[.int .i64 d.tree.sy, .int .i64 d.tree.pr, kv, tv, sv] 28 (0, 0)) ∧ wx.heap[w.heap.size + 1]? = some (.cells #[.int .i64 a, .int .i64 b, .int .i64 t, .int .i64 k] 30 (0, 0)) := fun wx hb =>
    ⟨(hb.block _ (Array.getElem?_eq_some_iff.1 hx2).1).trans hx2, (hb.block _ (Array.getElem?_eq_some_iff.1 hx3).1).trans hx3⟩
  have HX := Lib.hid hX
  clear HW hx2 hx3 hX
  cases hg : d.great with
  | true =>
    rw [hg] at hgr
    go_wp2_with (first | (go_at_call 19; refine hgr.mono ?_; rintro e w1 ⟨rfl, hb1⟩) | (go_at_call 20; refine (lives22 _).mono ?_; rintro e w2 ⟨rfl, hb2⟩))
    go_ret
    exact ⟨rfl, hB.trans ((hb1.trans (hb2.mono hb1.size)).mono hB.size)⟩
  | false =>
    rw [hg] at hgr
    have hcnt : d.tree.cnt ≤ 60 := by unfold Dt.great at hg; simpa using hg
    apply wp_seq_k
    intro K1 k1
    have H1 := Lib.hid k1
    clear k1
    go_wp2_with (first | (go_at_call 19; refine hgr.mono ?_; rintro e w1 ⟨rfl, hb1⟩))
    refine H1.out _ _ ?_
    clear H1 K1 hgr p0 p1 p2 p3 p4
    have hx1 := (HX.out _ hb1).1
    have p0 : w1.cell? ⟨w.heap.size, 0, none⟩ = some (.int .i64 d.tree.sy) := cell_of_heap hx1 rfl
    have p1 : w1.cell? ⟨w.heap.size, 1, none⟩ = some (.int .i64 d.tree.pr) := cell_of_heap hx1 rfl
    have p2 : w1.cell? ⟨w.heap.size, 2, none⟩ = some kv := cell_of_heap hx1 rfl
    have p3 : w1.cell? ⟨w.heap.size, 3, none⟩ = some tv := cell_of_heap hx1 rfl
    have p4 : w1.cell? ⟨w.heap.size, 4, none⟩ = some sv := cell_of_heap hx1 rfl
    clear hx1
    have hBW := hB.trans (hb1.mono hB.size)
    have hbt := built_any w.heap.size d _ w1 (HD.out.keep hBW) hBW.size (by omega)
    rcases hr : d.bld with x | pn
    · have hq : ∀ x : Int, x ≠ 0 → (x == 0) = false := fun x h => beq_eq_false_iff_ne.2 h
      have HQ := Lib.hid hq
      have HR := Lib.hid hr
      clear hq hr
      go_wp2_with (first
        | (go_at_call 21; refine hbt.mono ?_; rintro e w2 hsay; obtain ⟨hb2, hx0, rfl⟩ := hsay.err HR.out; have hq := HQ.out _ hx0; have hbx := hb1.trans (hb2.mono hb1.size))
        | (go_at_call 20; refine (lives22 _).mono ?_; rintro e w4 ⟨rfl, hb4⟩))
      go_ret
      exact ⟨rfl, hB.trans ((hbx.trans (hb4.mono hbx.size)).mono hB.size)⟩
    · have HR := Lib.hid hr
      clear hr
      apply wp_seq_k
      intro K1 k1
      have H1 := Lib.hid k1
      clear k1
      go_wp2_with (first
        | (go_at_call 21; refine hbt.mono ?_; rintro e w2 hsay; obtain ⟨hb2, n, rfl, rfl, hin, hwf, hht, hcn, _⟩ := hsay.ok HR.out))
      refine H1.out _ _ ?_
      clear H1 K1 hbt p0 p1 p2 p3 p4
      have hbx := hb1.trans (hb2.mono hb1.size)
      have c0 := cell_of_heap (i := 0) (v := .int .i64 a) (HX.out _ hbx).2 rfl
      have c1 := cell_of_heap (i := 1) (v := .int .i64 b) (HX.out _ hbx).2 rfl
      have c2 := cell_of_heap (i := 2) (v := .int .i64 t) (HX.out _ hbx).2 rfl
      have hok := Nd.WF.ok n hwf
      have hh : n.ht ≤ 1000000 := by omega
      have hc3 : n.cnt ≤ 1000 := by omega
      have t1 := hok.tk1
      have t2 := hok.tk2
      by_cases hcc : 0 ≤ a ∧ 0 ≤ b ∧ a ≤ n.tk ∧ a ≤ t ∧ b ≤ n.tk - a ∧ b ≤ t - a
      · have hc : CurOk n.tk a b t := ⟨t1, t2, hcc.1, hcc.2.1, hcc.2.2.1, hcc.2.2.2.1, hcc.2.2.2.2.1, hcc.2.2.2.2.2, ht⟩
        obtain ⟨d1, d2, d3, d4, d5, d6⟩ := hcc
        have hwtb : IntKind.i64.wrap (t - b) = t - b := by rw [IntKind.wrap_i64]; omega
        have HNEW := Lib.hid (cnew_ok n a b t w2 hin hc)
        have HLV := Lib.hid (fun W (hW : Below w2.heap.size w2 W) => leaves_is n W (hin.below hW) hwf hc3)
        have hltk := tk_leaves hwf
        have HIN := Lib.hid hin
        have HWF := Lib.hid hwf
        have HC := Lib.hid hc
        clear hin hwf hok hc
        unfold Nd.ptr at HNEW HLV ⊢
        go_upto_region 10 with (first
          | (go_at_call 22; refine HNEW.out.mono ?_; rintro e w3 ⟨g3, rfl, hg3, hl3, hb3⟩; have HG3 := Lib.hid hg3; clear hg3)
          | (go_at_call 42; refine (HLV.out _ hb3).mono ?_; rintro e w4 ⟨v4, rfl, htk4, _, hb4⟩; have S4 := Lib.hid htk4; clear htk4))
        have hg4 := (hb4.block g3 (Array.getElem?_eq_some_iff.1 HG3.out).1).trans HG3.out
        have HG4 := Lib.hid hg4
        have hb24 := hb3.trans (hb4.mono hb3.size)
        have hbx4 := hbx.trans (hb24.mono hbx.size)
        obtain ⟨A4, c4, hv4, hcell4⟩ := S4.out
        subst hv4
        have HC4 := Lib.hid hcell4
        have hlv : n.plain.leaves.length ≤ 262144 := by omega
        clear hcell4 hg4 c0 c1 c2
        go_wp2_with fail
        go_loopw [10] (fun kv wx => ∃ k : Nat, kv = .int .i64 k ∧ k ≤ 100 ∧ Below w4.heap.size w4 wx) (fun kv _ => 101 - (intOf kv).toNat)
        case atStart => exact ⟨0, rfl, by omega, Below.refl _ _⟩
        case round =>
          obtain ⟨kk, rfl, hkk, hbr⟩ := hrel
          have hbxr := hbx4.trans (hbr.mono hbx4.size)
          have hb2r := hb24.trans (hbr.mono hb24.size)
          have c0 := cell_of_heap (i := 0) (v := .int .i64 a) (HX.out _ hbxr).2 rfl
          have c1 := cell_of_heap (i := 1) (v := .int .i64 b) (HX.out _ hbxr).2 rfl
          have c2 := cell_of_heap (i := 2) (v := .int .i64 t) (HX.out _ hbxr).2 rfl
          have hk0 : (0 : Int) ≤ (kk : Int) := Int.natCast_nonneg _
          by_cases hgo : (kk : Int) < t ∧ (kk : Int) < 100
          · obtain ⟨hgo1, hgo2⟩ := hgo
            have hch := atC_chain HWF.out HC.out hk0 hgo1
            have hat := at_any g3 n a b t kk wr (HIN.out.below hb2r) HWF.out hh ((hbr.block g3 (Array.getElem?_eq_some_iff.1 HG4.out).1).trans HG4.out) HC.out
            have hol := fun W (hW : Below wr.heap.size wr W) => old_some g3 n a b t kk W ((HIN.out.below hb2r).below hW) ((hW.block g3 (Array.getElem?_eq_some_iff.1 ((hbr.block g3 (Array.getElem?_eq_some_iff.1 HG4.out).1).trans HG4.out)).1).trans ((hbr.block g3 (Array.getElem?_eq_some_iff.1 HG4.out).1).trans HG4.out)) HC.out
            have hmem := fun (m : Nd) (hm : m ∈ atC n a b t kk) => (show m.In w2 ∧ m.WF by
              unfold atC at hm
              split at hm
              · exact ⟨atN_all (p := fun q => q.In w2) (fun q hq => hq.head.2.2) _ _ _ _ n HIN.out 0 m hm, atN_all (p := fun q => q.WF) (fun q hq => hq.kid) _ _ _ _ n HWF.out 0 m hm⟩
              · simp at hm)
            have hcln : (atC n a b t kk).length ≤ 1000 := Nat.le_trans (atC_len HWF.out HC.out) hc3
            rcases hch with ⟨hy, hcond, u, hu, hdc⟩ | ⟨hy, hcond, hnil⟩
            · have hinr := oldC_in HC.out hy
              obtain ⟨o, ho⟩ : ∃ o : Nat, (oldC n.tk a b t kk).1 = (o : Int) := ⟨(oldC n.tk a b t kk).1.toNat, by omega⟩
              rw [ho] at hinr hu
              rw [Int.toNat_natCast] at hu
              have holt : o < n.plain.leaves.length := by omega
              have hug : n.plain.leaves[o] = u := by
                rw [List.getElem?_eq_getElem holt] at hu
                injection hu
              rw [ho, hy] at hol
              have hdl : 0 < (atC n a b t kk).length := List.length_pos_iff.2 hdc.ne
              have HOL := Lib.hid hol
              have HMM := Lib.hid hmem
              have HDC := Lib.hid hdc
              have HCD := Lib.hid hcond
              have HUG := Lib.hid hug
              clear hol hcond hmem hdc hy ho hu hug
              generalize atC n a b t kk = L at *
              have hlI : (0 : Int) < (L.length : Int) := by omega
              have hdec : decide ((kk : Int) < a ∨ t - b ≤ (kk : Int)) = true := decide_eq_true HCD.out
              have hcut : (kk : Int) < a ∨ (¬ (kk : Int) < a ∧ t - b ≤ (kk : Int)) := by have := HCD.out; omega
              clear hdec
              rcases hcut with hka | ⟨hka, hkb⟩
              · go_upto_region 18 with (first
                  | (go_at_call 27; refine hat.mono ?_; rintro e w11 ⟨v11, rfl, hr11, hb11⟩; obtain ⟨A11, c11, rfl, hc11⟩ := ownsRow_any hr11; have HC11 := Lib.hid hc11; clear hc11; have hb12 := hb11)
                  | (go_at_call 25; refine (HOL.out _ hb12).mono ?_; rintro e w12 ⟨rfl, hbo⟩; replace hb12 := hb12.trans (hbo.mono hb12.size); have hbx12 := hbxr.trans (hb12.mono hbxr.size); have c0 := cell_of_heap (i := 0) (v := .int .i64 a) (HX.out _ hbx12).2 rfl; have c1 := cell_of_heap (i := 1) (v := .int .i64 b) (HX.out _ hbx12).2 rfl; have c2 := cell_of_heap (i := 2) (v := .int .i64 t) (HX.out _ hbx12).2 rfl))
                have hcr := hbr.trans (hb12.mono hbr.size)
                have hb212 := hb2r.trans (hb12.mono hb2r.size)
                have hcl : ∀ i (hi : i < L.length), ∃ g, A11 = some ⟨g, 0, none⟩ ∧ w12.cell? ⟨g, i, none⟩ = some (.pointer (some ⟨L[i].b, 0, none⟩)) := fun i hi => by
                  obtain ⟨g, h1, _, h3, h4⟩ := HC11.out i L[i].ptr (by rw [List.getElem?_map, List.getElem?_eq_getElem hi]; rfl)
                  exact ⟨g, h1, (hbo.cell (p := ⟨g, _, none⟩) h3).trans h4⟩
                have HCL := Lib.hid hcl
                obtain ⟨gt, hgt4, lgt, qt0, qt1, qt2⟩ := HC4.out o holt
                rw [HUG.out] at qt0 qt1 qt2
                have hlI : (0 : Int) ≤ (o : Int) := Int.natCast_nonneg _
                have hl4I : (o : Int) < (n.plain.leaves.length : Int) := by omega
                have hl4J : ¬ (n.plain.leaves.length : Int) ≤ (o : Int) := by omega
                have hoJ : ¬ (o : Int) < 0 := by omega
                have QT := Lib.hid (And.intro ((hcr.cell (p := ⟨gt, _, none⟩) lgt).trans qt0) (And.intro ((hcr.cell (p := ⟨gt, _, none⟩) lgt).trans qt1) ((hcr.cell (p := ⟨gt, _, none⟩) lgt).trans qt2)))
                subst hgt4
                clear hcl c0 c1 c2 hr11 hat qt0 qt1 qt2
                go_wp2_with fail
                go_loopw [14] (fun iv wx => ∃ i : Nat, iv = .int .i64 i ∧ i ≤ L.length ∧ Below w12.heap.size w12 wx) (fun iv _ => L.length - (intOf iv).toNat)
                case atStart => exact ⟨0, rfl, by omega, Below.refl _ _⟩
                case round =>
                  obtain ⟨i, rfl, hi, hbi⟩ := hrel
                  by_cases hlt : i < L.length
                  · obtain ⟨gl, hA, ql⟩ := HCL.out i hlt
                    have hm := HMM.out L[i] (List.getElem_mem hlt)
                    obtain ⟨kd, hkd⟩ : ∃ kd, L[i] = kd := ⟨_, rfl⟩
                    rw [hkd] at ql hm
                    subst hA
                    have hql := (hbi.cell (p := ⟨gl, _, none⟩) (World.block_lt_of_cell? _ _ ql)).trans ql
                    have hkok := Nd.WF.ok kd hm.2
                    have hin2 := fun W (hW : Below wr.heap.size wr W) => hm.1.below ((hb212.trans (hbi.mono hb212.size)).trans (hW.mono (hb212.trans (hbi.mono hb212.size)).size))
                    have hkds := fun W (hW : Below wr.heap.size wr W) => kids_some kd W (hin2 W hW) (by have := hkok.ht1; omega) (by have := hkok.klen; omega)
                    have hi0 : (0 : Int) ≤ (i : Int) := Int.natCast_nonneg _
                    have hltI : (i : Int) < (L.length : Int) := by omega
                    obtain ⟨i1, hi1⟩ : ∃ i1 : Nat, i1 = i + 1 := ⟨_, rfl⟩
                    have hwi : IntKind.i64.wrap ((i : Int) + 1) = (i1 : Int) := by rw [IntKind.wrap_i64]; omega
                    have hwi1 : IntKind.i64.wrap (i1 : Int) = (i1 : Int) := by rw [IntKind.wrap_i64]; omega
                    have hwo : IntKind.i64.wrap (o : Int) = (o : Int) := by rw [IntKind.wrap_i64]; omega
                    have hi10 : (0 : Int) ≤ (i1 : Int) := Int.natCast_nonneg _
                    have hcr2 := hcr.trans (hbi.mono hcr.size)
                    have HKD := Lib.hid hkds
                    have HIN3 := Lib.hid hin2
                    by_cases hmore : i1 < L.length
                    · obtain ⟨ks, hks⟩ := HDC.out.step i (by omega)
                      rw [hkd] at hks
                      obtain ⟨gl', hA', ql'⟩ := HCL.out i1 hmore
                      injection hA' with hA'
                      injection hA' with hA'
                      subst hA'
                      have hk1 : L[i1] = L[i + 1] := by congr 1
                      rw [← hk1] at hks
                      obtain ⟨k1, hkk1⟩ : ∃ k1, L[i1] = k1 := ⟨_, rfl⟩
                      rw [hkk1] at hks ql'
                      have hpr : 0 ≤ kd.pr := by
                        rcases hm.2.cases with ⟨_, h2, _⟩ | ⟨h1, _⟩
                        · rw [hks] at h2; simp at h2
                        · exact h1
                      have htok := fun W (hW : Below wr.heap.size wr W) => token_node kd W (hin2 W hW) (by have := hkok.ht1; omega) hpr
                      have HTK := Lib.hid htok
                      have HKS := Lib.hid hks
                      have hq1 := (hbi.cell (p := ⟨gl, _, none⟩) (World.block_lt_of_cell? _ _ ql')).trans ql'
                      have HQ1 := Lib.hid hq1
                      have hmI : (i1 : Int) < (L.length : Int) := by omega
                      have hmE : ((i1 : Int) == (L.length : Int)) = false := beq_eq_false_iff_ne.2 (by omega)
                      have hkl : (((ks.length + 1 : Nat) : Int) == 0) = false := beq_eq_false_iff_ne.2 (by omega)
                      have hkl2 : (0 : Int) < (ks.length : Int) + 1 := by omega
                      have hkl3 : (((ks.length : Int) + 1) == 0) = false := beq_eq_false_iff_ne.2 (by omega)
                      have HI1 := Lib.hid hi1
                      clear hkds hin2 htok hks hq1 hkd hk1 hkk1 ql ql' hkok hi1
                      unfold Nd.ptr at HKD HTK
                      go_upto_region 22 with (first
                        | (go_at_call 34; refine (HKD.out _ (Below.refl _ _)).mono ?_; rintro e w15 ⟨v15, rfl, hr15, hb15⟩; rw [HKS.out] at hr15; obtain ⟨A15, c15, rfl, hc15⟩ := ownsRow_any hr15; obtain ⟨g15, hB, _, _, z15⟩ := hc15 0 k1.ptr rfl; subst hB; unfold Nd.ptr at z15; clear hc15 hr15; have hql := (hb15.cell (p := ⟨gl, _, none⟩) (World.block_lt_of_cell? _ _ hql)).trans hql)
                        | (go_at_call 60; refine (HTK.out _ hb15).mono ?_; rintro e w16 ⟨rfl, hb16⟩))
                      have ha := below_alloc w16 (.cells #[.int .i64 0, .int .i64 0, .int .i64 0] 72)
                      generalize w16.alloc (.cells #[.int .i64 0, .int .i64 0, .int .i64 0] 72) = W9 at *
                      have h9 := hb15.trans ((hb16.trans (ha.mono hb16.size)).mono hb15.size)
                      have f0 : ∀ s : Sb W9, s.w.cell? ⟨g15, 0, none⟩ = some (.pointer (some ⟨k1.b, 0, none⟩)) := fun s => s.cell (((hb16.trans (ha.mono hb16.size)).cell (p := ⟨g15, 0, none⟩) (World.block_lt_of_cell? _ _ z15)).trans z15)
                      have f1 : ∀ s : Sb W9, s.w.cell? ⟨gl, i1, none⟩ = some (.pointer (some ⟨k1.b, 0, none⟩)) := fun s => s.cell ((h9.cell (p := ⟨gl, i1, none⟩) (World.block_lt_of_cell? _ _ HQ1.out)).trans HQ1.out)
                      clear z15
                      refine wp_region_sb (by kernel_rfl) (by kernel_rfl) ?_
                      repeat (go_big_quiet_step (fail))
                      refine wpQuiet_nil ?_
                      intro s
                      clear f0 f1
                      have hfi := hbi.trans ((h9.trans (s.below.mono h9.size)).mono hbi.size)
                      go_wp2_with fail
                      have hi1 := HI1.out
                      exact ⟨⟨i1, rfl, by omega, hfi⟩, by simp [intOf]; omega⟩
                    · obtain ⟨hpr, hk0', hu'⟩ := HDC.out.last i hlt (by omega)
                      rw [hkd] at hpr hk0' hu'
                      have hqt := QT.out
                      rw [← hu'] at hqt
                      obtain ⟨y0, y1, y2⟩ := hqt
                      simp only [] at y0 y1 y2
                      have htok := fun W (hW : Below wr.heap.size wr W) => token_leaf kd W (hin2 W hW) (by have := hkok.ht1; omega) hpr
                      have HTK := Lib.hid htok
                      have HKS := Lib.hid hk0'
                      have Y := Lib.hid (And.intro y0 (And.intro y1 y2))
                      have hmI : ¬ (i1 : Int) < (L.length : Int) := by omega
                      have hmJ : (L.length : Int) ≤ (i1 : Int) := by omega
                      have hmE : ((i1 : Int) == (L.length : Int)) = true := by rw [show (i1 : Int) = (L.length : Int) by omega]; exact beq_self_eq_true _
                      have e0 : (kd.sy == kd.sy) = true := beq_self_eq_true _
                      have e1 : (kd.ld == kd.ld) = true := beq_self_eq_true _
                      have e2 : (kd.wd == kd.wd) = true := beq_self_eq_true _
                      have HI1 := Lib.hid hi1
                      clear hkds hin2 htok hk0' hu' hkd ql hkok hi1 y0 y1 y2
                      unfold Nd.ptr at HKD HTK
                      go_upto_region 22 with (first
                        | (go_at_call 34; refine (HKD.out _ (Below.refl _ _)).mono ?_; rintro e w15 ⟨v15, rfl, hr15, hb15⟩; rw [HKS.out] at hr15; obtain ⟨A15, c15, rfl, _⟩ := ownsRow_any hr15; clear hr15; have hql := (hb15.cell (p := ⟨gl, _, none⟩) (World.block_lt_of_cell? _ _ hql)).trans hql)
                        | (go_at_call 60; refine (HTK.out _ hb15).mono ?_; rintro e w16 ⟨rfl, hb16⟩))
                      have ha := below_alloc w16 (.cells #[.int .i64 kd.sy, .int .i64 kd.ld, .int .i64 kd.wd] 72)
                      have hn := heap_alloc_new w16 (.cells #[.int .i64 kd.sy, .int .i64 kd.ld, .int .i64 kd.wd] 72)
                      obtain ⟨xb, hxb⟩ : ∃ xb, xb = w16.heap.size := ⟨_, rfl⟩
                      rw [← hxb] at hn ⊢
                      generalize w16.alloc (.cells #[.int .i64 kd.sy, .int .i64 kd.ld, .int .i64 kd.wd] 72) = W9 at *
                      have h9 := hb15.trans ((hb16.trans (ha.mono hb16.size)).mono hb15.size)
                      have h129 := hbi.trans (h9.mono hbi.size)
                      have f0 : ∀ s : Sb W9, s.w.cell? ⟨xb, 0, none⟩ = some (.int .i64 kd.sy) := fun s => s.cell (cell_of_heap hn rfl)
                      have f1 : ∀ s : Sb W9, s.w.cell? ⟨xb, 1, none⟩ = some (.int .i64 kd.ld) := fun s => s.cell (cell_of_heap hn rfl)
                      have f2 : ∀ s : Sb W9, s.w.cell? ⟨xb, 2, none⟩ = some (.int .i64 kd.wd) := fun s => s.cell (cell_of_heap hn rfl)
                      have f3 : ∀ s : Sb W9, s.w.cell? ⟨gt, o * 3, none⟩ = some (.int .i64 kd.sy) := fun s => s.cell ((h129.cell (p := ⟨gt, _, none⟩) (World.block_lt_of_cell? _ _ Y.out.1)).trans Y.out.1)
                      have f4 : ∀ s : Sb W9, s.w.cell? ⟨gt, o * 3 + 1, none⟩ = some (.int .i64 kd.ld) := fun s => s.cell ((h129.cell (p := ⟨gt, _, none⟩) (World.block_lt_of_cell? _ _ Y.out.2.1)).trans Y.out.2.1)
                      have f5 : ∀ s : Sb W9, s.w.cell? ⟨gt, o * 3 + 2, none⟩ = some (.int .i64 kd.wd) := fun s => s.cell ((h129.cell (p := ⟨gt, _, none⟩) (World.block_lt_of_cell? _ _ Y.out.2.2)).trans Y.out.2.2)
                      have hoD : decide ((o : Int) < 0) = false := decide_eq_false (by omega)
                      have hlD : decide ((n.plain.leaves.length : Int) ≤ (o : Int)) = false := decide_eq_false (by omega)
                      have hlN : decide (n.plain.leaves.length ≤ o) = false := decide_eq_false (by omega)
                      clear hn hxb
                      refine wp_region_sb (by kernel_rfl) (by kernel_rfl) ?_
                      repeat (go_big_quiet_step (fail))
                      refine wpQuiet_nil ?_
                      intro s
                      clear f0 f1 f2 f3 f4 f5
                      have hfi := hbi.trans ((h9.trans (s.below.mono h9.size)).mono hbi.size)
                      go_wp2_with fail
                      have hi1 := HI1.out
                      exact ⟨⟨i1, rfl, by omega, hfi⟩, by simp [intOf]; omega⟩
                  · have hge : ¬ ((i : Int) < (L.length : Int)) := by omega
                    have hcr2 := hcr.trans (hbi.mono hcr.size)
                    go_wp2_with fail
                    refine ⟨⟨kk + 1, by go_num, by omega, hcr2⟩, by simp [intOf]; omega⟩
              · go_upto_region 18 with (first
                  | (go_at_call 27; refine hat.mono ?_; rintro e w11 ⟨v11, rfl, hr11, hb11⟩; obtain ⟨A11, c11, rfl, hc11⟩ := ownsRow_any hr11; have HC11 := Lib.hid hc11; clear hc11; have hb12 := hb11)
                  | (go_at_call 25; refine (HOL.out _ hb12).mono ?_; rintro e w12 ⟨rfl, hbo⟩; replace hb12 := hb12.trans (hbo.mono hb12.size); have hbx12 := hbxr.trans (hb12.mono hbxr.size); have c0 := cell_of_heap (i := 0) (v := .int .i64 a) (HX.out _ hbx12).2 rfl; have c1 := cell_of_heap (i := 1) (v := .int .i64 b) (HX.out _ hbx12).2 rfl; have c2 := cell_of_heap (i := 2) (v := .int .i64 t) (HX.out _ hbx12).2 rfl))
                have hcr := hbr.trans (hb12.mono hbr.size)
                have hb212 := hb2r.trans (hb12.mono hb2r.size)
                have hcl : ∀ i (hi : i < L.length), ∃ g, A11 = some ⟨g, 0, none⟩ ∧ w12.cell? ⟨g, i, none⟩ = some (.pointer (some ⟨L[i].b, 0, none⟩)) := fun i hi => by
                  obtain ⟨g, h1, _, h3, h4⟩ := HC11.out i L[i].ptr (by rw [List.getElem?_map, List.getElem?_eq_getElem hi]; rfl)
                  exact ⟨g, h1, (hbo.cell (p := ⟨g, _, none⟩) h3).trans h4⟩
                have HCL := Lib.hid hcl
                obtain ⟨gt, hgt4, lgt, qt0, qt1, qt2⟩ := HC4.out o holt
                rw [HUG.out] at qt0 qt1 qt2
                have hlI : (0 : Int) ≤ (o : Int) := Int.natCast_nonneg _
                have hl4I : (o : Int) < (n.plain.leaves.length : Int) := by omega
                have hl4J : ¬ (n.plain.leaves.length : Int) ≤ (o : Int) := by omega
                have hoJ : ¬ (o : Int) < 0 := by omega
                have QT := Lib.hid (And.intro ((hcr.cell (p := ⟨gt, _, none⟩) lgt).trans qt0) (And.intro ((hcr.cell (p := ⟨gt, _, none⟩) lgt).trans qt1) ((hcr.cell (p := ⟨gt, _, none⟩) lgt).trans qt2)))
                subst hgt4
                clear hcl c0 c1 c2 hr11 hat qt0 qt1 qt2
                go_wp2_with fail
                go_loopw [14] (fun iv wx => ∃ i : Nat, iv = .int .i64 i ∧ i ≤ L.length ∧ Below w12.heap.size w12 wx) (fun iv _ => L.length - (intOf iv).toNat)
                case atStart => exact ⟨0, rfl, by omega, Below.refl _ _⟩
                case round =>
                  obtain ⟨i, rfl, hi, hbi⟩ := hrel
                  by_cases hlt : i < L.length
                  · obtain ⟨gl, hA, ql⟩ := HCL.out i hlt
                    have hm := HMM.out L[i] (List.getElem_mem hlt)
                    obtain ⟨kd, hkd⟩ : ∃ kd, L[i] = kd := ⟨_, rfl⟩
                    rw [hkd] at ql hm
                    subst hA
                    have hql := (hbi.cell (p := ⟨gl, _, none⟩) (World.block_lt_of_cell? _ _ ql)).trans ql
                    have hkok := Nd.WF.ok kd hm.2
                    have hin2 := fun W (hW : Below wr.heap.size wr W) => hm.1.below ((hb212.trans (hbi.mono hb212.size)).trans (hW.mono (hb212.trans (hbi.mono hb212.size)).size))
                    have hkds := fun W (hW : Below wr.heap.size wr W) => kids_some kd W (hin2 W hW) (by have := hkok.ht1; omega) (by have := hkok.klen; omega)
                    have hi0 : (0 : Int) ≤ (i : Int) := Int.natCast_nonneg _
                    have hltI : (i : Int) < (L.length : Int) := by omega
                    obtain ⟨i1, hi1⟩ : ∃ i1 : Nat, i1 = i + 1 := ⟨_, rfl⟩
                    have hwi : IntKind.i64.wrap ((i : Int) + 1) = (i1 : Int) := by rw [IntKind.wrap_i64]; omega
                    have hwi1 : IntKind.i64.wrap (i1 : Int) = (i1 : Int) := by rw [IntKind.wrap_i64]; omega
                    have hwo : IntKind.i64.wrap (o : Int) = (o : Int) := by rw [IntKind.wrap_i64]; omega
                    have hi10 : (0 : Int) ≤ (i1 : Int) := Int.natCast_nonneg _
                    have hcr2 := hcr.trans (hbi.mono hcr.size)
                    have HKD := Lib.hid hkds
                    have HIN3 := Lib.hid hin2
                    by_cases hmore : i1 < L.length
                    · obtain ⟨ks, hks⟩ := HDC.out.step i (by omega)
                      rw [hkd] at hks
                      obtain ⟨gl', hA', ql'⟩ := HCL.out i1 hmore
                      injection hA' with hA'
                      injection hA' with hA'
                      subst hA'
                      have hk1 : L[i1] = L[i + 1] := by congr 1
                      rw [← hk1] at hks
                      obtain ⟨k1, hkk1⟩ : ∃ k1, L[i1] = k1 := ⟨_, rfl⟩
                      rw [hkk1] at hks ql'
                      have hpr : 0 ≤ kd.pr := by
                        rcases hm.2.cases with ⟨_, h2, _⟩ | ⟨h1, _⟩
                        · rw [hks] at h2; simp at h2
                        · exact h1
                      have htok := fun W (hW : Below wr.heap.size wr W) => token_node kd W (hin2 W hW) (by have := hkok.ht1; omega) hpr
                      have HTK := Lib.hid htok
                      have HKS := Lib.hid hks
                      have hq1 := (hbi.cell (p := ⟨gl, _, none⟩) (World.block_lt_of_cell? _ _ ql')).trans ql'
                      have HQ1 := Lib.hid hq1
                      have hmI : (i1 : Int) < (L.length : Int) := by omega
                      have hmE : ((i1 : Int) == (L.length : Int)) = false := beq_eq_false_iff_ne.2 (by omega)
                      have hkl : (((ks.length + 1 : Nat) : Int) == 0) = false := beq_eq_false_iff_ne.2 (by omega)
                      have hkl2 : (0 : Int) < (ks.length : Int) + 1 := by omega
                      have hkl3 : (((ks.length : Int) + 1) == 0) = false := beq_eq_false_iff_ne.2 (by omega)
                      have HI1 := Lib.hid hi1
                      clear hkds hin2 htok hks hq1 hkd hk1 hkk1 ql ql' hkok hi1
                      unfold Nd.ptr at HKD HTK
                      go_upto_region 22 with (first
                        | (go_at_call 34; refine (HKD.out _ (Below.refl _ _)).mono ?_; rintro e w15 ⟨v15, rfl, hr15, hb15⟩; rw [HKS.out] at hr15; obtain ⟨A15, c15, rfl, hc15⟩ := ownsRow_any hr15; obtain ⟨g15, hB, _, _, z15⟩ := hc15 0 k1.ptr rfl; subst hB; unfold Nd.ptr at z15; clear hc15 hr15; have hql := (hb15.cell (p := ⟨gl, _, none⟩) (World.block_lt_of_cell? _ _ hql)).trans hql)
                        | (go_at_call 60; refine (HTK.out _ hb15).mono ?_; rintro e w16 ⟨rfl, hb16⟩))
                      have ha := below_alloc w16 (.cells #[.int .i64 0, .int .i64 0, .int .i64 0] 72)
                      generalize w16.alloc (.cells #[.int .i64 0, .int .i64 0, .int .i64 0] 72) = W9 at *
                      have h9 := hb15.trans ((hb16.trans (ha.mono hb16.size)).mono hb15.size)
                      have f0 : ∀ s : Sb W9, s.w.cell? ⟨g15, 0, none⟩ = some (.pointer (some ⟨k1.b, 0, none⟩)) := fun s => s.cell (((hb16.trans (ha.mono hb16.size)).cell (p := ⟨g15, 0, none⟩) (World.block_lt_of_cell? _ _ z15)).trans z15)
                      have f1 : ∀ s : Sb W9, s.w.cell? ⟨gl, i1, none⟩ = some (.pointer (some ⟨k1.b, 0, none⟩)) := fun s => s.cell ((h9.cell (p := ⟨gl, i1, none⟩) (World.block_lt_of_cell? _ _ HQ1.out)).trans HQ1.out)
                      clear z15
                      refine wp_region_sb (by kernel_rfl) (by kernel_rfl) ?_
                      repeat (go_big_quiet_step (fail))
                      refine wpQuiet_nil ?_
                      intro s
                      clear f0 f1
                      have hfi := hbi.trans ((h9.trans (s.below.mono h9.size)).mono hbi.size)
                      go_wp2_with fail
                      have hi1 := HI1.out
                      exact ⟨⟨i1, rfl, by omega, hfi⟩, by simp [intOf]; omega⟩
                    · obtain ⟨hpr, hk0', hu'⟩ := HDC.out.last i hlt (by omega)
                      rw [hkd] at hpr hk0' hu'
                      have hqt := QT.out
                      rw [← hu'] at hqt
                      obtain ⟨y0, y1, y2⟩ := hqt
                      simp only [] at y0 y1 y2
                      have htok := fun W (hW : Below wr.heap.size wr W) => token_leaf kd W (hin2 W hW) (by have := hkok.ht1; omega) hpr
                      have HTK := Lib.hid htok
                      have HKS := Lib.hid hk0'
                      have Y := Lib.hid (And.intro y0 (And.intro y1 y2))
                      have hmI : ¬ (i1 : Int) < (L.length : Int) := by omega
                      have hmJ : (L.length : Int) ≤ (i1 : Int) := by omega
                      have hmE : ((i1 : Int) == (L.length : Int)) = true := by rw [show (i1 : Int) = (L.length : Int) by omega]; exact beq_self_eq_true _
                      have e0 : (kd.sy == kd.sy) = true := beq_self_eq_true _
                      have e1 : (kd.ld == kd.ld) = true := beq_self_eq_true _
                      have e2 : (kd.wd == kd.wd) = true := beq_self_eq_true _
                      have HI1 := Lib.hid hi1
                      clear hkds hin2 htok hk0' hu' hkd ql hkok hi1 y0 y1 y2
                      unfold Nd.ptr at HKD HTK
                      go_upto_region 22 with (first
                        | (go_at_call 34; refine (HKD.out _ (Below.refl _ _)).mono ?_; rintro e w15 ⟨v15, rfl, hr15, hb15⟩; rw [HKS.out] at hr15; obtain ⟨A15, c15, rfl, _⟩ := ownsRow_any hr15; clear hr15; have hql := (hb15.cell (p := ⟨gl, _, none⟩) (World.block_lt_of_cell? _ _ hql)).trans hql)
                        | (go_at_call 60; refine (HTK.out _ hb15).mono ?_; rintro e w16 ⟨rfl, hb16⟩))
                      have ha := below_alloc w16 (.cells #[.int .i64 kd.sy, .int .i64 kd.ld, .int .i64 kd.wd] 72)
                      have hn := heap_alloc_new w16 (.cells #[.int .i64 kd.sy, .int .i64 kd.ld, .int .i64 kd.wd] 72)
                      obtain ⟨xb, hxb⟩ : ∃ xb, xb = w16.heap.size := ⟨_, rfl⟩
                      rw [← hxb] at hn ⊢
                      generalize w16.alloc (.cells #[.int .i64 kd.sy, .int .i64 kd.ld, .int .i64 kd.wd] 72) = W9 at *
                      have h9 := hb15.trans ((hb16.trans (ha.mono hb16.size)).mono hb15.size)
                      have h129 := hbi.trans (h9.mono hbi.size)
                      have f0 : ∀ s : Sb W9, s.w.cell? ⟨xb, 0, none⟩ = some (.int .i64 kd.sy) := fun s => s.cell (cell_of_heap hn rfl)
                      have f1 : ∀ s : Sb W9, s.w.cell? ⟨xb, 1, none⟩ = some (.int .i64 kd.ld) := fun s => s.cell (cell_of_heap hn rfl)
                      have f2 : ∀ s : Sb W9, s.w.cell? ⟨xb, 2, none⟩ = some (.int .i64 kd.wd) := fun s => s.cell (cell_of_heap hn rfl)
                      have f3 : ∀ s : Sb W9, s.w.cell? ⟨gt, o * 3, none⟩ = some (.int .i64 kd.sy) := fun s => s.cell ((h129.cell (p := ⟨gt, _, none⟩) (World.block_lt_of_cell? _ _ Y.out.1)).trans Y.out.1)
                      have f4 : ∀ s : Sb W9, s.w.cell? ⟨gt, o * 3 + 1, none⟩ = some (.int .i64 kd.ld) := fun s => s.cell ((h129.cell (p := ⟨gt, _, none⟩) (World.block_lt_of_cell? _ _ Y.out.2.1)).trans Y.out.2.1)
                      have f5 : ∀ s : Sb W9, s.w.cell? ⟨gt, o * 3 + 2, none⟩ = some (.int .i64 kd.wd) := fun s => s.cell ((h129.cell (p := ⟨gt, _, none⟩) (World.block_lt_of_cell? _ _ Y.out.2.2)).trans Y.out.2.2)
                      have hoD : decide ((o : Int) < 0) = false := decide_eq_false (by omega)
                      have hlD : decide ((n.plain.leaves.length : Int) ≤ (o : Int)) = false := decide_eq_false (by omega)
                      have hlN : decide (n.plain.leaves.length ≤ o) = false := decide_eq_false (by omega)
                      clear hn hxb
                      refine wp_region_sb (by kernel_rfl) (by kernel_rfl) ?_
                      repeat (go_big_quiet_step (fail))
                      refine wpQuiet_nil ?_
                      intro s
                      clear f0 f1 f2 f3 f4 f5
                      have hfi := hbi.trans ((h9.trans (s.below.mono h9.size)).mono hbi.size)
                      go_wp2_with fail
                      have hi1 := HI1.out
                      exact ⟨⟨i1, rfl, by omega, hfi⟩, by simp [intOf]; omega⟩
                  · have hge : ¬ ((i : Int) < (L.length : Int)) := by omega
                    have hcr2 := hcr.trans (hbi.mono hcr.size)
                    go_wp2_with fail
                    refine ⟨⟨kk + 1, by go_num, by omega, hcr2⟩, by simp [intOf]; omega⟩
            · rw [hnil] at hat
              have HOL := Lib.hid hol
              have e1 : ¬ (kk : Int) < a := fun h => hcond (.inl h)
              have e2 : ¬ t - b ≤ (kk : Int) := fun h => hcond (.inr h)
              rw [hy] at HOL
              clear hol hcond hnil hmem hcln
              go_wp2_with (first
                | (go_at_call 27; refine hat.mono ?_; rintro e w11 ⟨v11, rfl, hr11, hb11⟩; obtain ⟨A11, c11, rfl, _⟩ := ownsRow_any hr11; have hb12 := hb11)
                | (go_at_call 25; refine (HOL.out _ hb12).mono ?_; rintro e w12 ⟨rfl, hbo⟩; replace hb12 := hb12.trans (hbo.mono hb12.size); have hbx12 := hbxr.trans (hb12.mono hbxr.size); have c0 := cell_of_heap (i := 0) (v := .int .i64 a) (HX.out _ hbx12).2 rfl; have c1 := cell_of_heap (i := 1) (v := .int .i64 b) (HX.out _ hbx12).2 rfl; have c2 := cell_of_heap (i := 2) (v := .int .i64 t) (HX.out _ hbx12).2 rfl))
              have hcr := hbr.trans (hb12.mono hbr.size)
              go_loopw [14] (fun iv wx => iv = .int .i64 0 ∧ wx = w12) (fun _ _ => 0)
              case atStart => exact ⟨rfl, rfl⟩
              case round =>
                obtain ⟨rfl, rfl⟩ := hrel
                go_wp2_with fail
                refine ⟨⟨kk + 1, by go_num, by omega, hcr⟩, by simp [intOf]; omega⟩
          · have hfin : ¬ ((kk : Int) < t ∧ (kk : Int) < 100) := hgo
            by_cases hgt : (kk : Int) < t
            · have h100 : ¬ (kk : Int) < 100 := fun h => hgo ⟨hgt, h⟩
              clear hgo hfin
              go_wp2_with (first
                | (go_at_call 20; refine (lives22 _).mono ?_; rintro e w9 ⟨rfl, hb9⟩; replace hbxr := hbxr.trans (hb9.mono hbxr.size)))
              go_ret
              exact ⟨rfl, hB.trans (hbxr.mono hB.size)⟩
            · clear hgo hfin
              go_wp2_with (first
                | (go_at_call 20; refine (lives22 _).mono ?_; rintro e w9 ⟨rfl, hb9⟩; replace hbxr := hbxr.trans (hb9.mono hbxr.size)))
              go_ret
              exact ⟨rfl, hB.trans (hbxr.mono hB.size)⟩
      · have hbad := cnew_bad n a b t w2 hin t1 t2 hcc
        have HBAD := Lib.hid hbad
        clear hbad hin hwf hok hcc
        unfold Nd.ptr at HBAD ⊢
        go_wp2_with (first
          | (go_at_call 22; refine HBAD.out.mono ?_; rintro e w3 ⟨rfl, hb3⟩; have hbx3 := hbx.trans (hb3.mono hbx.size))
          | (go_at_call 20; refine (lives22 _).mono ?_; rintro e w4 ⟨rfl, hb4⟩))
        go_ret
        exact ⟨rfl, hB.trans ((hbx3.trans (hb4.mono hbx3.size)).mono hB.size)⟩

end Go.Proofs.Ytcjpmgfobnaoeaa
