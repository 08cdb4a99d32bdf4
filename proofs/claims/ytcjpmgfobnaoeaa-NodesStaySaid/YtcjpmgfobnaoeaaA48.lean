/- NodesStay: the walk. -/
import Derived.Test.YtcjpmgfobnaoeaaA45
import Derived.Test.YtcjpmgfobnaoeaaA34
import Derived.Test.YtcjpmgfobnaoeaaA29
namespace Go.Proofs.Ytcjpmgfobnaoeaa
open Go.RowKit

theorem stay_E (m n : Nd) : makeE 3 [m.sy, n.sy, n.sy] 0 0 0 [m, n, n] = 3 ∨ makeE 3 [m.sy, n.sy, n.sy] 0 0 0 [m, n, n] = 0 := by
  unfold makeE
  rw [if_neg (by simp), if_neg (by simp)]
  split
  · exact .inl rfl
  · exact .inr rfl

attribute [local irreducible] Calls
set_option maxRecDepth 100000 in
set_option maxHeartbeats 8000000 in
theorem nodesStay_walk (d1 : Dt) (v1 : Value) (d2 : Dt) (v2 : Value) (w : World) (hd1 : d1.At w.heap.size w v1) (hd2 : d2.At w.heap.size w v2) :
    Calls Try.prog 5 #[v1, v2] w fun e w' => e = .returned (.bool true) ∧ Below w.heap.size w w' := by
  have hd1' := hd1
  obtain ⟨kv, tv, sv, rfl, _, _, _⟩ := hd1'
  have hd2' := hd2
  obtain ⟨kv2, tv2, sv2, rfl, _, _, _⟩ := hd2'
  have hW : ∀ W, W = (w.alloc (.cells #[.int .i64 d1.tree.sy, .int .i64 d1.tree.pr, kv, tv, sv] 28)).alloc (.cells #[.int .i64 d2.tree.sy, .int .i64 d2.tree.pr, kv2, tv2, sv2] 28) → Below w.heap.size w W ∧
      W.heap[w.heap.size]? = some (.cells #[.int .i64 d1.tree.sy, .int .i64 d1.tree.pr, kv, tv, sv] 28 (0, 0)) ∧ W.heap[w.heap.size + 1]? = some (.cells #[.int .i64 d2.tree.sy, .int .i64 d2.tree.pr, kv2, tv2, sv2] 28 (0, 0)) := by
    rintro W rfl
    exact ⟨((Below.refl _ _).alloc (Nat.le_refl _) _).alloc (by simp) _, by rw [Below.heap_alloc _ _ _ (by simp)]; exact heap_alloc_new _ _, heap_new2 _ _ _⟩
  have HW := Lib.hid hW
  have HD1 := Lib.hid hd1
  have HD2 := Lib.hid hd2
  clear hW hd1 hd2
  go_enter Try.func5, Try.ntmps5
  apply wp_seq_k
  intro K1 k1
  have H1 := Lib.hid k1
  clear k1
  go_wp2_with fail
  refine H1.out _ _ ?_
  clear H1 K1
  obtain ⟨hB, hx1, hx2⟩ := HW.out _ rfl
  generalize (w.alloc (.cells #[.int .i64 d1.tree.sy, .int .i64 d1.tree.pr, kv, tv, sv] 28)).alloc (.cells #[.int .i64 d2.tree.sy, .int .i64 d2.tree.pr, kv2, tv2, sv2] 28) = W at *
  have hX1 : ∀ wx, Below W.heap.size W wx → ∀ i v, #[.int .i64 d1.tree.sy, .int .i64 d1.tree.pr, kv, tv, sv][i]? = some v → wx.cell? ⟨w.heap.size, i, none⟩ = some v := fun wx hb i v hv =>
    cell_of_heap ((hb.block _ (Array.getElem?_eq_some_iff.1 hx1).1).trans hx1) hv
  have hX2 : ∀ wx, Below W.heap.size W wx → ∀ i v, #[.int .i64 d2.tree.sy, .int .i64 d2.tree.pr, kv2, tv2, sv2][i]? = some v → wx.cell? ⟨w.heap.size + 1, i, none⟩ = some v := fun wx hb i v hv =>
    cell_of_heap ((hb.block _ (Array.getElem?_eq_some_iff.1 hx2).1).trans hx2) hv
  have HX1 := Lib.hid hX1
  have HX2 := Lib.hid hX2
  have hg1 := fun wx (hb : Below W.heap.size W wx) => great29 w.heap.size d1 _ wx (HD1.out.keep (hB.trans (hb.mono hB.size))) (hB.trans (hb.mono hB.size)).size
  have hg2 := fun wx (hb : Below W.heap.size W wx) => great29 w.heap.size d2 _ wx (HD2.out.keep (hB.trans (hb.mono hB.size))) (hB.trans (hb.mono hB.size)).size
  have p0 := HX1.out W (Below.refl _ _) 0 _ rfl
  have p1 := HX1.out W (Below.refl _ _) 1 _ rfl
  have p2 := HX1.out W (Below.refl _ _) 2 _ rfl
  have p3 := HX1.out W (Below.refl _ _) 3 _ rfl
  have p4 := HX1.out W (Below.refl _ _) 4 _ rfl
  have hcur := Below.refl W.heap.size W
  clear HW hX1 hX2 hx1 hx2
  cases hga : d1.great with
  | true =>
    rw [hga] at hg1
    have HG1 := Lib.hid hg1
    clear hg1 hg2
    go_wp2_with (first | (go_at_call 29; refine (HG1.out _ hcur).mono ?_; rintro e w1 ⟨rfl, hb1⟩; replace hcur := hcur.trans (hb1.mono hcur.size)) | (go_at_call 30; refine (lives20 _).mono ?_; rintro e w2 ⟨rfl, hb2⟩; replace hcur := hcur.trans (hb2.mono hcur.size)))
    go_ret
    exact ⟨rfl, hB.trans (hcur.mono hB.size)⟩
  | false =>
    rw [hga] at hg1
    have HG1 := Lib.hid hg1
    have HG2 := Lib.hid hg2
    clear hg1 hg2
    cases hgb : d2.great with
    | true =>
      rw [hgb] at HG2
      go_wp2_with (first | (go_at_call 29; refine (HG1.out _ hcur).mono ?_; rintro e w1 ⟨rfl, hb1⟩; replace hcur := hcur.trans (hb1.mono hcur.size); have q0 := HX2.out _ hcur 0 _ rfl; have q1 := HX2.out _ hcur 1 _ rfl; have q2 := HX2.out _ hcur 2 _ rfl; have q3 := HX2.out _ hcur 3 _ rfl; have q4 := HX2.out _ hcur 4 _ rfl; clear HG1) | (go_at_call 29; refine (HG2.out _ hcur).mono ?_; rintro e w1 ⟨rfl, hb1⟩; replace hcur := hcur.trans (hb1.mono hcur.size)) | (go_at_call 30; refine (lives20 _).mono ?_; rintro e w2 ⟨rfl, hb2⟩; replace hcur := hcur.trans (hb2.mono hcur.size)))
      go_ret
      exact ⟨rfl, hB.trans (hcur.mono hB.size)⟩
    | false =>
      rw [hgb] at HG2
      have hcnt1 : d1.tree.cnt ≤ 60 := by unfold Dt.great at hga; simpa using hga
      have hcnt2 : d2.tree.cnt ≤ 60 := by unfold Dt.great at hgb; simpa using hgb
      go_upto_region 3 with (first | (go_at_call 29; refine (HG1.out _ hcur).mono ?_; rintro e w1 ⟨rfl, hb1⟩; replace hcur := hcur.trans (hb1.mono hcur.size); have q0 := HX2.out _ hcur 0 _ rfl; have q1 := HX2.out _ hcur 1 _ rfl; have q2 := HX2.out _ hcur 2 _ rfl; have q3 := HX2.out _ hcur 3 _ rfl; have q4 := HX2.out _ hcur 4 _ rfl; clear HG1) | (go_at_call 29; refine (HG2.out _ hcur).mono ?_; rintro e w2 ⟨rfl, hb2⟩; replace hcur := hcur.trans (hb2.mono hcur.size)))
      clear p0 p1 p2 p3 p4 q0 q1 q2 q3 q4 HG2
      have p0 := HX1.out _ hcur 0 _ rfl
      have p1 := HX1.out _ hcur 1 _ rfl
      have p2 := HX1.out _ hcur 2 _ rfl
      have p3 := HX1.out _ hcur 3 _ rfl
      have p4 := HX1.out _ hcur 4 _ rfl
      have hbt1 := fun wx (hb : Below W.heap.size W wx) => built_any w.heap.size d1 _ wx (HD1.out.keep (hB.trans (hb.mono hB.size))) (hB.trans (hb.mono hB.size)).size (by omega)
      have hbt2 := fun wx (hb : Below W.heap.size W wx) => built_any w.heap.size d2 _ wx (HD2.out.keep (hB.trans (hb.mono hB.size))) (hB.trans (hb.mono hB.size)).size (by omega)
      have HT1 := Lib.hid hbt1
      have HT2 := Lib.hid hbt2
      have HQ := Lib.hid (fun (x : Int) (h : x ≠ 0) => (beq_eq_false_iff_ne.2 h : (x == 0) = false))
      clear hbt1 hbt2
      rcases hr1 : d1.bld with x1 | pn1
      · have HR1 := Lib.hid hr1
        clear hr1
        rcases hr2 : d2.bld with x2 | pn2
        · have HR2 := Lib.hid hr2
          clear hr2
          go_wp2_with (first
            | (go_at_call 21; refine (HT1.out _ hcur).mono ?_; rintro e w3 hsay; obtain ⟨hb3, hx01, rfl⟩ := hsay.err HR1.out; have hq1 := HQ.out _ hx01; replace hcur := hcur.trans (hb3.mono hcur.size); have q0 := HX2.out _ hcur 0 _ rfl; have q1 := HX2.out _ hcur 1 _ rfl; have q2 := HX2.out _ hcur 2 _ rfl; have q3 := HX2.out _ hcur 3 _ rfl; have q4 := HX2.out _ hcur 4 _ rfl; clear HT1)
            | (go_at_call 21; refine (HT2.out _ hcur).mono ?_; rintro e w4 hsay2; obtain ⟨hb4, hx02, rfl⟩ := hsay2.err HR2.out; replace hcur := hcur.trans (hb4.mono hcur.size))
            | (go_at_call 30; refine (lives20 _).mono ?_; rintro e w5 ⟨rfl, hb5⟩; replace hcur := hcur.trans (hb5.mono hcur.size)))
          go_ret
          exact ⟨rfl, hB.trans (hcur.mono hB.size)⟩
        · have HR2 := Lib.hid hr2
          clear hr2
          go_wp2_with (first
            | (go_at_call 21; refine (HT1.out _ hcur).mono ?_; rintro e w3 hsay; obtain ⟨hb3, hx01, rfl⟩ := hsay.err HR1.out; have hq1 := HQ.out _ hx01; replace hcur := hcur.trans (hb3.mono hcur.size); have q0 := HX2.out _ hcur 0 _ rfl; have q1 := HX2.out _ hcur 1 _ rfl; have q2 := HX2.out _ hcur 2 _ rfl; have q3 := HX2.out _ hcur 3 _ rfl; have q4 := HX2.out _ hcur 4 _ rfl; clear HT1)
            | (go_at_call 21; refine (HT2.out _ hcur).mono ?_; rintro e w4 hsay2; obtain ⟨hb4, m, _, rfl, _⟩ := hsay2.ok HR2.out; replace hcur := hcur.trans (hb4.mono hcur.size))
            | (go_at_call 30; refine (lives20 _).mono ?_; rintro e w5 ⟨rfl, hb5⟩; replace hcur := hcur.trans (hb5.mono hcur.size)))
          go_ret
          exact ⟨rfl, hB.trans (hcur.mono hB.size)⟩
      · have HR1 := Lib.hid hr1
        clear hr1
        rcases hr2 : d2.bld with x2 | pn2
        · have HR2 := Lib.hid hr2
          clear hr2
          go_wp2_with (first
            | (go_at_call 21; refine (HT1.out _ hcur).mono ?_; rintro e w3 hsay; obtain ⟨hb3, n, _, rfl, _⟩ := hsay.ok HR1.out; replace hcur := hcur.trans (hb3.mono hcur.size); have q0 := HX2.out _ hcur 0 _ rfl; have q1 := HX2.out _ hcur 1 _ rfl; have q2 := HX2.out _ hcur 2 _ rfl; have q3 := HX2.out _ hcur 3 _ rfl; have q4 := HX2.out _ hcur 4 _ rfl; clear HT1)
            | (go_at_call 21; refine (HT2.out _ hcur).mono ?_; rintro e w4 hsay2; obtain ⟨hb4, hx02, rfl⟩ := hsay2.err HR2.out; have hq2 := HQ.out _ hx02; replace hcur := hcur.trans (hb4.mono hcur.size))
            | (go_at_call 30; refine (lives20 _).mono ?_; rintro e w5 ⟨rfl, hb5⟩; replace hcur := hcur.trans (hb5.mono hcur.size)))
          go_ret
          exact ⟨rfl, hB.trans (hcur.mono hB.size)⟩
        · have HR2 := Lib.hid hr2
          clear hr2
          go_upto_region 7 with (first
            | (go_at_call 21; refine (HT1.out _ hcur).mono ?_; rintro e w3 hsay; obtain ⟨hb3, n, rfl, rfl, hin, hwf, hht, hcn, _⟩ := hsay.ok HR1.out; replace hcur := hcur.trans (hb3.mono hcur.size); have q0 := HX2.out _ hcur 0 _ rfl; have q1 := HX2.out _ hcur 1 _ rfl; have q2 := HX2.out _ hcur 2 _ rfl; have q3 := HX2.out _ hcur 3 _ rfl; have q4 := HX2.out _ hcur 4 _ rfl; clear HT1)
            | (go_at_call 21; refine (HT2.out _ hcur).mono ?_; rintro e w4 hsay2; obtain ⟨hb4, m, rfl, rfl, hin2, hwf2, hht2, hcn2, hbk2⟩ := hsay2.ok HR2.out; replace hcur := hcur.trans (hb4.mono hcur.size)))
          clear p0 p1 p2 p3 p4 q0 q1 q2 q3 q4 HT2
          replace hin := hin.below hb4
          have hbx := hB.trans (hcur.mono hB.size)
          have hok := Nd.WF.ok n hwf
          have hok2 := Nd.WF.ok m hwf2
          have hc3 : n.cnt ≤ 1000 := by omega
          have hc4 : m.cnt ≤ 1000 := by omega
          clear hcur HX1 HX2 HD1 HD2 HQ hb3 hb4 hsay hsay2
          have hcur := Below.refl w4.heap.size w4
          have hs1 := hok.ht1
          have hs2 := hok2.ht1
          have hhn := ht_le_cnt n hwf
          have hhm := ht_le_cnt m hwf2
          have hsl : (spotsN n).length ≤ 1000 := by unfold spotsN; rw [List.length_map, preN_len]; exact hc3
          have HSN := Lib.hid (fun W (hW : Below w4.heap.size w4 W) => spots_call n W (hin.below hW) hwf hc3)
          have HSYN := Lib.hid (fun W (hW : Below w4.heap.size w4 W) => sym_some n W (hin.below hW) (by omega))
          have HSYM := Lib.hid (fun W (hW : Below w4.heap.size w4 W) => sym_some m W (hin2.below hW) (by omega))
          have HSL := Lib.hid hsl
          have HIN := Lib.hid hin
          have HIN2 := Lib.hid hin2
          have HWF := Lib.hid hwf
          have HWF2 := Lib.hid hwf2
          have hb1 := hok.bt0
          have hb2 := hok2.bt0
          have hb3 := hok.bt1
          have hb4 := hok2.bt1
          clear hsl hin hin2 hwf hwf2 hok hok2 hht hht2 hcn hcn2 hbk2
          unfold Nd.ptr at HSN HSYN HSYM ⊢
          go_upto_region 10 with (first
            | (go_at_call 31; refine (HSN.out _ hcur).mono ?_; rintro e w5 ⟨v5, rfl, hr5, hb5⟩; replace hcur := hcur.trans (hb5.mono hcur.size); have R5 := Lib.hid hr5; clear hr5)
            | (go_at_call 32; refine (HSYM.out _ hcur).mono ?_; rintro e w6 ⟨rfl, h6⟩; rw [h6]; clear h6)
            | (go_at_call 32; refine (HSYN.out _ hcur).mono ?_; rintro e w6 ⟨rfl, h6⟩; rw [h6]; clear h6))
          have hWM : ∀ WM, WM = ((w5.alloc (.cells #[.int .i64 m.sy, .int .i64 n.sy, .int .i64 n.sy] 3)).alloc (.cells #[.int .i64 3, .slice (some ⟨w5.heap.size, 0, none⟩) 3 3, .bool false] 54)).alloc (.cells #[.pointer (some ⟨m.b, 0, none⟩), .pointer (some ⟨n.b, 0, none⟩), .pointer (some ⟨n.b, 0, none⟩)] 33) →
              Below w5.heap.size w5 WM ∧ WM.heap[w5.heap.size]? = some (.cells #[.int .i64 m.sy, .int .i64 n.sy, .int .i64 n.sy] 3 (0, 0)) ∧ WM.heap[w5.heap.size + 1]? = some (.cells #[.int .i64 3, .slice (some ⟨w5.heap.size, 0, none⟩) 3 3, .bool false] 54 (0, 0)) ∧
              WM.heap[w5.heap.size + 1 + 1]? = some (.cells #[.pointer (some ⟨m.b, 0, none⟩), .pointer (some ⟨n.b, 0, none⟩), .pointer (some ⟨n.b, 0, none⟩)] 33 (0, 0)) ∧ WM.heap.size = w5.heap.size + 3 := by
            rintro WM rfl
            refine ⟨(((Below.refl _ _).alloc (Nat.le_refl _) _).alloc (by simp) _).alloc (by simp; omega) _, ?_, ?_, ?_, by simp⟩
            · rw [Below.heap_alloc _ _ _ (by simp; omega), Below.heap_alloc _ _ _ (by simp)]; exact heap_alloc_new _ _
            · rw [Below.heap_alloc _ _ _ (by simp)]; exact heap_new2 _ _ _
            · have h := heap_alloc_new ((w5.alloc (.cells #[.int .i64 m.sy, .int .i64 n.sy, .int .i64 n.sy] 3)).alloc (.cells #[.int .i64 3, .slice (some ⟨w5.heap.size, 0, none⟩) 3 3, .bool false] 54)) (.cells #[.pointer (some ⟨m.b, 0, none⟩), .pointer (some ⟨n.b, 0, none⟩), .pointer (some ⟨n.b, 0, none⟩)] 33)
              simpa using h
          obtain ⟨hbM, gi, gp, gk, hsM⟩ := hWM _ rfl
          clear hWM
          generalize ((w5.alloc (.cells #[.int .i64 m.sy, .int .i64 n.sy, .int .i64 n.sy] 3)).alloc (.cells #[.int .i64 3, .slice (some ⟨w5.heap.size, 0, none⟩) 3 3, .bool false] 54)).alloc (.cells #[.pointer (some ⟨m.b, 0, none⟩), .pointer (some ⟨n.b, 0, none⟩), .pointer (some ⟨n.b, 0, none⟩)] 33) = WM at *
          have hcM := hcur.trans (hbM.mono hcur.size)
          have hmem3 : ∀ {p : Nd → Prop}, p m → p n → ∀ x ∈ [m, n, n], p x := fun hm hn x hx => by
            simp only [List.mem_cons, List.not_mem_nil, or_false] at hx
            rcases hx with rfl | rfl | rfl
            · exact hm
            · exact hn
            · exact hn
          have hia : IntsAt WM (.slice (some ⟨w5.heap.size, 0, none⟩) 3 3) [m.sy, n.sy, n.sy] := by
            refine ⟨_, _, rfl, fun j hj => ?_⟩
            rcases j with _ | _ | _ | j
            · exact ⟨_, _, rfl, cell_of_heap gi rfl⟩
            · exact ⟨_, _, rfl, cell_of_heap gi rfl⟩
            · exact ⟨_, _, rfl, cell_of_heap gi rfl⟩
            · simp at hj; omega
          have hpa : PtrsAt WM (.slice (some ⟨w5.heap.size + 1 + 1, 0, none⟩) 3 3) [m, n, n] := by
            refine ⟨_, _, rfl, fun j hj => ?_⟩
            rcases j with _ | _ | _ | j
            · exact ⟨_, _, rfl, cell_of_heap gk rfl⟩
            · exact ⟨_, _, rfl, cell_of_heap gk rfl⟩
            · exact ⟨_, _, rfl, cell_of_heap gk rfl⟩
            · simp at hj; omega
          have hmk := make_any 3 (.slice (some ⟨w5.heap.size, 0, none⟩) 3 3) [m.sy, n.sy, n.sy] false 0 0 0 false (.slice (some ⟨w5.heap.size + 1 + 1, 0, none⟩) 3 3) [m, n, n] WM hia hpa
            (hmem3 (HIN2.out.below hcM) (HIN.out.below hcM)) (hmem3 HWF2.out HWF.out) (hmem3 (by omega) (by omega)) (by simp) (by simp)
          have p0 := cell_of_heap (i := 0) (v := .int .i64 3) gp rfl
          have p1 := cell_of_heap (i := 1) (v := .slice (some ⟨w5.heap.size, 0, none⟩) 3 3) gp rfl
          have p2 := cell_of_heap (i := 2) (v := .bool false) gp rfl
          clear hia hpa
          have GI := Lib.hid gi
          have GP := Lib.hid gp
          have GK := Lib.hid gk
          have HM3 := Lib.hid (fun (p : Nd → Prop) => @hmem3 p)
          clear gi gp gk hmem3
          by_cases hE : makeE 3 [m.sy, n.sy, n.sy] 0 0 0 [m, n, n] = 0
          · have HE := Lib.hid hE
            clear hE
            go_upto_region 13 with (first
              | (go_at_call 33; refine hmk.mono ?_; rintro e w6 hsay; obtain ⟨hb6, g, ks, rfl, hgl, hgh, hrow⟩ := hsay.ok HE.out))
            have hbt6 := hbM.size
            have GI6 := Lib.hid ((hb6.block _ (Array.getElem?_eq_some_iff.1 GI.out).1).trans GI.out)
            have GP6 := Lib.hid ((hb6.block _ (Array.getElem?_eq_some_iff.1 GP.out).1).trans GP.out)
            have GK6 := Lib.hid ((hb6.block _ (Array.getElem?_eq_some_iff.1 GK.out).1).trans GK.out)
            have x1 : w6.cell? ⟨w5.heap.size + 1, 1, none⟩ = some (.slice (some ⟨w5.heap.size, 0, none⟩) 3 3) := cell_of_heap GP6.out rfl
            have y0 : w6.cell? ⟨w5.heap.size, 0, none⟩ = some (.int .i64 m.sy) := cell_of_heap GI6.out rfl
            have y1 : w6.frozen? ⟨w5.heap.size, 0, none⟩ = false := frozen_of_heap GI6.out
            have y2 : w6.cell? ⟨w5.heap.size + 1 + 1, 0, none⟩ = some (.pointer (some ⟨m.b, 0, none⟩)) := cell_of_heap GK6.out rfl
            have y3 : w6.cell? ⟨w5.heap.size + 1 + 1, 1, none⟩ = some (.pointer (some ⟨n.b, 0, none⟩)) := cell_of_heap GK6.out rfl
            have y4 : w6.frozen? ⟨w5.heap.size + 1 + 1, 0, none⟩ = false := frozen_of_heap GK6.out
            have y5 : w6.frozen? ⟨w5.heap.size + 1 + 1, 1, none⟩ = false := frozen_of_heap GK6.out
            have HGH := Lib.hid hgh
            have HROW := Lib.hid hrow
            clear hgh hrow p0 p1 p2 hmk
            go_region
            obtain ⟨W7, hW7⟩ : ∃ W7, (((w6.setCell ⟨w5.heap.size + 1 + 1, 0, none⟩ (.pointer none)).setCell ⟨w5.heap.size + 1 + 1, 1, none⟩ (.pointer none)).setCell ⟨w5.heap.size, 0, none⟩ (.int .i64 99)).drew = W7 := ⟨_, rfl⟩
            have h57 : Below w5.heap.size w5 W7 := by
              rw [← hW7]
              exact (((((hbM.trans (hb6.mono hbM.size)).setCell (p := ⟨w5.heap.size + 1 + 1, 0, none⟩) (by show _ ≤ w5.heap.size + 1 + 1; omega) _).setCell (p := ⟨w5.heap.size + 1 + 1, 1, none⟩) (by show _ ≤ w5.heap.size + 1 + 1; omega) _).setCell (p := ⟨w5.heap.size, 0, none⟩) (Nat.le_refl _) _).drew)
            have h67 : ∀ k, WM.heap.size ≤ k → W7.heap[k]? = w6.heap[k]? := fun k hk => by
              rw [← hW7]
              exact ((Below.heap_setCell _ _ _ _ (by show k ≠ w5.heap.size; omega)).trans (Below.heap_setCell _ _ _ _ (by show k ≠ w5.heap.size + 1 + 1; omega))).trans (Below.heap_setCell _ _ _ _ (by show k ≠ w5.heap.size + 1 + 1; omega))
            rw [hW7]
            clear hW7 x1 y0 y1 y2 y3 y4 y5
            have h47 := hcur.trans (h57.mono hcur.size)
            obtain ⟨X, hX⟩ : ∃ X, makeNd g ks 3 0 0 0 false [m, n, n] = X := ⟨_, rfl⟩
            have xin : X.In W7 := by
              rw [← hX]
              refine Nd.In.mk' ((h67 g hgl).trans HGH.out) (ownsRow_base (ownsRow_of_block HROW.out (fun k hk => h67 k (HROW.out.lt k hk).1)) (Nat.zero_le _)) (HM3.out (fun k => k.In W7) (HIN2.out.below h47) (HIN.out.below h47))
            have xb : X.b = g := by rw [← hX]; rfl
            have xk : X.kids = [m, n, n] := by rw [← hX]; rfl
            have xld : X.ld = m.ld := by rw [← hX]; rfl
            have xbt : X.bt = m.bt + n.bt + n.bt := by
              rw [← hX]
              show sumBt [m, n, n] = _
              rw [sumBt_cons, sumBt_cons, sumBt_cons, sumBt_nil]
              omega
            have xht : 0 < X.ht := by
              rw [← hX]
              show 0 < maxHt [m, n, n] + 1
              have := (maxHt_ge (l := [m, n, n])).1
              omega
            have hkx := fun W (hW : Below W7.heap.size W7 W) => kids_some X W (xin.below hW) xht (by rw [xk]; simp)
            have hbx2 := fun W (hW : Below W7.heap.size W7 W) => bytes_some X W (xin.below hW)
            have hlx := fun W (hW : Below W7.heap.size W7 W) => lead_some X W (xin.below hW)
            have hbm := fun W (hW : Below w4.heap.size w4 W) => bytes_some m W (HIN2.out.below hW)
            have hbn := fun W (hW : Below w4.heap.size w4 W) => bytes_some n W (HIN.out.below hW)
            have hlm := fun W (hW : Below w4.heap.size w4 W) => lead_some m W (HIN2.out.below hW)
            have hXp : X.ptr = .pointer (some ⟨g, 0, none⟩) := by unfold Nd.ptr; rw [xb]
            rw [hXp] at hkx hbx2 hlx
            rw [xk] at hkx
            rw [xbt] at hbx2
            rw [xld] at hlx
            unfold Nd.ptr at hbm hbn hlm
            have HKX := Lib.hid hkx
            have HBX2 := Lib.hid hbx2
            have HLX := Lib.hid hlx
            have HBM := Lib.hid hbm
            have HBN := Lib.hid hbn
            have HLM := Lib.hid hlm
            have S5 := Lib.hid (SpotsAt.of_row R5.out)
            clear hkx hbx2 hlx hbm hbn hlm xin xb xk xld xbt xht hX hXp h67
            have hc7 := Below.refl W7.heap.size W7
            go_upto_region 17 with (first
              | (go_at_call 34; refine (HKX.out _ hc7).mono ?_; rintro e w14 ⟨v14, rfl, hr14, hb14⟩; obtain ⟨B14, c14, rfl, hc14⟩ := ownsRow_any hr14; obtain ⟨g14, hB, hgw, _, z0⟩ := hc14 0 m.ptr rfl; obtain ⟨g14', hB', _, _, z1⟩ := hc14 1 n.ptr rfl; obtain ⟨g14'', hB'', _, _, z2⟩ := hc14 2 n.ptr rfl; subst hB; injection hB' with hB'; injection hB' with hB'; subst hB'; injection hB'' with hB''; injection hB'' with hB''; subst hB''; obtain ⟨_, c14', hh14⟩ := row_block hr14 g14 rfl; unfold Nd.ptr at z0 z1 z2; have fz : ∀ i, w14.frozen? ⟨g14, i, none⟩ = false := (fun i => frozen_of_heap hh14); have f0 := fz 0; have f1 := fz 1; have f2 := fz 2; clear fz hh14 hc14 hr14; replace hc7 := hc7.trans (hb14.mono hc7.size)))
            go_upto_region 18 with fail
            obtain ⟨W8, hW8⟩ : ∃ W8, ((w14.setCell ⟨g14, 0, none⟩ (.pointer none)).setCell ⟨g14, 1, none⟩ (.pointer none)).setCell ⟨g14, 2, none⟩ (.pointer none) = W8 := ⟨_, rfl⟩
            have hc8 : Below W7.heap.size W7 W8 := by
              rw [← hW8]
              exact ((hc7.setCell (p := ⟨g14, 0, none⟩) hgw _).setCell (p := ⟨g14, 1, none⟩) hgw _).setCell (p := ⟨g14, 2, none⟩) hgw _
            rw [hW8]
            clear hW8 z0 z1 z2 f0 f1 f2
            have h48 := h47.trans (hc8.mono h47.size)
            have h58 := h57.trans (hc8.mono h57.size)
            have hw9 : IntKind.i64.wrap (m.bt + n.bt) = m.bt + n.bt := by rw [IntKind.wrap_i64]; omega
            have hw10 : IntKind.i64.wrap (m.bt + n.bt + n.bt) = m.bt + n.bt + n.bt := by rw [IntKind.wrap_i64]; omega
            have e1 : (m.bt + n.bt + n.bt == m.bt + n.bt + n.bt) = true := beq_self_eq_true _
            have e2 : (m.ld == m.ld) = true := beq_self_eq_true _
            have h78 := h57.size
            go_wp2_with (first
              | (go_at_call 34; refine (HKX.out _ hc8).mono ?_; rintro e w18 ⟨v18, rfl, hr18, hb18⟩; obtain ⟨B18, c18, rfl, hc18⟩ := ownsRow_any hr18; obtain ⟨g18, hB, _, _, z0⟩ := hc18 0 m.ptr rfl; obtain ⟨g18', hB', _, _, z1⟩ := hc18 1 n.ptr rfl; obtain ⟨g18'', hB'', _, _, z2⟩ := hc18 2 n.ptr rfl; subst hB; injection hB' with hB'; injection hB' with hB'; subst hB'; injection hB'' with hB''; injection hB'' with hB''; subst hB''; unfold Nd.ptr at z0 z1 z2; replace hc8 := hc8.trans (hb18.mono hc8.size); replace h48 := h47.trans (hc8.mono h47.size); replace h58 := h57.trans (hc8.mono h57.size); clear hc18 hr18)
              | (go_at_call 31; refine (HSN.out _ h48).mono ?_; rintro e w19 ⟨v19, rfl, hr19, hb19⟩; have S19 := Lib.hid (SpotsAt.of_row hr19); clear hr19; replace hc8 := hc8.trans (hb19.mono hc8.size); replace h48 := h47.trans (hc8.mono h47.size); replace h58 := h57.trans (hc8.mono h57.size))
              | (go_at_call 35; refine (sameSpots_call _ _ _ _ S19.out (S5.out.keep h58) (by have := HSL.out; omega)).mono ?_; rintro e w20 ⟨rfl, hb20⟩; replace hc8 := hc8.trans (hb20.mono hc8.size); replace h48 := h47.trans (hc8.mono h47.size))
              | (go_at_call 36; refine (HBX2.out _ hc8).mono ?_; rintro e w21 ⟨rfl, hb21⟩; replace hc8 := hc8.trans (hb21.mono hc8.size); replace h48 := h47.trans (hc8.mono h47.size); clear HBX2)
              | (go_at_call 36; refine (HBM.out _ h48).mono ?_; rintro e w22 ⟨rfl, hb22⟩; replace hc8 := hc8.trans (hb22.mono hc8.size); replace h48 := h47.trans (hc8.mono h47.size); clear HBM)
              | (go_at_call 36; refine (HBN.out _ h48).mono ?_; rintro e w23 ⟨rfl, hb23⟩; replace hc8 := hc8.trans (hb23.mono hc8.size); replace h48 := h47.trans (hc8.mono h47.size))
              | (go_at_call 37; refine (HLX.out _ hc8).mono ?_; rintro e w24 ⟨rfl, hb24⟩; replace hc8 := hc8.trans (hb24.mono hc8.size); replace h48 := h47.trans (hc8.mono h47.size); clear HLX)
              | (go_at_call 37; refine (HLM.out _ h48).mono ?_; rintro e w25 ⟨rfl, hb25⟩; replace hc8 := hc8.trans (hb25.mono hc8.size))
              | (go_at_call 30; refine (lives20 _).mono ?_; rintro e w26 ⟨rfl, hb26⟩; replace hc8 := hc8.trans (hb26.mono hc8.size)))
            go_ret
            exact ⟨rfl, hbx.trans ((h47.trans (hc8.mono h47.size)).mono hbx.size)⟩
          · have hE3 : makeE 3 [m.sy, n.sy, n.sy] 0 0 0 [m, n, n] = 3 := (stay_E m n).resolve_right hE
            have HE := Lib.hid hE
            have HE3 := Lib.hid hE3
            clear hE hE3
            go_wp2_with (first
              | (go_at_call 33; refine hmk.mono ?_; rintro e w6 hsay; obtain ⟨hb6, he6⟩ := hsay.bad HE.out; rw [HE3.out] at he6; subst he6; replace hcM := hcM.trans (hb6.mono hcM.size))
              | (go_at_call 30; refine (lives20 _).mono ?_; rintro e w7 ⟨rfl, hb7⟩; replace hcM := hcM.trans (hb7.mono hcM.size)))
            go_ret
            exact ⟨rfl, hbx.trans (hcM.mono hbx.size)⟩

end Go.Proofs.Ytcjpmgfobnaoeaa
