/- NodesSame: the walk. -/
import Derived.Test.YtcjpmgfobnaoeaaA43
import Derived.Test.YtcjpmgfobnaoeaaA45
import Derived.Test.YtcjpmgfobnaoeaaA51
import Derived.Test.YtcjpmgfobnaoeaaA56
import Derived.Test.YtcjpmgfobnaoeaaA58
namespace Go.Proofs.Ytcjpmgfobnaoeaa
open Go.RowKit

theorem tree_cnt : ∀ n : Nd, n.tree.cnt = n.cnt := by
  refine Nd.ind ?_
  intro n ih
  have hk : ∀ l : List Nd, (∀ k ∈ l, k ∈ n.kids) → TrsCnt (l.map Nd.tree) = NdsCnt l := by
    intro l
    induction l with
    | nil => intro _; rfl
    | cons x xs ihl =>
      intro h
      rw [List.map_cons]
      unfold TrsCnt NdsCnt
      rw [ih x (h x (by simp)), ihl fun k hk => h k (by simp [hk])]
  rw [Tr.cnt_eq, Nd.cnt_eq, n.tree_kids, hk n.kids fun _ h => h]

attribute [local irreducible] Calls
set_option maxRecDepth 100000 in
set_option maxHeartbeats 8000000 in
theorem nodesSame_walk (d1 : Dt) (v1 : Value) (d2 : Dt) (v2 : Value) (w : World) (hd1 : d1.At w.heap.size w v1) (hd2 : d2.At w.heap.size w v2) :
    Calls Try.prog 11 #[v1, v2] w fun e w' => e = .returned (.bool true) ∧ Below w.heap.size w w' := by
  have hd1' := hd1
  obtain ⟨kv, tv, sv, rfl, _, _, _⟩ := hd1'
  have hd2' := hd2
  obtain ⟨kv2, tv2, sv2, rfl, _, _, _⟩ := hd2'
  have hW : ∀ W, W = (w.alloc (.cells #[.int .i64 d1.tree.sy, .int .i64 d1.tree.pr, kv, tv, sv] 28)).alloc (.cells #[.int .i64 d2.tree.sy, .int .i64 d2.tree.pr, kv2, tv2, sv2] 28) → Below w.heap.size w W ∧
      W.heap[w.heap.size]? = some (.cells #[.int .i64 d1.tree.sy, .int .i64 d1.tree.pr, kv, tv, sv] 28 (0, 0)) ∧ W.heap[w.heap.size + 1]? = some (.cells #[.int .i64 d2.tree.sy, .int .i64 d2.tree.pr, kv2, tv2, sv2] 28 (0, 0)) := by
    rintro W rfl
    exact ⟨((Below.refl _ _).alloc (Nat.le_refl _) _).alloc (by simp) _, by rw [Below.heap_alloc _ _ _ (by simp)]; exact heap_alloc_new _ _, heap_new2 _ _ _⟩
  have HW := Lib.hid hW
  have HD1 := Lib.hid hd1
  have HD2 := Lib.hid hd2
  clear hW hd1 hd2
  go_enter Try.func11, Try.ntmps11
  apply wp_seq_k
  intro K1 k1
  have H1 := Lib.hid k1
  clear k1
  go_wp2_with fail
  refine H1.out _ _ ?_
  clear H1 K1
  obtain ⟨hB, hx1, hx2⟩ := HW.out _ rfl
  generalize (w.alloc (.cells #[.int .i64 d1.tree.sy, .int .i64 d1.tree.pr, kv, tv, sv] 28)).alloc (.cells #[.int .i64 d2.tree.sy, .int .i64 d2.tree.pr, kv2, tv2, sv2] 28) = W at *
  have hX1 : ∀ wx, Below W.heap.size W wx → ∀ i v, #[.int .i64 d1.tree.sy, .int .i64 d1.tree.pr, kv, tv, sv][i]? = some v → wx.cell? ⟨w.heap.size, i, none⟩ = some v := fun wx hb i v hv =>
    cell_of_heap ((hb.block _ (Array.getElem?_eq_some_iff.1 hx1).1).trans hx1) hv
  have hX2 : ∀ wx, Below W.heap.size W wx → ∀ i v, #[.int .i64 d2.tree.sy, .int .i64 d2.tree.pr, kv2, tv2, sv2][i]? = some v → wx.cell? ⟨w.heap.size + 1, i, none⟩ = some v := fun wx hb i v hv =>
    cell_of_heap ((hb.block _ (Array.getElem?_eq_some_iff.1 hx2).1).trans hx2) hv
  have HX1 := Lib.hid hX1
  have HX2 := Lib.hid hX2
  have hg1 := fun wx (hb : Below W.heap.size W wx) => great29 w.heap.size d1 _ wx (HD1.out.keep (hB.trans (hb.mono hB.size))) (hB.trans (hb.mono hB.size)).size
  have hg2 := fun wx (hb : Below W.heap.size W wx) => great29 w.heap.size d2 _ wx (HD2.out.keep (hB.trans (hb.mono hB.size))) (hB.trans (hb.mono hB.size)).size
  have p0 := HX1.out W (Below.refl _ _) 0 _ rfl
  have p1 := HX1.out W (Below.refl _ _) 1 _ rfl
  have p2 := HX1.out W (Below.refl _ _) 2 _ rfl
  have p3 := HX1.out W (Below.refl _ _) 3 _ rfl
  have p4 := HX1.out W (Below.refl _ _) 4 _ rfl
  have hcur := Below.refl W.heap.size W
  clear HW hX1 hX2 hx1 hx2
  cases hga : d1.great with
  | true =>
    rw [hga] at hg1
    have HG1 := Lib.hid hg1
    clear hg1 hg2
    go_wp2_with (first | (go_at_call 29; refine (HG1.out _ hcur).mono ?_; rintro e w1 ⟨rfl, hb1⟩; replace hcur := hcur.trans (hb1.mono hcur.size)) | (go_at_call 30; refine (lives20 _).mono ?_; rintro e w2 ⟨rfl, hb2⟩; replace hcur := hcur.trans (hb2.mono hcur.size)))
    go_ret
    exact ⟨rfl, hB.trans (hcur.mono hB.size)⟩
  | false =>
    rw [hga] at hg1
    have HG1 := Lib.hid hg1
    have HG2 := Lib.hid hg2
    clear hg1 hg2
    cases hgb : d2.great with
    | true =>
      rw [hgb] at HG2
      go_wp2_with (first | (go_at_call 29; refine (HG1.out _ hcur).mono ?_; rintro e w1 ⟨rfl, hb1⟩; replace hcur := hcur.trans (hb1.mono hcur.size); have q0 := HX2.out _ hcur 0 _ rfl; have q1 := HX2.out _ hcur 1 _ rfl; have q2 := HX2.out _ hcur 2 _ rfl; have q3 := HX2.out _ hcur 3 _ rfl; have q4 := HX2.out _ hcur 4 _ rfl; clear HG1) | (go_at_call 29; refine (HG2.out _ hcur).mono ?_; rintro e w1 ⟨rfl, hb1⟩; replace hcur := hcur.trans (hb1.mono hcur.size)) | (go_at_call 30; refine (lives20 _).mono ?_; rintro e w2 ⟨rfl, hb2⟩; replace hcur := hcur.trans (hb2.mono hcur.size)))
      go_ret
      exact ⟨rfl, hB.trans (hcur.mono hB.size)⟩
    | false =>
      rw [hgb] at HG2
      have hcnt1 : d1.tree.cnt ≤ 60 := by unfold Dt.great at hga; simpa using hga
      have hcnt2 : d2.tree.cnt ≤ 60 := by unfold Dt.great at hgb; simpa using hgb
      go_upto_region 3 with (first | (go_at_call 29; refine (HG1.out _ hcur).mono ?_; rintro e w1 ⟨rfl, hb1⟩; replace hcur := hcur.trans (hb1.mono hcur.size); have q0 := HX2.out _ hcur 0 _ rfl; have q1 := HX2.out _ hcur 1 _ rfl; have q2 := HX2.out _ hcur 2 _ rfl; have q3 := HX2.out _ hcur 3 _ rfl; have q4 := HX2.out _ hcur 4 _ rfl; clear HG1) | (go_at_call 29; refine (HG2.out _ hcur).mono ?_; rintro e w2 ⟨rfl, hb2⟩; replace hcur := hcur.trans (hb2.mono hcur.size)))
      clear p0 p1 p2 p3 p4 q0 q1 q2 q3 q4 HG2
      have p0 := HX1.out _ hcur 0 _ rfl
      have p1 := HX1.out _ hcur 1 _ rfl
      have p2 := HX1.out _ hcur 2 _ rfl
      have p3 := HX1.out _ hcur 3 _ rfl
      have p4 := HX1.out _ hcur 4 _ rfl
      have hbt1 := fun wx (hb : Below W.heap.size W wx) => built_any w.heap.size d1 _ wx (HD1.out.keep (hB.trans (hb.mono hB.size))) (hB.trans (hb.mono hB.size)).size (by omega)
      have hbt2 := fun wx (hb : Below W.heap.size W wx) => built_any w.heap.size d2 _ wx (HD2.out.keep (hB.trans (hb.mono hB.size))) (hB.trans (hb.mono hB.size)).size (by omega)
      have HT1 := Lib.hid hbt1
      have HT2 := Lib.hid hbt2
      have HQ := Lib.hid (fun (x : Int) (h : x ≠ 0) => (beq_eq_false_iff_ne.2 h : (x == 0) = false))
      clear hbt1 hbt2
      rcases hr1 : d1.bld with x1 | pn1
      · have HR1 := Lib.hid hr1
        clear hr1
        rcases hr2 : d2.bld with x2 | pn2
        · have HR2 := Lib.hid hr2
          clear hr2
          go_wp2_with (first
            | (go_at_call 21; refine (HT1.out _ hcur).mono ?_; rintro e w3 hsay; obtain ⟨hb3, hx01, rfl⟩ := hsay.err HR1.out; have hq1 := HQ.out _ hx01; replace hcur := hcur.trans (hb3.mono hcur.size); have q0 := HX2.out _ hcur 0 _ rfl; have q1 := HX2.out _ hcur 1 _ rfl; have q2 := HX2.out _ hcur 2 _ rfl; have q3 := HX2.out _ hcur 3 _ rfl; have q4 := HX2.out _ hcur 4 _ rfl; clear HT1)
            | (go_at_call 21; refine (HT2.out _ hcur).mono ?_; rintro e w4 hsay2; obtain ⟨hb4, hx02, rfl⟩ := hsay2.err HR2.out; replace hcur := hcur.trans (hb4.mono hcur.size))
            | (go_at_call 30; refine (lives20 _).mono ?_; rintro e w5 ⟨rfl, hb5⟩; replace hcur := hcur.trans (hb5.mono hcur.size)))
          go_ret
          exact ⟨rfl, hB.trans (hcur.mono hB.size)⟩
        · have HR2 := Lib.hid hr2
          clear hr2
          go_wp2_with (first
            | (go_at_call 21; refine (HT1.out _ hcur).mono ?_; rintro e w3 hsay; obtain ⟨hb3, hx01, rfl⟩ := hsay.err HR1.out; have hq1 := HQ.out _ hx01; replace hcur := hcur.trans (hb3.mono hcur.size); have q0 := HX2.out _ hcur 0 _ rfl; have q1 := HX2.out _ hcur 1 _ rfl; have q2 := HX2.out _ hcur 2 _ rfl; have q3 := HX2.out _ hcur 3 _ rfl; have q4 := HX2.out _ hcur 4 _ rfl; clear HT1)
            | (go_at_call 21; refine (HT2.out _ hcur).mono ?_; rintro e w4 hsay2; obtain ⟨hb4, m, _, rfl, _⟩ := hsay2.ok HR2.out; replace hcur := hcur.trans (hb4.mono hcur.size))
            | (go_at_call 30; refine (lives20 _).mono ?_; rintro e w5 ⟨rfl, hb5⟩; replace hcur := hcur.trans (hb5.mono hcur.size)))
          go_ret
          exact ⟨rfl, hB.trans (hcur.mono hB.size)⟩
      · have HR1 := Lib.hid hr1
        clear hr1
        rcases hr2 : d2.bld with x2 | pn2
        · have HR2 := Lib.hid hr2
          clear hr2
          go_wp2_with (first
            | (go_at_call 21; refine (HT1.out _ hcur).mono ?_; rintro e w3 hsay; obtain ⟨hb3, n, _, rfl, _⟩ := hsay.ok HR1.out; replace hcur := hcur.trans (hb3.mono hcur.size); have q0 := HX2.out _ hcur 0 _ rfl; have q1 := HX2.out _ hcur 1 _ rfl; have q2 := HX2.out _ hcur 2 _ rfl; have q3 := HX2.out _ hcur 3 _ rfl; have q4 := HX2.out _ hcur 4 _ rfl; clear HT1)
            | (go_at_call 21; refine (HT2.out _ hcur).mono ?_; rintro e w4 hsay2; obtain ⟨hb4, hx02, rfl⟩ := hsay2.err HR2.out; have hq2 := HQ.out _ hx02; replace hcur := hcur.trans (hb4.mono hcur.size))
            | (go_at_call 30; refine (lives20 _).mono ?_; rintro e w5 ⟨rfl, hb5⟩; replace hcur := hcur.trans (hb5.mono hcur.size)))
          go_ret
          exact ⟨rfl, hB.trans (hcur.mono hB.size)⟩
        · have HR2 := Lib.hid hr2
          clear hr2
          go_upto_region 7 with (first
            | (go_at_call 21; refine (HT1.out _ hcur).mono ?_; rintro e w3 hsay; obtain ⟨hb3, n, rfl, rfl, hin, hwf, hht, hcn, _⟩ := hsay.ok HR1.out; replace hcur := hcur.trans (hb3.mono hcur.size); have q0 := HX2.out _ hcur 0 _ rfl; have q1 := HX2.out _ hcur 1 _ rfl; have q2 := HX2.out _ hcur 2 _ rfl; have q3 := HX2.out _ hcur 3 _ rfl; have q4 := HX2.out _ hcur 4 _ rfl; clear HT1)
            | (go_at_call 21; refine (HT2.out _ hcur).mono ?_; rintro e w4 hsay2; obtain ⟨hb4, m, rfl, rfl, hin2, hwf2, hht2, hcn2, hbk2⟩ := hsay2.ok HR2.out; replace hcur := hcur.trans (hb4.mono hcur.size)))
          clear p0 p1 p2 p3 p4 q0 q1 q2 q3 q4 HT2
          replace hin := hin.below hb4
          have hbx := hB.trans (hcur.mono hB.size)
          have hok := Nd.WF.ok n hwf
          have hok2 := Nd.WF.ok m hwf2
          have hc3 : n.cnt ≤ 1000 := by omega
          have hc4 : m.cnt ≤ 1000 := by omega
          clear hcur HX1 HX2 HD1 HD2 HQ hb3 hb4 hsay hsay2
          have hcur := Below.refl w4.heap.size w4

          have hl1 := tk_leaves hwf
          have hl2 := tk_leaves hwf2
          have b1 := hok.tk2
          have b2 := hok2.tk2
          have hT1 := Lib.hid (fun W (hW : Below w4.heap.size w4 W) => tree_call n W (hin.below hW) hwf)
          have hT2 := Lib.hid (fun W (hW : Below w4.heap.size w4 W) => tree_call m W (hin2.below hW) hwf2)
          have hL1 := Lib.hid (fun W (hW : Below w4.heap.size w4 W) => leaves_is n W (hin.below hW) hwf hc3)
          have hL2 := Lib.hid (fun W (hW : Below w4.heap.size w4 W) => leaves_is m W (hin2.below hW) hwf2 hc4)
          have hST := fun kv1 kv2 W (h1 : n.tree.At W.heap.size W kv1) (h2 : m.tree.At W.heap.size W kv2) => sameTree_call n.tree m.tree kv1 kv2 W h1 h2 (by rw [tree_cnt]; omega)
          rw [n.tree_sy, n.tree_pr, m.tree_sy, m.tree_pr] at hST
          have hSK := fun v u W (h1 : ToksAt W v n.plain.leaves) (h2 : ToksAt W u m.plain.leaves) => sameToks_call v u n.plain.leaves m.plain.leaves W h1 h2 (by omega) (by omega)
          have hSM := fun W (hW : Below w4.heap.size w4 W) => stamped_call n m W (hin.below hW) (hin2.below hW) hwf hwf2
          have hC1 := fun W (hW : Below w4.heap.size w4 W) => same_of (like_call n m false W (hin.below hW) (hin2.below hW) hwf hwf2)
          have hC2 := fun W (hW : Below w4.heap.size w4 W) => same_of (like_call m n false W (hin2.below hW) (hin.below hW) hwf2 hwf)
          have hC3 := fun W (hW : Below w4.heap.size w4 W) => alike_of (like_call n m true W (hin.below hW) (hin2.below hW) hwf hwf2)
          have hC4 := fun W (hW : Below w4.heap.size w4 W) => alike_of (like_call m n true W (hin2.below hW) (hin.below hW) hwf2 hwf)
          have hC5 := fun W (hW : Below w4.heap.size w4 W) => same_of (like_call n n false W (hin.below hW) (hin.below hW) hwf hwf)
          have hC6 := fun W (hW : Below w4.heap.size w4 W) => alike_of (like_call m m true W (hin2.below hW) (hin2.below hW) hwf2 hwf2)
          simp only [like_symm false hwf hwf2] at hC2
          simp only [like_symm true hwf hwf2] at hC4
          simp only [like_refl false hwf] at hC5
          simp only [like_refl true hwf2] at hC6
          have e1 := like_same hwf hwf2
          have e2 := like_alike hwf hwf2
          obtain ⟨r, hr⟩ : ∃ r, n.tree.same m.tree = r := ⟨_, rfl⟩
          obtain ⟨t, ht⟩ : ∃ t, decide (n.plain.leaves = m.plain.leaves) = t := ⟨_, rfl⟩
          obtain ⟨s, hs⟩ : ∃ s, n.stamped m = s := ⟨_, rfl⟩
          obtain ⟨q1, hq1⟩ : ∃ q1, n.like false m = q1 := ⟨_, rfl⟩
          obtain ⟨q2, hq2⟩ : ∃ q2, n.like true m = q2 := ⟨_, rfl⟩
          rw [hq1, hr, ht] at e1
          rw [hq2, hq1, hs] at e2
          simp only [hr] at hST
          simp only [ht] at hSK
          simp only [hs] at hSM
          simp only [hq1] at hC1 hC2
          simp only [hq2] at hC3 hC4
          subst e2
          subst e1
          have HST := Lib.hid hST
          have HSK := Lib.hid hSK
          have HSM := Lib.hid hSM
          have HC1 := Lib.hid hC1
          have HC2 := Lib.hid hC2
          have HC3 := Lib.hid hC3
          have HC4 := Lib.hid hC4
          have HC5 := Lib.hid hC5
          have HC6 := Lib.hid hC6
          clear hST hSK hSM hC1 hC2 hC3 hC4 hC5 hC6 hr ht hs hq1 hq2 hin hin2 hwf hwf2 hok hok2 hl1 hl2 b1 b2
          unfold Nd.ptr at hT1 hT2 hL1 hL2 HSM HC1 HC2 HC3 HC4 HC5 HC6
          cases r with
          | false =>
            go_wp2_with (first
              | (go_at_call 54; refine (hT1.out _ hcur).mono ?_; rintro e w5 ⟨kv1, rfl, hon1, hb5⟩; obtain ⟨ka1, kc1, rfl⟩ := hon1.len; have ON1 := Lib.hid hon1; clear hon1; replace hcur := hcur.trans (hb5.mono hcur.size))
              | (go_at_call 54; refine (hT2.out _ hcur).mono ?_; rintro e w6 ⟨kv2, rfl, hon2, hb6⟩; obtain ⟨ka2, kc2, rfl⟩ := hon2.len; have ON2 := Lib.hid hon2; clear hon2; replace hcur := hcur.trans (hb6.mono hcur.size))
              | (go_at_call 53; refine (HST.out _ _ _ ((ON1.out.at.keep hb6).up hb6.size) ON2.out.at).mono ?_; rintro e w7 ⟨rfl, hb7⟩; replace hcur := hcur.trans (hb7.mono hcur.size))
              | (go_at_call 42; refine (hL1.out _ hcur).mono ?_; rintro e w8 ⟨v8, rfl, ht8, _, hb8⟩; have T8 := Lib.hid ht8; clear ht8; replace hcur := hcur.trans (hb8.mono hcur.size))
              | (go_at_call 42; refine (hL2.out _ hcur).mono ?_; rintro e w9 ⟨v9, rfl, ht9, _, hb9⟩; have T9 := Lib.hid ht9; clear ht9; replace hcur := hcur.trans (hb9.mono hcur.size))
              | (go_at_call 50; refine (HSK.out _ _ _ (T8.out.keep hb9) T9.out).mono ?_; rintro e w10 ⟨rfl, hb10⟩; replace hcur := hcur.trans (hb10.mono hcur.size))
              | (go_at_call 56; refine (HSM.out _ hcur).mono ?_; rintro e w11 ⟨rfl, hb11⟩; replace hcur := hcur.trans (hb11.mono hcur.size))
              | (go_at_call 57; refine (HC1.out _ hcur).mono ?_; rintro e w12 ⟨rfl, hb12⟩; replace hcur := hcur.trans (hb12.mono hcur.size))
              | (go_at_call 57; refine (HC2.out _ hcur).mono ?_; rintro e w13 ⟨rfl, hb13⟩; replace hcur := hcur.trans (hb13.mono hcur.size))
              | (go_at_call 57; refine (HC5.out _ hcur).mono ?_; rintro e w14 ⟨rfl, hb14⟩; replace hcur := hcur.trans (hb14.mono hcur.size))
              | (go_at_call 58; refine (HC3.out _ hcur).mono ?_; rintro e w15 ⟨rfl, hb15⟩; replace hcur := hcur.trans (hb15.mono hcur.size))
              | (go_at_call 58; refine (HC4.out _ hcur).mono ?_; rintro e w16 ⟨rfl, hb16⟩; replace hcur := hcur.trans (hb16.mono hcur.size))
              | (go_at_call 58; refine (HC6.out _ hcur).mono ?_; rintro e w17 ⟨rfl, hb17⟩; replace hcur := hcur.trans (hb17.mono hcur.size))
              | (go_at_call 30; refine (lives20 _).mono ?_; rintro e w18 ⟨rfl, hb18⟩; replace hcur := hcur.trans (hb18.mono hcur.size)))
            go_ret
            exact ⟨rfl, hbx.trans (hcur.mono hbx.size)⟩
          | true =>
            cases t with
            | false =>
              go_wp2_with (first
              | (go_at_call 54; refine (hT1.out _ hcur).mono ?_; rintro e w5 ⟨kv1, rfl, hon1, hb5⟩; obtain ⟨ka1, kc1, rfl⟩ := hon1.len; have ON1 := Lib.hid hon1; clear hon1; replace hcur := hcur.trans (hb5.mono hcur.size))
              | (go_at_call 54; refine (hT2.out _ hcur).mono ?_; rintro e w6 ⟨kv2, rfl, hon2, hb6⟩; obtain ⟨ka2, kc2, rfl⟩ := hon2.len; have ON2 := Lib.hid hon2; clear hon2; replace hcur := hcur.trans (hb6.mono hcur.size))
              | (go_at_call 53; refine (HST.out _ _ _ ((ON1.out.at.keep hb6).up hb6.size) ON2.out.at).mono ?_; rintro e w7 ⟨rfl, hb7⟩; replace hcur := hcur.trans (hb7.mono hcur.size))
              | (go_at_call 42; refine (hL1.out _ hcur).mono ?_; rintro e w8 ⟨v8, rfl, ht8, _, hb8⟩; have T8 := Lib.hid ht8; clear ht8; replace hcur := hcur.trans (hb8.mono hcur.size))
              | (go_at_call 42; refine (hL2.out _ hcur).mono ?_; rintro e w9 ⟨v9, rfl, ht9, _, hb9⟩; have T9 := Lib.hid ht9; clear ht9; replace hcur := hcur.trans (hb9.mono hcur.size))
              | (go_at_call 50; refine (HSK.out _ _ _ (T8.out.keep hb9) T9.out).mono ?_; rintro e w10 ⟨rfl, hb10⟩; replace hcur := hcur.trans (hb10.mono hcur.size))
              | (go_at_call 56; refine (HSM.out _ hcur).mono ?_; rintro e w11 ⟨rfl, hb11⟩; replace hcur := hcur.trans (hb11.mono hcur.size))
              | (go_at_call 57; refine (HC1.out _ hcur).mono ?_; rintro e w12 ⟨rfl, hb12⟩; replace hcur := hcur.trans (hb12.mono hcur.size))
              | (go_at_call 57; refine (HC2.out _ hcur).mono ?_; rintro e w13 ⟨rfl, hb13⟩; replace hcur := hcur.trans (hb13.mono hcur.size))
              | (go_at_call 57; refine (HC5.out _ hcur).mono ?_; rintro e w14 ⟨rfl, hb14⟩; replace hcur := hcur.trans (hb14.mono hcur.size))
              | (go_at_call 58; refine (HC3.out _ hcur).mono ?_; rintro e w15 ⟨rfl, hb15⟩; replace hcur := hcur.trans (hb15.mono hcur.size))
              | (go_at_call 58; refine (HC4.out _ hcur).mono ?_; rintro e w16 ⟨rfl, hb16⟩; replace hcur := hcur.trans (hb16.mono hcur.size))
              | (go_at_call 58; refine (HC6.out _ hcur).mono ?_; rintro e w17 ⟨rfl, hb17⟩; replace hcur := hcur.trans (hb17.mono hcur.size))
              | (go_at_call 30; refine (lives20 _).mono ?_; rintro e w18 ⟨rfl, hb18⟩; replace hcur := hcur.trans (hb18.mono hcur.size)))
              go_ret
              exact ⟨rfl, hbx.trans (hcur.mono hbx.size)⟩
            | true =>
              cases s with
              | false =>
                go_wp2_with (first
              | (go_at_call 54; refine (hT1.out _ hcur).mono ?_; rintro e w5 ⟨kv1, rfl, hon1, hb5⟩; obtain ⟨ka1, kc1, rfl⟩ := hon1.len; have ON1 := Lib.hid hon1; clear hon1; replace hcur := hcur.trans (hb5.mono hcur.size))
              | (go_at_call 54; refine (hT2.out _ hcur).mono ?_; rintro e w6 ⟨kv2, rfl, hon2, hb6⟩; obtain ⟨ka2, kc2, rfl⟩ := hon2.len; have ON2 := Lib.hid hon2; clear hon2; replace hcur := hcur.trans (hb6.mono hcur.size))
              | (go_at_call 53; refine (HST.out _ _ _ ((ON1.out.at.keep hb6).up hb6.size) ON2.out.at).mono ?_; rintro e w7 ⟨rfl, hb7⟩; replace hcur := hcur.trans (hb7.mono hcur.size))
              | (go_at_call 42; refine (hL1.out _ hcur).mono ?_; rintro e w8 ⟨v8, rfl, ht8, _, hb8⟩; have T8 := Lib.hid ht8; clear ht8; replace hcur := hcur.trans (hb8.mono hcur.size))
              | (go_at_call 42; refine (hL2.out _ hcur).mono ?_; rintro e w9 ⟨v9, rfl, ht9, _, hb9⟩; have T9 := Lib.hid ht9; clear ht9; replace hcur := hcur.trans (hb9.mono hcur.size))
              | (go_at_call 50; refine (HSK.out _ _ _ (T8.out.keep hb9) T9.out).mono ?_; rintro e w10 ⟨rfl, hb10⟩; replace hcur := hcur.trans (hb10.mono hcur.size))
              | (go_at_call 56; refine (HSM.out _ hcur).mono ?_; rintro e w11 ⟨rfl, hb11⟩; replace hcur := hcur.trans (hb11.mono hcur.size))
              | (go_at_call 57; refine (HC1.out _ hcur).mono ?_; rintro e w12 ⟨rfl, hb12⟩; replace hcur := hcur.trans (hb12.mono hcur.size))
              | (go_at_call 57; refine (HC2.out _ hcur).mono ?_; rintro e w13 ⟨rfl, hb13⟩; replace hcur := hcur.trans (hb13.mono hcur.size))
              | (go_at_call 57; refine (HC5.out _ hcur).mono ?_; rintro e w14 ⟨rfl, hb14⟩; replace hcur := hcur.trans (hb14.mono hcur.size))
              | (go_at_call 58; refine (HC3.out _ hcur).mono ?_; rintro e w15 ⟨rfl, hb15⟩; replace hcur := hcur.trans (hb15.mono hcur.size))
              | (go_at_call 58; refine (HC4.out _ hcur).mono ?_; rintro e w16 ⟨rfl, hb16⟩; replace hcur := hcur.trans (hb16.mono hcur.size))
              | (go_at_call 58; refine (HC6.out _ hcur).mono ?_; rintro e w17 ⟨rfl, hb17⟩; replace hcur := hcur.trans (hb17.mono hcur.size))
              | (go_at_call 30; refine (lives20 _).mono ?_; rintro e w18 ⟨rfl, hb18⟩; replace hcur := hcur.trans (hb18.mono hcur.size)))
                go_ret
                exact ⟨rfl, hbx.trans (hcur.mono hbx.size)⟩
              | true =>
                go_wp2_with (first
              | (go_at_call 54; refine (hT1.out _ hcur).mono ?_; rintro e w5 ⟨kv1, rfl, hon1, hb5⟩; obtain ⟨ka1, kc1, rfl⟩ := hon1.len; have ON1 := Lib.hid hon1; clear hon1; replace hcur := hcur.trans (hb5.mono hcur.size))
              | (go_at_call 54; refine (hT2.out _ hcur).mono ?_; rintro e w6 ⟨kv2, rfl, hon2, hb6⟩; obtain ⟨ka2, kc2, rfl⟩ := hon2.len; have ON2 := Lib.hid hon2; clear hon2; replace hcur := hcur.trans (hb6.mono hcur.size))
              | (go_at_call 53; refine (HST.out _ _ _ ((ON1.out.at.keep hb6).up hb6.size) ON2.out.at).mono ?_; rintro e w7 ⟨rfl, hb7⟩; replace hcur := hcur.trans (hb7.mono hcur.size))
              | (go_at_call 42; refine (hL1.out _ hcur).mono ?_; rintro e w8 ⟨v8, rfl, ht8, _, hb8⟩; have T8 := Lib.hid ht8; clear ht8; replace hcur := hcur.trans (hb8.mono hcur.size))
              | (go_at_call 42; refine (hL2.out _ hcur).mono ?_; rintro e w9 ⟨v9, rfl, ht9, _, hb9⟩; have T9 := Lib.hid ht9; clear ht9; replace hcur := hcur.trans (hb9.mono hcur.size))
              | (go_at_call 50; refine (HSK.out _ _ _ (T8.out.keep hb9) T9.out).mono ?_; rintro e w10 ⟨rfl, hb10⟩; replace hcur := hcur.trans (hb10.mono hcur.size))
              | (go_at_call 56; refine (HSM.out _ hcur).mono ?_; rintro e w11 ⟨rfl, hb11⟩; replace hcur := hcur.trans (hb11.mono hcur.size))
              | (go_at_call 57; refine (HC1.out _ hcur).mono ?_; rintro e w12 ⟨rfl, hb12⟩; replace hcur := hcur.trans (hb12.mono hcur.size))
              | (go_at_call 57; refine (HC2.out _ hcur).mono ?_; rintro e w13 ⟨rfl, hb13⟩; replace hcur := hcur.trans (hb13.mono hcur.size))
              | (go_at_call 57; refine (HC5.out _ hcur).mono ?_; rintro e w14 ⟨rfl, hb14⟩; replace hcur := hcur.trans (hb14.mono hcur.size))
              | (go_at_call 58; refine (HC3.out _ hcur).mono ?_; rintro e w15 ⟨rfl, hb15⟩; replace hcur := hcur.trans (hb15.mono hcur.size))
              | (go_at_call 58; refine (HC4.out _ hcur).mono ?_; rintro e w16 ⟨rfl, hb16⟩; replace hcur := hcur.trans (hb16.mono hcur.size))
              | (go_at_call 58; refine (HC6.out _ hcur).mono ?_; rintro e w17 ⟨rfl, hb17⟩; replace hcur := hcur.trans (hb17.mono hcur.size))
              | (go_at_call 30; refine (lives20 _).mono ?_; rintro e w18 ⟨rfl, hb18⟩; replace hcur := hcur.trans (hb18.mono hcur.size)))
                go_ret
                exact ⟨rfl, hbx.trans (hcur.mono hbx.size)⟩

end Go.Proofs.Ytcjpmgfobnaoeaa