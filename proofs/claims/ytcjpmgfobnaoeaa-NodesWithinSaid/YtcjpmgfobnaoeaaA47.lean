/- NodesWithin: the walk. -/
import Derived.Test.YtcjpmgfobnaoeaaA45
import Derived.Test.YtcjpmgfobnaoeaaA46
import Derived.Test.YtcjpmgfobnaoeaaA29
namespace Go.Proofs.Ytcjpmgfobnaoeaa
open Go.RowKit

/-- What a loop that grows a row keeps: all that lay at its start but the row's block. -/
structure Keeps (X : Option Nat) (W W' : World) (rv : Value) : Prop where
  gb : W.grownBy W' X
  own : rv.ownBlock = X ∨ ∃ g, rv.ownBlock = some g ∧ W.heap.size ≤ g
theorem Keeps.refl (W : World) (rv : Value) : Keeps rv.ownBlock W W rv := ⟨gb_refl _ _, .inl rfl⟩
theorem Keeps.ne {X : Option Nat} {W W' : World} {rv : Value} (h : Keeps X W W' rv) {k : Nat} (hk : k < W.heap.size) (hne : some k ≠ X) : some k ≠ rv.ownBlock := by
  intro e
  rcases h.own with h1 | ⟨g, h1, h2⟩
  · exact hne (e.trans h1)
  · rw [h1] at e
    injection e with e
    omega
theorem Keeps.cell {X : Option Nat} {W W' : World} {rv : Value} (h : Keeps X W W' rv) {b i : Nat} {v : Value} (hc : W.cell? ⟨b, i, none⟩ = some v) (hne : some b ≠ X) : W'.cell? ⟨b, i, none⟩ = some v :=
  (World.cell?_of_block (w := W) (a := ⟨b, i, none⟩) (h.gb.block b (World.block_lt_of_cell? W _ hc) hne)).trans hc
theorem Keeps.below {X : Option Nat} {W W' : World} {rv : Value} {B : Nat} (h : Keeps X W W' rv) (hB : B ≤ W.heap.size) (hX : ∀ k, X = some k → B ≤ k) : Below B W W' :=
  (Below.refl B W).grown h.gb hB hX
theorem Keeps.step {X : Option Nat} {W A B C : World} {rv rv' : Value} {base g : Nat} (h : Keeps X W A rv) (hb : Below A.heap.size A B) (hg : Grew base rv B C g) (hv : rv'.ownBlock = some g) : Keeps X W C rv' := by
  have hs := h.gb.size
  have hs2 := hb.size
  refine ⟨⟨(hg.below.os.trans hb.os).trans h.gb.os, (hg.below.tape.trans hb.tape).trans h.gb.tape, (hg.below.output.trans hb.output).trans h.gb.output, Nat.le_trans hs (Nat.le_trans hs2 hg.below.size), fun k hk hne => ?_⟩, ?_⟩
  · exact (hg.far k (by omega) (h.ne hk hne)).trans ((hb.block k (by omega)).trans (h.gb.block k hk hne))
  · rcases hg.at_ with h1 | h1
    · rw [hv, ← h1]
      exact h.own
    · exact .inr ⟨g, hv, by omega⟩
theorem Keeps.join {X : Option Nat} {W A B C : World} {rv rv' : Value} (h : Keeps X W A rv) (hb : Below A.heap.size A B) (k : Keeps rv.ownBlock B C rv') : Keeps X W C rv' := by
  have hs := h.gb.size
  have hs2 := hb.size
  refine ⟨⟨(k.gb.os.trans hb.os).trans h.gb.os, (k.gb.tape.trans hb.tape).trans h.gb.tape, (k.gb.output.trans hb.output).trans h.gb.output, Nat.le_trans hs (Nat.le_trans hs2 k.gb.size), fun j hj hne => ?_⟩, ?_⟩
  · exact (k.gb.block j (by omega) (h.ne hj hne)).trans ((hb.block j (by omega)).trans (h.gb.block j hj hne))
  · rcases k.own with h1 | ⟨g, h1, h2⟩
    · rw [h1]
      exact h.own
    · exact .inr ⟨g, h1, by omega⟩

attribute [local irreducible] Calls
set_option maxRecDepth 100000 in
set_option maxHeartbeats 8000000 in
theorem nodesWithin_walk (d : Dt) (v : Value) (w : World) (hd : d.At w.heap.size w v) :
    Calls Try.prog 8 #[v] w fun e w' => e = .returned (.bool true) ∧ Below w.heap.size w w' := by
  have hd' := hd
  obtain ⟨kv, tv, sv, rfl, _, _, _⟩ := hd'
  have hW : ∀ W, W = w.alloc (.cells #[.int .i64 d.tree.sy, .int .i64 d.tree.pr, kv, tv, sv] 28) → Below w.heap.size w W ∧
      W.heap[w.heap.size]? = some (.cells #[.int .i64 d.tree.sy, .int .i64 d.tree.pr, kv, tv, sv] 28 (0, 0)) := by
    rintro W rfl
    exact ⟨below_alloc _ _, heap_alloc_new _ _⟩
  have HW := Lib.hid hW
  have HD := Lib.hid hd
  clear hW hd
  go_enter Try.func8, Try.ntmps8
  apply wp_seq_k
  intro K1 k1
  have H1 := Lib.hid k1
  clear k1
  go_wp2_with fail
  refine H1.out _ _ ?_
  clear H1 K1
  obtain ⟨hB, hx2⟩ := HW.out _ rfl
  generalize w.alloc (.cells #[.int .i64 d.tree.sy, .int .i64 d.tree.pr, kv, tv, sv] 28) = W at *
  have p0 : W.cell? ⟨w.heap.size, 0, none⟩ = some (.int .i64 d.tree.sy) := cell_of_heap hx2 rfl
  have p1 : W.cell? ⟨w.heap.size, 1, none⟩ = some (.int .i64 d.tree.pr) := cell_of_heap hx2 rfl
  have p2 : W.cell? ⟨w.heap.size, 2, none⟩ = some kv := cell_of_heap hx2 rfl
  have p3 : W.cell? ⟨w.heap.size, 3, none⟩ = some tv := cell_of_heap hx2 rfl
  have p4 : W.cell? ⟨w.heap.size, 4, none⟩ = some sv := cell_of_heap hx2 rfl
  have hgr := great29 w.heap.size d _ W (HD.out.keep hB) hB.size
  have hX : ∀ wx, Below W.heap.size W wx → wx.heap[w.heap.size]? = some (.cells #[.int .i64 d.tree.sy, .int .i64 d.tree.pr, kv, tv, sv] 28 (0, 0)) := fun wx hb =>
    (hb.block _ (Array.getElem?_eq_some_iff.1 hx2).1).trans hx2
  have HX := Lib.hid hX
  clear HW hx2 hX
  cases hg : d.great with
  | true =>
    rw [hg] at hgr
    go_wp2_with (first | (go_at_call 29; refine hgr.mono ?_; rintro e w1 ⟨rfl, hb1⟩) | (go_at_call 30; refine (lives20 _).mono ?_; rintro e w2 ⟨rfl, hb2⟩))
    go_ret
    exact ⟨rfl, hB.trans ((hb1.trans (hb2.mono hb1.size)).mono hB.size)⟩
  | false =>
    rw [hg] at hgr
    have hcnt : d.tree.cnt ≤ 60 := by unfold Dt.great at hg; simpa using hg
    apply wp_seq_k
    intro K1 k1
    have H1 := Lib.hid k1
    clear k1
    go_wp2_with (first | (go_at_call 29; refine hgr.mono ?_; rintro e w1 ⟨rfl, hb1⟩))
    refine H1.out _ _ ?_
    clear H1 K1 hgr p0 p1 p2 p3 p4
    have hx1 := HX.out _ hb1
    have p0 : w1.cell? ⟨w.heap.size, 0, none⟩ = some (.int .i64 d.tree.sy) := cell_of_heap hx1 rfl
    have p1 : w1.cell? ⟨w.heap.size, 1, none⟩ = some (.int .i64 d.tree.pr) := cell_of_heap hx1 rfl
    have p2 : w1.cell? ⟨w.heap.size, 2, none⟩ = some kv := cell_of_heap hx1 rfl
    have p3 : w1.cell? ⟨w.heap.size, 3, none⟩ = some tv := cell_of_heap hx1 rfl
    have p4 : w1.cell? ⟨w.heap.size, 4, none⟩ = some sv := cell_of_heap hx1 rfl
    clear hx1
    have hBW := hB.trans (hb1.mono hB.size)
    have hbt := built_any w.heap.size d _ w1 (HD.out.keep hBW) hBW.size (by omega)
    rcases hr : d.bld with x | pn
    · have hq : ∀ x : Int, x ≠ 0 → (x == 0) = false := fun x h => beq_eq_false_iff_ne.2 h
      have HQ := Lib.hid hq
      have HR := Lib.hid hr
      clear hq hr
      go_wp2_with (first
        | (go_at_call 21; refine hbt.mono ?_; rintro e w2 hsay; obtain ⟨hb2, hx0, rfl⟩ := hsay.err HR.out; have hq := HQ.out _ hx0; have hbx := hb1.trans (hb2.mono hb1.size))
        | (go_at_call 30; refine (lives20 _).mono ?_; rintro e w4 ⟨rfl, hb4⟩))
      go_ret
      exact ⟨rfl, hB.trans ((hbx.trans (hb4.mono hbx.size)).mono hB.size)⟩
    · have HR := Lib.hid hr
      clear hr
      apply wp_seq_k
      intro K1 k1
      have H1 := Lib.hid k1
      clear k1
      go_wp2_with (first
        | (go_at_call 21; refine hbt.mono ?_; rintro e w2 hsay; obtain ⟨hb2, n, rfl, rfl, hin, hwf, hht, hcn, _⟩ := hsay.ok HR.out))
      refine H1.out _ _ ?_
      clear H1 K1 hbt p0 p1 p2 p3 p4
      have hbx := hB.trans ((hb1.trans (hb2.mono hb1.size)).mono hB.size)
      have hok := Nd.WF.ok n hwf
      have hc3 : n.cnt ≤ 1000 := by omega
      have hh1 := hok.ht1
      have hhc := ht_le_cnt n hwf
      have hbt1 := hok.bt1
      have hkl := hok.klen
      have hby := fun W (hW : Below w2.heap.size w2 W) => bytes_some n W (hin.below hW)
      have hsy := fun W (hW : Below w2.heap.size w2 W) => sym_some n W (hin.below hW) (by omega)
      have hpr := fun W (hW : Below w2.heap.size w2 W) => prod_some n W (hin.below hW) (by omega)
      have hkd := fun W (hW : Below w2.heap.size w2 W) => kids_some n W (hin.below hW) (by omega) (by omega)
      have hsn := fun W (hW : Below w2.heap.size w2 W) => spots_call n W (hin.below hW) hwf hc3
      have hspn := fun (k : Nd) (hk : k ∈ n.kids) W (hW : Below w2.heap.size w2 W) => spots_call k W ((hin.head.2.2 k hk).below hW) (hwf.kid k hk) (by have h1 := n.cnt_eq; have h2 := cnt_mem hk; omega)
      have hldn := fun (k : Nd) (hk : k ∈ n.kids) W (hW : Below w2.heap.size w2 W) => lead_some k W ((hin.head.2.2 k hk).below hW)
      have hbyn := fun (k : Nd) (hk : k ∈ n.kids) W (hW : Below w2.heap.size w2 W) => bytes_some k W ((hin.head.2.2 k hk).below hW)
      unfold Nd.ptr at hby hsy hpr hkd hsn hspn hldn hbyn ⊢
      have HBY := Lib.hid hby
      have HSY := Lib.hid hsy
      have HPR := Lib.hid hpr
      have HKD := Lib.hid hkd
      have HSN := Lib.hid hsn
      have HSPN := Lib.hid hspn
      have HLDN := Lib.hid hldn
      have HBYN := Lib.hid hbyn
      have HWF := Lib.hid hwf
      have hsl : (spotsN n).length ≤ 1000 := by unfold spotsN; rw [List.length_map, preN_len]; exact hc3
      have HSW := Lib.hid (spots_within n)
      have HSL := Lib.hid hsl
      clear hby hsy hpr hkd hsn hspn hldn hbyn hin hwf hok hsl
      have hcur := Below.refl w2.heap.size w2
      go_upto_region 7 with (first
        | (go_at_call 32; refine (HSY.out _ hcur).mono ?_; rintro e w3 ⟨rfl, h3⟩; rw [h3]; clear h3)
        | (go_at_call 44; refine (HPR.out _ hcur).mono ?_; rintro e w4 ⟨rfl, h4⟩; rw [h4]; clear h4)
        | (go_at_call 36; refine (HBY.out _ hcur).mono ?_; rintro e w5 ⟨rfl, hb5⟩; replace hcur := hcur.trans (hb5.mono hcur.size)))
      have hal := hcur.alloc hcur.size (.cells #[.int .i64 n.sy, .int .i64 n.pr, .int .i64 0, .int .i64 n.bt, .int .i64 0] 66)
      have hrw : (w5.alloc (.cells #[.int .i64 n.sy, .int .i64 n.pr, .int .i64 0, .int .i64 n.bt, .int .i64 0] 66)).ownsRow w2.heap.size 66 5 (.slice (some ⟨w5.heap.size, 0, none⟩) 1 1) 1 (spots [⟨n.sy, n.pr, 0, n.bt, 0⟩]) := row_new (heap_alloc_new _ _) hcur.size rfl (by decide)
      have HRW := Lib.hid hrw
      clear hrw
      generalize w5.alloc (.cells #[.int .i64 n.sy, .int .i64 n.pr, .int .i64 0, .int .i64 n.bt, .int .i64 0] 66) = w6 at *
      go_upto_region 9 with (first
        | (go_at_call 34; refine (HKD.out _ hal).mono ?_; rintro e w7 ⟨v7, rfl, hrow7, hb7⟩; obtain ⟨A7, c7, rfl, hc7⟩ := ownsRow_any hrow7; have hcu7 := hal.trans (hb7.mono hal.size); have HC7 := Lib.hid hc7; clear hc7 hrow7))
      have hrw7 := ownsRow_of_block HRW.out (w' := w7) (fun k hk => hb7.block k (HRW.out.lt k hk).2)
      have HRW7 := Lib.hid hrw7
      have hcell : ∀ i (hi : i < n.kids.length), ∃ g, A7 = some ⟨g, 0, none⟩ ∧ g < w7.heap.size ∧ w7.cell? ⟨g, i, none⟩ = some (.pointer (some ⟨n.kids[i].b, 0, none⟩)) := fun i hi => by
        obtain ⟨g, h1, _, h3, h4⟩ := HC7.out i n.kids[i].ptr (by rw [List.getElem?_map, List.getElem?_eq_getElem hi]; rfl)
        exact ⟨g, h1, h3, h4⟩
      have HCL := Lib.hid hcell
      have hl7 := hcu7.size
      obtain ⟨xw, hxw⟩ : ∃ xw, xw = w5.heap.size := ⟨_, rfl⟩
      have hxw1 : w2.heap.size ≤ xw := by rw [hxw]; exact hcur.size
      have hxg : ∀ i (hi : i < n.kids.length) g, A7 = some ⟨g, 0, none⟩ → some g ≠ some xw := fun i hi g e => by
        intro e2
        obtain ⟨g', h1, h2, _⟩ := HC7.out i n.kids[i].ptr (by rw [List.getElem?_map, List.getElem?_eq_getElem hi]; rfl)
        rw [e] at h1
        injection h1 with h1
        injection h1 with h1
        injection e2 with e2
        have := (HRW.out.lt xw (by rw [hxw]; rfl)).2
        omega
      have HXG := Lib.hid hxg
      rw [← hxw] at HRW7 ⊢
      clear hrw7 hcell hxw hxg
      go_wp2_with fail
      go_loopw [5, 6, 8] (fun rv av iv wx => ∃ (i : Nat) (a : Int) (done : List Sp), iv = .int .i64 i ∧ av = .int .i64 a ∧ i ≤ n.kids.length ∧ Keeps (some xw) w7 wx rv ∧ 0 ≤ a ∧
          Hid (a + sumBt (n.kids.drop i) ≤ 65536 ∧ wx.ownsRow w2.heap.size 66 5 rv done.length (spots done) ∧ spotsN n = done ++ (preK a 1 (n.kids.drop i)).map spotV)) (fun _ _ iv _ => n.kids.length - (intOf iv).toNat)
      case atStart =>
        refine ⟨0, 0, [⟨n.sy, n.pr, 0, n.bt, 0⟩], rfl, rfl, by omega, Keeps.refl w7 (.slice (some ⟨xw, 0, none⟩) 1 1), by omega, ?_, ?_, ?_⟩
        · have := HWF.out.sum.2
          rw [List.drop_zero]
          omega
        · exact ownsRow_of_block HRW7.out (fun k hk => rfl)
        · rw [List.drop_zero]
          exact HSW.out
      case round =>
        obtain ⟨i, a, done, rfl, rfl, hi, hbr, ha0, HI⟩ := hrel
        have hcr := hcu7.trans (hbr.below hl7 (fun k e => by cases e; exact hxw1))
        by_cases hlt : i < n.kids.length
        · obtain ⟨g7, rfl, lg7, q7⟩ := HCL.out i hlt
          have hkm : n.kids[i] ∈ n.kids := List.getElem_mem hlt
          have hspk := HSPN.out _ hkm
          have hldk := HLDN.out _ hkm
          have hbyk := HBYN.out _ hkm
          have hkw := HWF.out.kid _ hkm
          have hdr := List.drop_eq_getElem_cons hlt
          obtain ⟨kd, hkd⟩ : ∃ kd, n.kids[i] = kd := ⟨_, rfl⟩
          rw [hkd] at q7 hspk hldk hbyk hkw hdr
          obtain ⟨j1, j2, j3⟩ := HI.out
          rw [hdr, sumBt_cons] at j1
          rw [hdr, preK_cons, List.map_append, kid_spots, ← List.append_assoc] at j3
          have hs0 := (sumBt_ge (l := n.kids.drop (i + 1)) fun m hm => (Nd.WF.ok m (HWF.out.kid m (List.mem_of_mem_drop hm))).bt0).1
          have hkb := (Nd.WF.ok kd hkw).bt0
          have hkl2 := (Nd.WF.ok kd hkw).ld1
          have hkl3 := (Nd.WF.ok kd hkw).ld0
          have hkh : kd.ht ≤ 1000 := by have h1 := (Nd.WF.ok n HWF.out).kht n.kids[i] hkm; rw [hkd] at h1; omega
          have hltI : (i : Int) < (n.kids.length : Int) := by omega
          have hi0 : (0 : Int) ≤ (i : Int) := Int.natCast_nonneg _
          have hne7 := HXG.out i hlt g7 rfl
          have q7' : wr.cell? ⟨g7, i, none⟩ = some (.pointer (some ⟨kd.b, 0, none⟩)) := hbr.cell q7 hne7
          obtain ⟨L, hL⟩ : ∃ L, spotsN kd = L := ⟨_, rfl⟩
          have hlkn : L.length ≤ 1000 := by
            have h1 := n.cnt_eq
            have h2 := cnt_mem (n := n.kids[i]) hkm
            rw [hkd] at h2
            rw [← hL]
            unfold spotsN
            rw [List.length_map, preN_len]
            omega
          have hbnd : ∀ s ∈ L, 0 ≤ s.fa ∧ s.fa ≤ s.fz ∧ s.fz ≤ kd.bt ∧ 0 ≤ s.dp ∧ s.dp ≤ kd.ht := fun s hs => spots_bounds kd hkw (by rw [hL]; exact hs)
          have hshg : ∀ j (h : j < (shK a kd).length) (h2 : j < L.length), (shK a kd)[j] = shI a kd j L[j] := fun j h h2 => by
            rw [shK_get]
            congr 1
            simp only [hL]
          have hshl : (shK a kd).length = L.length := by rw [shK_len, hL]
          rw [hL] at hspk
          have HJ2 := Lib.hid j2
          have HJ3 := Lib.hid j3
          have HSPK := Lib.hid hspk
          have HLDK := Lib.hid hldk
          have HBYK := Lib.hid hbyk
          have HBND := Lib.hid hbnd
          have HSHG := Lib.hid hshg
          have HSHL := Lib.hid hshl
          have HL := Lib.hid hL
          clear j2 j3 hspk hldk hbyk hbnd hshg hshl hL hdr hkd hkm HI q7
          go_upto_region 14 with (first
            | (go_at_call 31; refine (HSPK.out _ hcr).mono ?_; rintro e w9 ⟨v9, rfl, hs9, hb9⟩; have hcr9 := hcr.trans (hb9.mono hcr.size); have S9 := Lib.hid (spots_row hs9).2; have R9 := Lib.hid (ownsRow_of_block HJ2.out (w' := w9) (fun k hk => hb9.block k (HJ2.out.lt k hk).2)); clear hs9))
          obtain ⟨X5, hX5⟩ : ∃ X5, u5.ownBlock = X5 := ⟨_, rfl⟩
          have hX5lt : ∀ k, X5 = some k → w2.heap.size ≤ k ∧ k < wr.heap.size := fun k e => by rw [← hX5] at e; exact HJ2.out.lt k e
          have HXK := Lib.hid (show Keeps X5 w9 w9 u5 by rw [← hX5]; exact Keeps.refl _ _)
          have hne5 : some g7 ≠ X5 := by rw [← hX5]; exact hbr.ne lg7 hne7
          have HX5 := Lib.hid hX5
          have HKO := Lib.hid hbr
          have HX5L := Lib.hid hX5lt
          have hszw : wr.heap.size ≤ w9.heap.size := hb9.size
          clear hX5 hX5lt
          obtain ⟨A9, c9, hv9, hcell9⟩ := S9.out
          subst hv9
          have HC9 := Lib.hid hcell9
          clear hcell9
          have q9 : w9.cell? ⟨g7, i, none⟩ = some (.pointer (some ⟨kd.b, 0, none⟩)) := (hb9.cell (p := ⟨g7, _, none⟩) (World.block_lt_of_cell? _ _ q7')).trans q7'
          have lg9 : g7 < w9.heap.size := World.block_lt_of_cell? _ _ q9
          clear q7'
          go_wp2_with fail
          go_loopw [5, 10] (fun rv jv wx => ∃ (j : Nat) (done2 : List Sp), jv = .int .i64 j ∧ j ≤ L.length ∧ Keeps X5 w9 wx rv ∧ Hid (wx.ownsRow w2.heap.size 66 5 rv done2.length (spots done2) ∧ spotsN n = done2 ++ (shK a kd).drop j ++ (preK (a + kd.bt) 1 (n.kids.drop (i + 1))).map spotV)) (fun _ jv _ => L.length - (intOf jv).toNat)
          case atStart =>
            exact ⟨0, done, rfl, by omega, HXK.out, R9.out, by rw [List.drop_zero]; exact HJ3.out⟩
          case round =>
            obtain ⟨j, done2, rfl, hj, hbj, HK⟩ := hrel
            have hcj := hcr9.trans (hbj.below hcr9.size (fun k e => (HX5L.out k e).1))
            by_cases hjl : j < L.length
            · obtain ⟨g9, rfl, lb9, lg, q0, q1, q2, q3, q4⟩ := HC9.out j hjl
              have hne9 : some g9 ≠ X5 := fun e => by have := (HX5L.out g9 e.symm).2; omega
              have hsm : L[j] ∈ L := List.getElem_mem hjl
              have hb := HBND.out _ hsm
              have hjl2 : j < (shK a kd).length := by rw [HSHL.out]; exact hjl
              have hsg := HSHG.out j hjl2 hjl
              have hdk := List.drop_eq_getElem_cons hjl2
              rw [hsg] at hdk
              obtain ⟨s, hs⟩ : ∃ s, L[j] = s := ⟨_, rfl⟩
              rw [hs] at q0 q1 q2 q3 q4 hb hdk
              replace q0 := hbj.cell q0 hne9
              replace q1 := hbj.cell q1 hne9
              replace q2 := hbj.cell q2 hne9
              replace q3 := hbj.cell q3 hne9
              replace q4 := hbj.cell q4 hne9
              obtain ⟨k1, k2⟩ := HK.out
              rw [hdk] at k2
              have hd2 : done2.length ≤ 1000 := by
                have h := congrArg List.length k2
                rw [List.length_append, List.length_append] at h
                have := HSL.out
                omega
              obtain ⟨b1, b2, b3, b4, b5⟩ := hb
              have hw1 : IntKind.i64.wrap (s.fa + a) = s.fa + a := by rw [IntKind.wrap_i64]; omega
              have hw2 : IntKind.i64.wrap (s.fz + a) = s.fz + a := by rw [IntKind.wrap_i64]; omega
              have hw3 : IntKind.i64.wrap (a + kd.ld) = a + kd.ld := by rw [IntKind.wrap_i64]; omega
              have hw4 : IntKind.i64.wrap (s.dp + 1) = s.dp + 1 := by rw [IntKind.wrap_i64]; omega
              have hjI : (j : Int) < (L.length : Int) := by omega
              have hj0 : (0 : Int) ≤ (j : Int) := Int.natCast_nonneg _
              have K1 := Lib.hid k1
              have K2 := Lib.hid k2
              clear k1 k2 hdk hsg hs hsm HK hjl2
              by_cases hj00 : j = 0
              · have hz : ((j : Int) == 0) = true := by rw [hj00]; rfl
                have HJ00 := Lib.hid hj00
                have hA := hcj.alloc hcj.size (.cells #[.int .i64 s.sy, .int .i64 s.pr, .int .i64 (s.fa + a), .int .i64 (s.fz + a), .int .i64 s.dp] 66)
                have hN := Lib.hid (heap_alloc_new wr (.cells #[.int .i64 s.sy, .int .i64 s.pr, .int .i64 (s.fa + a), .int .i64 (s.fz + a), .int .i64 s.dp] 66))
                have hNs := Lib.hid (World.size_alloc wr (.cells #[.int .i64 s.sy, .int .i64 s.pr, .int .i64 (s.fa + a), .int .i64 (s.fz + a), .int .i64 s.dp] 66))
                have q9j : ∀ o, (wr.alloc o).cell? ⟨g7, i, none⟩ = some (.pointer (some ⟨kd.b, 0, none⟩)) := fun o => Lib.cell?_alloc_some _ (hbj.cell q9 hne5)
                clear hj00
                go_upto_region 21 with (first
                  | (go_at_call 37; refine (HLDK.out _ hA).mono ?_; rintro e w12 ⟨rfl, hb12⟩; have gx := (hb12.block wr.heap.size (by rw [hNs.out]; omega)).trans hN.out; have y2 := cell_of_heap (i := 2) (v := .int .i64 (s.fa + a)) gx rfl; have y4 := cell_of_heap (i := 4) (v := .int .i64 s.dp) gx rfl; have z2 : w12.frozen? ⟨wr.heap.size, 2, none⟩ = false := frozen_of_heap gx; have z4 : w12.frozen? ⟨wr.heap.size, 4, none⟩ = false := frozen_of_heap gx; have GX := Lib.hid gx; clear gx))
                obtain ⟨W8, hW8⟩ : ∃ W8, (w12.setCell ⟨wr.heap.size, 2, none⟩ (.int .i64 (a + kd.ld))).setCell ⟨wr.heap.size, 4, none⟩ (.int .i64 (s.dp + 1)) = W8 := ⟨_, rfl⟩
                have hbW : Below wr.heap.size wr W8 := by
                  rw [← hW8]
                  have hA2 := below_alloc wr (.cells #[.int .i64 s.sy, .int .i64 s.pr, .int .i64 (s.fa + a), .int .i64 (s.fz + a), .int .i64 s.dp] 66)
                  exact ((hA2.trans (hb12.mono hA2.size)).setCell (p := ⟨wr.heap.size, 2, none⟩) (Nat.le_refl _) _).setCell (p := ⟨wr.heap.size, 4, none⟩) (Nat.le_refl _) _
                have hxW : W8.heap[wr.heap.size]? = some (.cells #[.int .i64 s.sy, .int .i64 s.pr, .int .i64 (a + kd.ld), .int .i64 (s.fz + a), .int .i64 (s.dp + 1)] 66 (0, 0)) := by
                  rw [← hW8]
                  exact setCell_heap (i := 4) (setCell_heap (i := 2) GX.out _) _
                rw [hW8]
                clear hW8 y2 y4 z2 z4 hA q9j
                have hcW := hcj.trans (hbW.mono hcj.size)
                have RW := Lib.hid (ownsRow_of_block K1.out (w' := W8) (fun k hk => hbW.block k (K1.out.lt k hk).2))
                obtain ⟨xb, hxb⟩ : ∃ xb, xb = wr.heap.size := ⟨_, rfl⟩
                rw [← hxb] at hxW ⊢
                have x0 : W8.cell? ⟨xb, 0, none⟩ = some (.int .i64 s.sy) := cell_of_heap hxW rfl
                have x1 : W8.cell? ⟨xb, 1, none⟩ = some (.int .i64 s.pr) := cell_of_heap hxW rfl
                have x2 : W8.cell? ⟨xb, 2, none⟩ = some (.int .i64 (a + kd.ld)) := cell_of_heap hxW rfl
                have x3 : W8.cell? ⟨xb, 3, none⟩ = some (.int .i64 (s.fz + a)) := cell_of_heap hxW rfl
                have x4 : W8.cell? ⟨xb, 4, none⟩ = some (.int .i64 (s.dp + 1)) := cell_of_heap hxW rfl
                have HSH := Lib.hid (show shI a kd j s = ⟨s.sy, s.pr, (a + kd.ld), s.fz + a, s.dp + 1⟩ by unfold shI; rw [if_pos HJ00.out])
                have r21 := RW.out
                have hlW := hcW.size
                clear hxW hxb
                go_wp2_with (first | (at_builtin; refine wpList_push rfl (.tmp 86) (.tmp 88) 50 rfl 66 _ 5 40 info66 Try.underlying50 rfl (by decide) w2.heap.size _ _ (spots done2) rfl r21 [.int .i64 s.sy, .int .i64 s.pr, .int .i64 (a + kd.ld), .int .i64 (s.fz + a), .int .i64 (s.dp + 1)] rfl rfl (by simp [Value.oneCell']) (by omega) (by omega) hlW ?_; intro g13 c13 w13 hown13 hgr13))
                have HO := Lib.hid hown13
                have hb13 := hbj.step hbW hgr13 (rv' := .slice (some ⟨g13, 0, none⟩) (done2.length + 1) c13) rfl
                clear hown13 r21 x0 x1 x2 x3 x4
                go_roundw
                case rel =>
                  refine ⟨j + 1, done2 ++ [shI a kd j s], by go_num, by omega, hb13, ?_, ?_⟩
                  · rw [List.length_append]
                    unfold spots
                    rw [List.flatMap_append, List.flatMap_singleton, HSH.out]
                    exact HO.out
                  · rw [K2.out]
                    simp
                case measure => simp [intOf]; omega
              · have hz : ((j : Int) == 0) = false := beq_eq_false_iff_ne.2 (by omega)
                have HJ00 := Lib.hid hj00
                clear hj00
                go_upto_region 21 with fail
                obtain ⟨W8, hW8⟩ : ∃ W8, wr.alloc (.cells #[.int .i64 s.sy, .int .i64 s.pr, .int .i64 (s.fa + a), .int .i64 (s.fz + a), .int .i64 (s.dp + 1)] 66) = W8 := ⟨_, rfl⟩
                have hbW : Below wr.heap.size wr W8 := by rw [← hW8]; exact below_alloc _ _
                have hxW : W8.heap[wr.heap.size]? = some (.cells #[.int .i64 s.sy, .int .i64 s.pr, .int .i64 (s.fa + a), .int .i64 (s.fz + a), .int .i64 (s.dp + 1)] 66 (0, 0)) := by rw [← hW8]; exact heap_alloc_new _ _
                rw [hW8]
                clear hW8
                have hcW := hcj.trans (hbW.mono hcj.size)
                have RW := Lib.hid (ownsRow_of_block K1.out (w' := W8) (fun k hk => hbW.block k (K1.out.lt k hk).2))
                obtain ⟨xb, hxb⟩ : ∃ xb, xb = wr.heap.size := ⟨_, rfl⟩
                rw [← hxb] at hxW ⊢
                have x0 : W8.cell? ⟨xb, 0, none⟩ = some (.int .i64 s.sy) := cell_of_heap hxW rfl
                have x1 : W8.cell? ⟨xb, 1, none⟩ = some (.int .i64 s.pr) := cell_of_heap hxW rfl
                have x2 : W8.cell? ⟨xb, 2, none⟩ = some (.int .i64 (s.fa + a)) := cell_of_heap hxW rfl
                have x3 : W8.cell? ⟨xb, 3, none⟩ = some (.int .i64 (s.fz + a)) := cell_of_heap hxW rfl
                have x4 : W8.cell? ⟨xb, 4, none⟩ = some (.int .i64 (s.dp + 1)) := cell_of_heap hxW rfl
                have HSH := Lib.hid (show shI a kd j s = ⟨s.sy, s.pr, (s.fa + a), s.fz + a, s.dp + 1⟩ by unfold shI; rw [if_neg HJ00.out])
                have r21 := RW.out
                have hlW := hcW.size
                clear hxW hxb
                go_wp2_with (first | (at_builtin; refine wpList_push rfl (.tmp 86) (.tmp 88) 50 rfl 66 _ 5 40 info66 Try.underlying50 rfl (by decide) w2.heap.size _ _ (spots done2) rfl r21 [.int .i64 s.sy, .int .i64 s.pr, .int .i64 (s.fa + a), .int .i64 (s.fz + a), .int .i64 (s.dp + 1)] rfl rfl (by simp [Value.oneCell']) (by omega) (by omega) hlW ?_; intro g13 c13 w13 hown13 hgr13))
                have HO := Lib.hid hown13
                have hb13 := hbj.step hbW hgr13 (rv' := .slice (some ⟨g13, 0, none⟩) (done2.length + 1) c13) rfl
                clear hown13 r21 x0 x1 x2 x3 x4
                go_roundw
                case rel =>
                  refine ⟨j + 1, done2 ++ [shI a kd j s], by go_num, by omega, hb13, ?_, ?_⟩
                  · rw [List.length_append]
                    unfold spots
                    rw [List.flatMap_append, List.flatMap_singleton, HSH.out]
                    exact HO.out
                  · rw [K2.out]
                    simp
                case measure => simp [intOf]; omega
            · have hgej : ¬ ((j : Int) < (L.length : Int)) := by omega
              have hdn : (shK a kd).drop j = [] := List.drop_of_length_le (by rw [HSHL.out]; omega)
              have hK := HK.out
              rw [hdn, List.append_nil] at hK
              obtain ⟨k1, k2⟩ := hK
              have hwa : IntKind.i64.wrap (a + kd.bt) = a + kd.bt := by rw [IntKind.wrap_i64]; omega
              have q9j : wr.cell? ⟨g7, i, none⟩ = some (.pointer (some ⟨kd.b, 0, none⟩)) := hbj.cell q9 hne5
              have K1 := Lib.hid k1
              have K2 := Lib.hid k2
              clear k1 k2 hdn HK
              go_wp2_with (first
                | (go_at_call 36; refine (HBYK.out _ hcj).mono ?_; rintro e w14 ⟨rfl, hb14⟩; have R14 := Lib.hid (ownsRow_of_block K1.out (w' := w14) (fun k hk => hb14.block k (K1.out.lt k hk).2))))
              have hko := HKO.out.join (hb9.mono (Nat.le_refl _)) (by rw [HX5.out]; exact hbj)
              have hls : (n.kids.drop (i + 1)).length = (n.kids.drop (i + 1)).length := rfl
              refine ⟨⟨i + 1, a + kd.bt, done2, by go_num, rfl, by omega, ⟨gb_trans hko.gb ?_, hko.own⟩, by omega, by omega, R14.out, K2.out⟩, by simp [intOf]; omega⟩
              exact ⟨hb14.os, hb14.tape, hb14.output, hb14.size, fun k hk _ => hb14.block k hk⟩
        · have hge : ¬ ((i : Int) < (n.kids.length : Int)) := by omega
          obtain ⟨j1, j2, j3⟩ := HI.out
          rw [List.drop_of_length_le (by omega)] at j3
          have hdone : spotsN n = done := by rw [j3]; simp [preK]
          have hdl : done.length ≤ 1000 := by rw [← hdone]; exact HSL.out
          have HDN := Lib.hid hdone
          have J2 := Lib.hid j2
          clear j1 j2 j3 hdone HI
          go_wp2_with (first
            | (go_at_call 31; refine (HSN.out _ hcr).mono ?_; rintro e w10 ⟨v10, rfl, hs10, hb10⟩; replace hcr := hcr.trans (hb10.mono hcr.size); have S10 := Lib.hid (SpotsAt.of_row hs10); have J10 := Lib.hid ((SpotsAt.of_row J2.out).keep hb10); clear hs10)
            | (go_at_call 35; refine (sameSpots_call _ _ done _ (HDN.out ▸ S10.out) J10.out (by omega)).mono ?_; rintro e w11 ⟨rfl, hb11⟩; replace hcr := hcr.trans (hb11.mono hcr.size))
            | (go_at_call 30; refine (lives20 _).mono ?_; rintro e w12 ⟨rfl, hb12⟩; replace hcr := hcr.trans (hb12.mono hcr.size)))
          go_ret
          exact ⟨rfl, hbx.trans (hcr.mono hbx.size)⟩

end Go.Proofs.Ytcjpmgfobnaoeaa
