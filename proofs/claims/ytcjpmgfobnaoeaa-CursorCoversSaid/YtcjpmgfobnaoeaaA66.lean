/- CursorCovers: the walk. -/
import Derived.Test.YtcjpmgfobnaoeaaA65
import Derived.Test.YtcjpmgfobnaoeaaA67
import Derived.Test.YtcjpmgfobnaoeaaA63
namespace Go.Proofs.Ytcjpmgfobnaoeaa
open Go.RowKit
attribute [local irreducible] Calls

set_option maxRecDepth 100000 in
set_option maxHeartbeats 8000000 in
theorem cursorCovers_walk (d : Dt) (v : Value) (x y z : Int) (w : World) (hd : d.At w.heap.size w v) (hx0 : 0 ≤ x) (hx1 : x ≤ 255) (hy0 : 0 ≤ y) (hy1 : y ≤ 255) (hz0 : 0 ≤ z) (hz1 : z ≤ 255) :
    Calls Try.prog 16 #[v, .agg #[.int .u8 x, .int .u8 y, .int .u8 z]] w fun e w' => e = .returned (.bool true) ∧ Below w.heap.size w w' := by
  have hd' := hd
  obtain ⟨kv, tv, sv, rfl, _, _, _⟩ := hd'
  have hW : ∀ W, W = (w.alloc (.cells #[.int .i64 d.tree.sy, .int .i64 d.tree.pr, kv, tv, sv] 28)).alloc (.cells #[.int .u8 x, .int .u8 y, .int .u8 z] 105) → Below w.heap.size w W ∧
      W.heap[w.heap.size]? = some (.cells #[.int .i64 d.tree.sy, .int .i64 d.tree.pr, kv, tv, sv] 28 (0, 0)) ∧ W.heap[w.heap.size + 1]? = some (.cells #[.int .u8 x, .int .u8 y, .int .u8 z] 105 (0, 0)) := by
    rintro W rfl
    exact ⟨((Below.refl _ _).alloc (Nat.le_refl _) _).alloc (by simp) _, by rw [Below.heap_alloc _ _ _ (by simp)]; exact heap_alloc_new _ _, heap_new2 _ _ _⟩
  have HW := Lib.hid hW
  have HD := Lib.hid hd
  clear hW hd
  go_enter Try.func16, Try.ntmps16
  apply wp_seq_k
  intro K1 k1
  have H1 := Lib.hid k1
  clear k1
  go_wp2_with fail
  refine H1.out _ _ ?_
  clear H1 K1
  obtain ⟨hB, hx2, hx3⟩ := HW.out _ rfl
  generalize (w.alloc (.cells #[.int .i64 d.tree.sy, .int .i64 d.tree.pr, kv, tv, sv] 28)).alloc (.cells #[.int .u8 x, .int .u8 y, .int .u8 z] 105) = W at *
  have y0 : ∀ s : Sb W, s.w.cell? ⟨w.heap.size + 1, 0, none⟩ = some (.int .u8 x) := fun s => s.cell (cell_of_heap hx3 rfl)
  have y1 : ∀ s : Sb W, s.w.cell? ⟨w.heap.size + 1, 1, none⟩ = some (.int .u8 y) := fun s => s.cell (cell_of_heap hx3 rfl)
  have y2 : ∀ s : Sb W, s.w.cell? ⟨w.heap.size + 1, 2, none⟩ = some (.int .u8 z) := fun s => s.cell (cell_of_heap hx3 rfl)
  apply wp_seq_k
  intro K1 k1
  have H1 := Lib.hid k1
  clear k1
  refine wp_region_sb (by kernel_rfl) (by kernel_rfl) ?_
  repeat (go_big_quiet_step (fail))
  refine wpQuiet_nil ?_
  intro s0
  have hB0 := s0.below
  clear y0 y1 y2 HW
  replace hB := hB.trans (hB0.mono hB.size)
  replace hx2 := (hB0.block _ (Array.getElem?_eq_some_iff.1 hx2).1).trans hx2
  clear hx3 hB0
  generalize s0.w = W1 at *
  clear s0 W
  rename World => W
  refine H1.out _ _ ?_
  clear H1 K1
  have p0 : W.cell? ⟨w.heap.size, 0, none⟩ = some (.int .i64 d.tree.sy) := cell_of_heap hx2 rfl
  have p1 : W.cell? ⟨w.heap.size, 1, none⟩ = some (.int .i64 d.tree.pr) := cell_of_heap hx2 rfl
  have p2 : W.cell? ⟨w.heap.size, 2, none⟩ = some kv := cell_of_heap hx2 rfl
  have p3 : W.cell? ⟨w.heap.size, 3, none⟩ = some tv := cell_of_heap hx2 rfl
  have p4 : W.cell? ⟨w.heap.size, 4, none⟩ = some sv := cell_of_heap hx2 rfl
  have hgr := great19 w.heap.size d _ W (HD.out.keep hB) hB.size
  have hX : ∀ wx, Below W.heap.size W wx → wx.heap[w.heap.size]? = some (.cells #[.int .i64 d.tree.sy, .int .i64 d.tree.pr, kv, tv, sv] 28 (0, 0)) := fun wx hb =>
    (hb.block _ (Array.getElem?_eq_some_iff.1 hx2).1).trans hx2
  have HX := Lib.hid hX
  clear hx2 hX
  cases hg : d.great with
  | true =>
    rw [hg] at hgr
    go_wp2_with (first | (go_at_call 19; refine hgr.mono ?_; rintro e w1 ⟨rfl, hb1⟩) | (go_at_call 20; refine (lives22 _).mono ?_; rintro e w2 ⟨rfl, hb2⟩))
    go_ret
    exact ⟨rfl, hB.trans ((hb1.trans (hb2.mono hb1.size)).mono hB.size)⟩
  | false =>
    rw [hg] at hgr
    have hcnt : d.tree.cnt ≤ 60 := by unfold Dt.great at hg; simpa using hg
    apply wp_seq_k
    intro K1 k1
    have H1 := Lib.hid k1
    clear k1
    go_wp2_with (first | (go_at_call 19; refine hgr.mono ?_; rintro e w1 ⟨rfl, hb1⟩))
    refine H1.out _ _ ?_
    clear H1 K1 hgr p0 p1 p2 p3 p4
    have hx1 := HX.out _ hb1
    have p0 : w1.cell? ⟨w.heap.size, 0, none⟩ = some (.int .i64 d.tree.sy) := cell_of_heap hx1 rfl
    have p1 : w1.cell? ⟨w.heap.size, 1, none⟩ = some (.int .i64 d.tree.pr) := cell_of_heap hx1 rfl
    have p2 : w1.cell? ⟨w.heap.size, 2, none⟩ = some kv := cell_of_heap hx1 rfl
    have p3 : w1.cell? ⟨w.heap.size, 3, none⟩ = some tv := cell_of_heap hx1 rfl
    have p4 : w1.cell? ⟨w.heap.size, 4, none⟩ = some sv := cell_of_heap hx1 rfl
    clear hx1
    have hBW := hB.trans (hb1.mono hB.size)
    have hbt := built_any w.heap.size d _ w1 (HD.out.keep hBW) hBW.size (by omega)
    rcases hr : d.bld with er | pn
    · have hq : ∀ x : Int, x ≠ 0 → (x == 0) = false := fun x h => beq_eq_false_iff_ne.2 h
      have HQ := Lib.hid hq
      have HR := Lib.hid hr
      clear hq hr
      go_wp2_with (first
        | (go_at_call 21; refine hbt.mono ?_; rintro e w2 hsay; obtain ⟨hb2, hx0, rfl⟩ := hsay.err HR.out; have hq := HQ.out _ hx0; have hbx := hb1.trans (hb2.mono hb1.size))
        | (go_at_call 20; refine (lives22 _).mono ?_; rintro e w4 ⟨rfl, hb4⟩))
      go_ret
      exact ⟨rfl, hB.trans ((hbx.trans (hb4.mono hbx.size)).mono hB.size)⟩
    · have HR := Lib.hid hr
      clear hr
      apply wp_seq_k
      intro K1 k1
      have H1 := Lib.hid k1
      clear k1
      go_wp2_with (first
        | (go_at_call 21; refine hbt.mono ?_; rintro e w2 hsay; obtain ⟨hb2, n, rfl, rfl, hin, hwf, hht, hcn, _⟩ := hsay.ok HR.out))
      refine H1.out _ _ ?_
      clear H1 K1 hbt p0 p1 p2 p3 p4
      have hbx := hb1.trans (hb2.mono hb1.size)
      have hok := Nd.WF.ok n hwf
      have hh : n.ht ≤ 1000000 := by omega
      have hc3 : n.cnt ≤ 1000 := by omega
      have t1 := hok.tk1
      have t2 := hok.tk2
      have HTK := Lib.hid (fun W' (hW : Below w2.heap.size w2 W') => tokens_some n W' (hin.below hW))
      have hwT : IntKind.i64.wrap (n.tk + 1) = n.tk + 1 := by rw [IntKind.wrap_i64]; omega
      have hwx : IntKind.i64.wrap x = x := by rw [IntKind.wrap_i64]; omega
      have hwy : IntKind.i64.wrap y = y := by rw [IntKind.wrap_i64]; omega
      have hwz : IntKind.i64.wrap z = z := by rw [IntKind.wrap_i64]; omega
      have hz1 : ((n.tk + 1) == 0) = false := beq_eq_false_iff_ne.2 (by omega)
      have hz2 : ¬ (n.tk + 1 = 0) := by omega
      obtain ⟨A, hA⟩ : ∃ A : Nat, x % (n.tk + 1) = (A : Int) := ⟨(x % (n.tk + 1)).toNat, by have := Int.emod_nonneg x hz2; omega⟩
      have hA1 : (A : Int) ≤ n.tk := by have := Int.emod_lt_of_pos x (show (0 : Int) < n.tk + 1 by omega); omega
      have hz3 : ((n.tk - (A : Int) + 1) == 0) = false := beq_eq_false_iff_ne.2 (by omega)
      have hz4 : ¬ (n.tk - (A : Int) + 1 = 0) := by omega
      obtain ⟨B, hB'⟩ : ∃ B : Nat, y % (n.tk - (A : Int) + 1) = (B : Int) := ⟨(y % (n.tk - (A : Int) + 1)).toNat, by have := Int.emod_nonneg y hz4; omega⟩
      have hB1 : (B : Int) ≤ n.tk - A := by have := Int.emod_lt_of_pos y (show (0 : Int) < n.tk - (A : Int) + 1 by omega); omega
      obtain ⟨C, hC⟩ : ∃ C : Nat, z % 5 = (C : Int) := ⟨(z % 5).toNat, by omega⟩
      have hC1 : C ≤ 4 := by omega
      obtain ⟨t, ht⟩ : ∃ t : Nat, t = A + B + C := ⟨_, rfl⟩
      have hw1 : IntKind.i64.wrap (n.tk - (A : Int)) = n.tk - A := by rw [IntKind.wrap_i64]; omega
      have hw2 : IntKind.i64.wrap (n.tk - (A : Int) + 1) = n.tk - A + 1 := by rw [IntKind.wrap_i64]; omega
      have hw3 : IntKind.i64.wrap ((A : Int) + (B : Int)) = (A : Int) + B := by rw [IntKind.wrap_i64]; omega
      have hw4 : IntKind.i64.wrap ((A : Int) + (B : Int) + (C : Int)) = (t : Int) := by rw [IntKind.wrap_i64]; omega
      unfold Nd.ptr at HTK ⊢
      go_upto_region 11 with (first
        | (go_at_call 24; refine (HTK.out _ (Below.refl _ _)).mono ?_; rintro e w3 ⟨rfl, hb3⟩))
      have htI : (A : Int) + (B : Int) + (C : Int) = (t : Int) := by omega
      rw [hA, hB', htI]
      have hc : CurOk n.tk A B t := ⟨t1, t2, by omega, by omega, by omega, by omega, by omega, by omega, by omega⟩
      have hAB : A + B ≤ t := by omega
      have HNEW := Lib.hid (cnew_ok n A B t w3 (hin.below hb3) hc)
      have hltk := tk_leaves hwf
      have HIN := Lib.hid hin
      have HWF := Lib.hid hwf
      have HC := Lib.hid hc
      have HL := Lib.hid hltk
      have hA2 : A ≤ n.plain.leaves.length := by omega
      have hB2 : B ≤ n.plain.leaves.length - A := by omega
      have hl6 : n.plain.leaves.length ≤ 262144 := by omega
      have hAt : A ≤ t := by omega
      have hBt : B ≤ t := by omega
      have ht6 : t ≤ 300000 := by omega
      clear hA hB' hC ht htI hw1 hw2 hw3 hw4 hz3 hz4 hwT hwx hwy hwz hz2 hltk hc hok hA1 hB1 hC1
      unfold Nd.ptr at HNEW
      go_wp2_with (first
        | (go_at_call 22; refine HNEW.out.mono ?_; rintro e w4 ⟨g4, rfl, hg4, hl4, hb4⟩; have HG4 := Lib.hid hg4; clear hg4))
      have hb24 := hb3.trans (hb4.mono hb3.size)
      go_loopw [16, 17] (fun v kv wx => ∃ k : Nat, kv = .int .i64 k ∧ k ≤ t ∧ wx.ownsRow w4.heap.size 72 3 v (cov n.plain.leaves A B t k).length ((cov n.plain.leaves A B t k).flatMap tokC) ∧ Below w4.heap.size w4 wx) (fun _ kv _ => t - (intOf kv).toNat)
      case atStart =>
        refine ⟨0, rfl, by omega, ?_, Below.refl _ _⟩
        have h0 : cov n.plain.leaves A B t 0 = [] := by unfold cov; rw [Nat.min_zero, List.take_zero, Nat.zero_sub, List.take_zero]; rfl
        rw [h0]
        exact World.ownsRow_nil _ _ _ _
      case round =>
        obtain ⟨k, rfl, hk, hrow, hbr⟩ := hrel
        by_cases hkt : k < t
        · have hat := at_any g4 n A B t k wr (HIN.out.below (hb24.trans (hbr.mono hb24.size))) HWF.out hh ((hbr.block g4 (Array.getElem?_eq_some_iff.1 HG4.out).1).trans HG4.out) HC.out
          obtain ⟨vA, vC, hvv⟩ := row_any hrow
          subst hvv
          have hk0 : (0 : Int) ≤ (k : Int) := Int.natCast_nonneg _
          have hktI : (k : Int) < (t : Int) := by omega
          have hwtb : IntKind.i64.wrap ((t : Int) - (B : Int)) = (t : Int) - B := by rw [IntKind.wrap_i64]; omega
          have hwtk : IntKind.i64.wrap ((t : Int) - (k : Int)) = (t : Int) - k := by rw [IntKind.wrap_i64]; omega
          have hwk1 : IntKind.i64.wrap ((k : Int) + 1) = ((k + 1 : Nat) : Int) := by rw [IntKind.wrap_i64]; omega
          have HROW := Lib.hid hrow
          clear hrow
          rcases cov_step HWF.out HC.out hAB hkt with ⟨m, l, hm, hcond, m1, m2, hcv, hmt⟩ | ⟨hm, hcond, hcv⟩
          · have hmem : m ∈ atC n A B t k := by rw [hm]; simp
            have hall : m.In w2 ∧ m.WF ∧ m.cnt ≤ 1000 := by
              unfold atC at hmem
              split at hmem
              · exact ⟨atN_all (p := fun q => q.In w2) (fun q hq => hq.head.2.2) _ _ _ _ n HIN.out 0 m hmem, atN_all (p := fun q => q.WF) (fun q hq => hq.kid) _ _ _ _ n HWF.out 0 m hmem,
                  atN_all (p := fun q => q.cnt ≤ 1000) (fun q hq k hk => by have := cnt_mem hk; have := Nd.cnt_eq q; omega) _ _ _ _ n hc3 0 m hmem⟩
              · simp at hmem
            rw [hm] at hat
            have HTM := Lib.hid (fun W' (hW : Below w2.heap.size w2 W') => tokens_some m W' (hall.1.below hW))
            have HLM := Lib.hid (fun W' (hW : Below w2.heap.size w2 W') => leaves_is m W' (hall.1.below hW) hall.2.1 hall.2.2)
            have hwkm : IntKind.i64.wrap ((k : Int) + m.tk) = ((k + m.tk.toNat : Nat) : Int) := by rw [IntKind.wrap_i64]; omega
            have HCV := Lib.hid hcv
            have e1 : decide (m.tk < 1) = false := decide_eq_false (by omega)
            have e2 : decide ((t : Int) - k < m.tk) = false := decide_eq_false (by omega)
            have hb2r := hb24.trans (hbr.mono hb24.size)
            have HMT := Lib.hid hmt
            have hml : m.plain.leaves.length ≤ 300000 := by omega
            clear hm hcond hcv hmem hall hmt
            unfold Nd.ptr at HTM HLM
            have hcl : (cov n.plain.leaves A B t k).length ≤ 600000 := by unfold cov; rw [List.length_append, List.length_take, List.length_take, List.length_drop]; omega
            have e3 : (((l.length + 1 : Nat) : Int) == 0) = false := beq_eq_false_iff_ne.2 (by omega)
            have e4 : (((l.length : Int) + 1) == 0) = false := beq_eq_false_iff_ne.2 (by omega)
            have e5 : (0 : Int) < (l.length : Int) + 1 := by omega
            have tok1 : ∀ x ∈ m.plain.leaves.flatMap tokC, x.oneCell' = true := by
              intro x hx
              obtain ⟨q, _, hq⟩ := List.mem_flatMap.1 hx
              simp [tokC] at hq
              rcases hq with rfl | rfl | rfl <;> rfl
            go_wp2_with (first
              | (go_at_call 27; refine hat.mono ?_; rintro e w11 ⟨v11, rfl, hr11, hb11⟩; obtain ⟨A11, c11, rfl, hc11⟩ := ownsRow_any hr11; obtain ⟨g11, hA11, hge11, _, hql⟩ := hc11 0 m.ptr rfl; subst hA11; unfold Nd.ptr at hql; clear hc11 hr11; have hb2c := hb2r.trans (hb11.mono hb2r.size); have hbc := hbr.trans (hb11.mono hbr.size); have hrc := hb11)
              | (go_at_call 24; have r14 := R14.out; refine (HTM.out _ hb2c).mono ?_; rintro e w15 ⟨rfl, hb15⟩; clear r14)
              | (go_at_call 24; refine (HTM.out _ hb2c).mono ?_; rintro e w12 ⟨rfl, hb12⟩; have hql := (hb12.cell (p := ⟨g11, _, none⟩) (World.block_lt_of_cell? _ _ hql)).trans hql; replace hb2c := hb2c.trans (hb12.mono hb2c.size); replace hbc := hbc.trans (hb12.mono hbc.size); replace hrc := hrc.trans (hb12.mono hrc.size))
              | (go_at_call 42; refine (HLM.out _ hb2c).mono ?_; rintro e w13 ⟨v13, rfl, _, hr13, hb13⟩; have hql := (hb13.cell (p := ⟨g11, _, none⟩) (World.block_lt_of_cell? _ _ hql)).trans hql; replace hb2c := hb2c.trans (hb13.mono hb2c.size); replace hbc := hbc.trans (hb13.mono hbc.size); replace hrc := hrc.trans (hb13.mono hrc.size))
              | (at_builtin; refine wpList_spread rfl (.tmp 108) (.tmp 112) 25 rfl 72 _ 3 24 info72 Try.underlying25 rfl (by decide) w4.heap.size _ _ _ rfl (ownsRow_of_block HROW.out (fun q hq => hrc.block q (HROW.out.lt q hq).2)) _ _ _ _ rfl hr13 tok1 (by omega) (by omega) hbc.size ?_; intro A14 c14 w14 hr14 hb14 hg14 ha14; have hql := hg14.cell (a := ⟨g11, 0, none⟩) hql (fun h => by have h2 : g11 < wr.heap.size := (HROW.out.lt g11 h.symm).2; have h3 : wr.heap.size ≤ g11 := hge11; omega); replace hb2c := hb2c.trans (hb14.mono hb24.size); have hbd := hbc.trans hb14; have R14 := Lib.hid hr14))
            go_roundw
            case rel =>
              refine ⟨k + m.tk.toNat, by go_num, by omega, ?_, hbd.trans (hb15.mono hbd.size)⟩
              rw [HCV.out, List.length_append, List.flatMap_append]
              exact ownsRow_of_block R14.out (fun q hq => hb15.block q (R14.out.lt q hq).2)
            case measure => simp [intOf]; omega
          · rw [hm] at hat
            have e1 : ¬ (k : Int) < A := fun h => hcond (.inl h)
            have e2 : ¬ (t : Int) - B ≤ k := fun h => hcond (.inr h)
            have HCV := Lib.hid hcv
            clear hm hcond hcv
            go_wp2_with (first
              | (go_at_call 27; refine hat.mono ?_; rintro e w11 ⟨v11, rfl, hr11, hb11⟩; obtain ⟨A11, c11, rfl, _⟩ := ownsRow_any hr11; clear hr11))
            go_roundw
            case rel => exact ⟨k + 1, by go_num, by omega, by rw [HCV.out]; exact ownsRow_of_block HROW.out (fun q hq => hb11.block q (HROW.out.lt q hq).2), hbr.trans (hb11.mono hbr.size)⟩
            case measure => simp [intOf]; omega
        · obtain rfl : k = t := by omega
          rw [cov_end hAt (by omega) hBt] at hrow
          obtain ⟨G, hG⟩ : ∃ G, n.plain.leaves.take A ++ n.plain.leaves.drop (n.plain.leaves.length - B) = G := ⟨_, rfl⟩
          have hGl : G.length = A + B := by rw [← hG, List.length_append, List.length_take, List.length_drop]; omega
          have hG1 : G.take A = n.plain.leaves.take A := by rw [← hG, List.take_append_of_le_length (by rw [List.length_take]; omega), List.take_take, Nat.min_self]
          have hG2 : G.drop A = n.plain.leaves.drop (n.plain.leaves.length - B) := by rw [← hG, List.drop_append_of_le_length (by rw [List.length_take]; omega), List.drop_of_length_le (by rw [List.length_take]; omega), List.nil_append]
          rw [hG] at hrow
          have HLN := Lib.hid (leaves_is n wr (HIN.out.below (hb24.trans (hbr.mono hb24.size))) HWF.out hc3)
          have hrowG : wr.ownsRow w4.heap.size 72 3 _ G.length (G.flatMap tokC) := hrow
          obtain ⟨V1, hs1, hf1⟩ := slice_front hrowG (a := A) (by omega)
          obtain ⟨V3, hs3, hf3⟩ := slice_back hrowG (a := A) (by omega)
          rw [hG1] at hf1
          rw [hG2] at hf3
          have HF1 := Lib.hid hf1
          have HF3 := Lib.hid hf3
          obtain ⟨vA, vC, hvv⟩ := row_any hrow
          subst hvv
          have hkk : ¬ (k : Int) < (k : Int) := by omega
          have e1 : ((n.plain.leaves.length : Int) != n.tk) = false := by rw [show n.tk = (n.plain.leaves.length : Int) from HL.out]; exact bne_self_eq_false _
          have hwAB : IntKind.i64.wrap ((A : Int) + (B : Int)) = (A : Int) + B := by rw [IntKind.wrap_i64]; omega
          have e2 : ((G.length : Int) != (A : Int) + (B : Int)) = false := by rw [show (G.length : Int) = (A : Int) + B by omega]; exact bne_self_eq_false _
          obtain ⟨q, hq⟩ : ∃ q : Nat, q = n.plain.leaves.length - B := ⟨_, rfl⟩
          have hwq : IntKind.i64.wrap (n.tk - (B : Int)) = (q : Int) := by have := HL.out; rw [IntKind.wrap_i64]; omega
          have hq0 : n.plain.leaves.drop (n.plain.leaves.length - B) = n.plain.leaves.drop q := by rw [hq]
          rw [hq0] at hf3
          have HF3 := Lib.hid hf3
          have hqle : q ≤ n.plain.leaves.length := by omega
          have HS1 := Lib.hid hs1
          have HS3 := Lib.hid hs3
          have hGAB : G.length = A + B := hGl
          clear hG hG1 hG2 hrow hkt hf1 hf3 hs1 hs3 hrowG hq hq0
          unfold Nd.ptr at HLN
          have hb2r := hb24.trans (hbr.mono hb24.size)
          go_upto_region 29 with (first
            | (go_at_call 42; refine HLN.out.mono ?_; rintro e w5 ⟨v5, rfl, ht5, hr5, hb5⟩; obtain ⟨V2, hs2, hf2⟩ := slice_front hr5 (a := A) hA2; obtain ⟨V4, hs4, hf4⟩ := slice_back hr5 (a := q) hqle; have HS2 := Lib.hid hs2; have HS4 := Lib.hid hs4; have HF2 := Lib.hid hf2; have HF4 := Lib.hid hf4; obtain ⟨A5, c5, rfl⟩ := row_any hr5; clear ht5 hr5 hs2 hs4 hf2 hf4))
          have hs1 := HS1.out
          have hs2 := HS2.out
          have hs3 := HS3.out
          have hs4 := HS4.out
          rw [hGAB] at hs1 hs3
          have hc1 : ∀ s : Sb w5, Calls Try.prog 50 #[V1, V2] s.w fun e w' => e = .returned (.bool true) ∧ ∃ s' : Sb w5, w' = s'.w := fun s => by
            have h := sameToksO_call V1 V2 _ _ s.w ((HF1.out.keep hb5).keep s.below) (HF2.out.keep s.below) (by rw [List.length_take]; omega) (by rw [List.length_take]; omega)
            rw [decide_eq_true rfl] at h
            exact Calls.sb h
          have hc2 : ∀ s : Sb w5, Calls Try.prog 50 #[V3, V4] s.w fun e w' => e = .returned (.bool true) ∧ ∃ s' : Sb w5, w' = s'.w := fun s => by
            have h := sameToksO_call V3 V4 _ _ s.w ((HF3.out.keep hb5).keep s.below) (HF4.out.keep s.below) (by rw [List.length_drop]; omega) (by rw [List.length_drop]; omega)
            rw [decide_eq_true rfl] at h
            exact Calls.sb h
          have HC1 := Lib.hid hc1
          have HC2 := Lib.hid hc2
          clear hc1 hc2 HF1 HF2 HF3 HF4
          refine wp_region_sb (by kernel_rfl) (by kernel_rfl) ?_
          repeat (go_big_quiet_step (first | (go_at_call 50; exact HC1.out _) | (go_at_call 50; exact HC2.out _) | (go_at_call 20; exact Calls.sb (lives22 _))))
          refine wpQuiet_nil ?_
          intro s
          go_wp2_with fail
          go_ret
          exact ⟨rfl, hB.trans ((hbx.trans ((hb2r.trans ((hb5.trans (s.below.mono hb5.size)).mono hb2r.size)).mono hbx.size)).mono hB.size)⟩

end Go.Proofs.Ytcjpmgfobnaoeaa
