/- NodesAdd: the walk. -/
import Derived.Test.YtcjpmgfobnaoeaaA61
import Derived.Test.YtcjpmgfobnaoeaaA45
import Derived.Test.YtcjpmgfobnaoeaaA51
namespace Go.Proofs.Ytcjpmgfobnaoeaa
open Go.RowKit

/-- The tokens of the first visits. -/
def toksT (n : Nd) (i : Nat) : List Tok := ((preN 0 0 n).take i).flatMap tokV
theorem toksT_all {n : Nd} (h : n.WF) : toksT n (preN 0 0 n).length = n.plain.leaves := by unfold toksT; rw [List.take_length]; exact preN_toks n h 0 0
theorem toksT_succ {n : Nd} {i : Nat} (hi : i < (preN 0 0 n).length) : toksT n (i + 1) = toksT n i ++ tokV (preN 0 0 n)[i] := by
  unfold toksT
  rw [List.take_succ_eq_append_getElem hi, List.flatMap_append, List.flatMap_singleton]
theorem pre_split {n : Nd} {i : Nat} (hi : i < (preN 0 0 n).length) : preN 0 0 n = (preN 0 0 n).take i ++ (preN 0 0 n)[i] :: (preN 0 0 n).drop (i + 1) := by
  rw [← drop_cons hi, List.take_append_drop]
theorem toksT_begin {n : Nd} (h : n.WF) {i : Nat} (hi : i < (preN 0 0 n).length) : ((preN 0 0 n)[i]).2.1 = bytesOf (toksT n i) := by
  have := pre_begin n h 0 0 _ _ _ (pre_split hi)
  unfold toksT
  omega
theorem toksT_tok {n : Nd} (h : n.WF) {i : Nat} (hi : i < (preN 0 0 n).length) (hp : ((preN 0 0 n)[i]).1.pr < 0) :
    n.plain.leaves[(toksT n i).length]? = some (((preN 0 0 n)[i]).1.sy, ((preN 0 0 n)[i]).1.ld, ((preN 0 0 n)[i]).1.wd) := by
  have e : (preN 0 0 n).flatMap tokV = n.plain.leaves := preN_toks n h 0 0
  have h2 := congrArg (fun l => l.flatMap tokV) (pre_split hi)
  simp only [List.flatMap_append, List.flatMap_cons] at h2
  rw [e] at h2
  rw [h2]
  have ht : tokV (preN 0 0 n)[i] = [(((preN 0 0 n)[i]).1.sy, ((preN 0 0 n)[i]).1.ld, ((preN 0 0 n)[i]).1.wd)] := by unfold tokV; rw [if_pos hp]
  rw [ht]
  unfold toksT
  simp

theorem nest_spots {n : Nd} (h : n.WF) : Nest st0 (spotsN n) := (nest_pre n h 0 0 st0 (by omega) (by omega) (by show (0 : Int) ≤ -1 + 1; omega) (fun h => by omega)).1
theorem spots_dp {n : Nd} (h : n.WF) (hh : n.ht ≤ 61) {s : Sp} (hs : s ∈ spotsN n) : 0 ≤ s.dp ∧ s.dp ≤ 60 ∧ s.fa ≤ s.fz := by
  have hb := spots_bounds n h hs
  refine ⟨hb.2.2.2.1, ?_, hb.2.1⟩
  unfold spotsN at hs
  obtain ⟨v, hv, rfl⟩ := List.mem_map.1 hs
  have h1 := preN_ht n h 0 0 v hv
  have h2 := (Nd.WF.ok v.1 (preN_in n h 0 0 v hv).wf).ht1
  show v.2.2 ≤ 60
  omega
theorem spot_at {n : Nd} {i : Nat} (hi : i < (spotsN n).length) (hl : i < (preN 0 0 n).length) : (spotsN n)[i] = spotV (preN 0 0 n)[i] := by
  show ((preN 0 0 n).map spotV)[i]'hi = _
  exact List.getElem_map spotV
theorem spots_pos {n : Nd} (i : Nat) (hi : i < (spotsN n).length) (h0 : 0 < i) : 0 < ((spotsN n)[i]).dp := by
  have hl : i < (preN 0 0 n).length := by unfold spotsN at hi; simpa using hi
  rw [spot_at hi hl]
  rcases pre_zero n i hl with ⟨h1, _⟩ | ⟨_, h2⟩
  · omega
  · exact h2

attribute [local irreducible] Calls
set_option maxRecDepth 100000 in
set_option maxHeartbeats 8000000 in
theorem nodesAdd_walk (d : Dt) (v : Value) (w : World) (hd : d.At w.heap.size w v) :
    Calls Try.prog 7 #[v] w fun e w' => e = .returned (.bool true) ∧ Below w.heap.size w w' := by
  have hd' := hd
  obtain ⟨kv, tv, sv, rfl, _, _, _⟩ := hd'
  have hW : ∀ W, W = w.alloc (.cells #[.int .i64 d.tree.sy, .int .i64 d.tree.pr, kv, tv, sv] 28) → Below w.heap.size w W ∧
      W.heap[w.heap.size]? = some (.cells #[.int .i64 d.tree.sy, .int .i64 d.tree.pr, kv, tv, sv] 28 (0, 0)) := by
    rintro W rfl
    exact ⟨below_alloc _ _, heap_alloc_new _ _⟩
  have HW := Lib.hid hW
  have HD := Lib.hid hd
  clear hW hd
  go_enter Try.func7, Try.ntmps7
  apply wp_seq_k
  intro K1 k1
  have H1 := Lib.hid k1
  clear k1
  go_wp2_with fail
  refine H1.out _ _ ?_
  clear H1 K1
  obtain ⟨hB, hx2⟩ := HW.out _ rfl
  generalize w.alloc (.cells #[.int .i64 d.tree.sy, .int .i64 d.tree.pr, kv, tv, sv] 28) = W at *
  have p0 : W.cell? ⟨w.heap.size, 0, none⟩ = some (.int .i64 d.tree.sy) := cell_of_heap hx2 rfl
  have p1 : W.cell? ⟨w.heap.size, 1, none⟩ = some (.int .i64 d.tree.pr) := cell_of_heap hx2 rfl
  have p2 : W.cell? ⟨w.heap.size, 2, none⟩ = some kv := cell_of_heap hx2 rfl
  have p3 : W.cell? ⟨w.heap.size, 3, none⟩ = some tv := cell_of_heap hx2 rfl
  have p4 : W.cell? ⟨w.heap.size, 4, none⟩ = some sv := cell_of_heap hx2 rfl
  have hgr := great29 w.heap.size d _ W (HD.out.keep hB) hB.size
  have hX : ∀ wx, Below W.heap.size W wx → wx.heap[w.heap.size]? = some (.cells #[.int .i64 d.tree.sy, .int .i64 d.tree.pr, kv, tv, sv] 28 (0, 0)) := fun wx hb =>
    (hb.block _ (Array.getElem?_eq_some_iff.1 hx2).1).trans hx2
  have HX := Lib.hid hX
  clear HW hx2 hX
  cases hg : d.great with
  | true =>
    rw [hg] at hgr
    go_wp2_with (first | (go_at_call 29; refine hgr.mono ?_; rintro e w1 ⟨rfl, hb1⟩) | (go_at_call 30; refine (lives20 _).mono ?_; rintro e w2 ⟨rfl, hb2⟩))
    go_ret
    exact ⟨rfl, hB.trans ((hb1.trans (hb2.mono hb1.size)).mono hB.size)⟩
  | false =>
    rw [hg] at hgr
    have hcnt : d.tree.cnt ≤ 60 := by unfold Dt.great at hg; simpa using hg
    apply wp_seq_k
    intro K1 k1
    have H1 := Lib.hid k1
    clear k1
    go_wp2_with (first | (go_at_call 29; refine hgr.mono ?_; rintro e w1 ⟨rfl, hb1⟩))
    refine H1.out _ _ ?_
    clear H1 K1 hgr p0 p1 p2 p3 p4
    have hx1 := HX.out _ hb1
    have p0 : w1.cell? ⟨w.heap.size, 0, none⟩ = some (.int .i64 d.tree.sy) := cell_of_heap hx1 rfl
    have p1 : w1.cell? ⟨w.heap.size, 1, none⟩ = some (.int .i64 d.tree.pr) := cell_of_heap hx1 rfl
    have p2 : w1.cell? ⟨w.heap.size, 2, none⟩ = some kv := cell_of_heap hx1 rfl
    have p3 : w1.cell? ⟨w.heap.size, 3, none⟩ = some tv := cell_of_heap hx1 rfl
    have p4 : w1.cell? ⟨w.heap.size, 4, none⟩ = some sv := cell_of_heap hx1 rfl
    clear hx1
    have hBW := hB.trans (hb1.mono hB.size)
    have hbt := built_any w.heap.size d _ w1 (HD.out.keep hBW) hBW.size (by omega)
    rcases hr : d.bld with x | pn
    · have hq : ∀ x : Int, x ≠ 0 → (x == 0) = false := fun x h => beq_eq_false_iff_ne.2 h
      have HQ := Lib.hid hq
      have HR := Lib.hid hr
      clear hq hr
      go_wp2_with (first
        | (go_at_call 21; refine hbt.mono ?_; rintro e w2 hsay; obtain ⟨hb2, hx0, rfl⟩ := hsay.err HR.out; have hq := HQ.out _ hx0; have hbx := hb1.trans (hb2.mono hb1.size))
        | (go_at_call 30; refine (lives20 _).mono ?_; rintro e w4 ⟨rfl, hb4⟩))
      go_ret
      exact ⟨rfl, hB.trans ((hbx.trans (hb4.mono hbx.size)).mono hB.size)⟩
    · have HR := Lib.hid hr
      clear hr
      apply wp_seq_k
      intro K1 k1
      have H1 := Lib.hid k1
      clear k1
      go_wp2_with (first
        | (go_at_call 21; refine hbt.mono ?_; rintro e w2 hsay; obtain ⟨hb2, n, rfl, rfl, hin, hwf, hht, hcn, _⟩ := hsay.ok HR.out))
      refine H1.out _ _ ?_
      clear H1 K1 hbt p0 p1 p2 p3 p4
      have hbx := hB.trans ((hb1.trans (hb2.mono hb1.size)).mono hB.size)
      have hok := Nd.WF.ok n hwf
      have hc3 : n.cnt ≤ 1000 := by omega

      have hl := tk_leaves hwf
      have hplen := preN_len n 0 0
      have tk2 := hok.tk2
      have bt0 := hok.bt0
      have bt1 := hok.bt1
      have HLV := Lib.hid (fun W (hW : Below w2.heap.size w2 W) => leaves_is n W (hin.below hW) hwf hc3)
      have HSP := Lib.hid (fun W (hW : Below w2.heap.size w2 W) => spots_call n W (hin.below hW) hwf hc3)
      have HBY := Lib.hid (fun W (hW : Below w2.heap.size w2 W) => bytes_some n W (hin.below hW))
      have HTK := Lib.hid (fun W (hW : Below w2.heap.size w2 W) => tokens_some n W (hin.below hW))
      have HWF := Lib.hid hwf
      have hht61 : n.ht ≤ 61 := by have := ht_le_cnt n hwf; omega
      have hspl : (spotsN n).length = (preN 0 0 n).length := by unfold spotsN; simp
      clear hin hok
      unfold Nd.ptr at HLV HSP HBY HTK ⊢
      go_wp2_with (first
        | (go_at_call 42; refine (HLV.out _ (Below.refl _ _)).mono ?_; rintro e w3 ⟨v3, rfl, ht3, _, hb3⟩; have T3 := Lib.hid ht3; clear ht3)
        | (go_at_call 31; refine (HSP.out _ hb3).mono ?_; rintro e w4 ⟨v4, rfl, hr4, hb4⟩; have S4 := Lib.hid (SpotsAt.of_row hr4); clear hr4))
      obtain ⟨A3, c3, hv3, hc3'⟩ := T3.out
      obtain ⟨A4, c4, hv4, hc4'⟩ := S4.out
      subst hv3
      subst hv4
      have HC3 := Lib.hid hc3'
      have HC4 := Lib.hid hc4'
      have hb24 := hb3.trans (hb4.mono hb3.size)
      clear hc3' hc4'
      have HL := Lib.hid hl
      have HPL := Lib.hid hplen
      have HSL := Lib.hid hspl
      clear hl hplen hspl
      go_loopw [6, 7, 9] (fun av kv iv wx => ∃ (i k : Nat) (a0 : Int), av = .int .i64 a0 ∧ kv = .int .i64 k ∧ iv = .int .i64 i ∧ i ≤ (preN 0 0 n).length ∧ Below w4.heap.size w4 wx ∧ Hid (a0 = bytesOf (toksT n i) ∧ k = (toksT n i).length)) (fun _ _ iv _ => (preN 0 0 n).length - (intOf iv).toNat)
      case atStart => exact ⟨0, 0, 0, rfl, rfl, rfl, by omega, Below.refl _ _, rfl, rfl⟩
      case round =>
        obtain ⟨i, k, a0, rfl, rfl, rfl, hi, hbr, HI⟩ := hrel
        by_cases hlt : i < (preN 0 0 n).length
        · have hls : i < (spotsN n).length := by rw [HSL.out]; exact hlt
          obtain ⟨g, rfl, lg, q0, q1, q2, q3, q4⟩ := HC4.out i hls
          have hwin := preN_in n HWF.out 0 0 _ (List.getElem_mem hlt)
          have hsp := spot_at hls hlt
          have hbeg := toksT_begin HWF.out hlt
          have htok := fun h => toksT_tok HWF.out hlt h
          have hsucc := toksT_succ hlt
          obtain ⟨x, hx⟩ : ∃ x, (preN 0 0 n)[i] = x := ⟨_, rfl⟩
          rw [hx] at hwin hsp hbeg htok hsucc
          obtain ⟨p, hp⟩ : ∃ p, (spotsN n)[i] = p := ⟨_, rfl⟩
          rw [hp] at q0 q1 q2 q3 q4 hsp
          have s0 : p.sy = x.1.sy := by rw [hsp]; rfl
          have s1 : p.pr = x.1.pr := by rw [hsp]; rfl
          have s2 : p.fa = if x.2.2 = 0 then 0 else x.2.1 + x.1.ld := by rw [hsp]; rfl
          have s3 : p.fz = x.2.1 + x.1.bt := by rw [hsp]; rfl
          have s4 : p.dp = x.2.2 := by rw [hsp]; rfl
          have hxok := Nd.WF.ok x.1 hwin.wf
          have g0 := hwin.ge
          have g1 := hwin.le
          have g2 := hwin.dp
          have l0 := hxok.ld0
          have l1 := hxok.wd0
          have l2 := hxok.bt0
          obtain ⟨ha0, hk0⟩ := HI.out
          have ilen : i < 1000000 := by have := HPL.out; omega
          have hltI : (i : Int) < ((spotsN n).length : Int) := by omega
          have hi0 : (0 : Int) ≤ (i : Int) := Int.natCast_nonneg _
          have hwi1 : IntKind.i64.wrap ((i : Int) + 1) = ((i + 1 : Nat) : Int) := by rw [IntKind.wrap_i64]; omega
          have c0 : wr.cell? ⟨g, i * 5, none⟩ = some (.int .i64 p.sy) := (hbr.cell (p := ⟨g, _, none⟩) lg).trans q0
          have c1 : wr.cell? ⟨g, i * 5 + 1, none⟩ = some (.int .i64 p.pr) := (hbr.cell (p := ⟨g, _, none⟩) lg).trans q1
          have c2 : wr.cell? ⟨g, i * 5 + 2, none⟩ = some (.int .i64 p.fa) := (hbr.cell (p := ⟨g, _, none⟩) lg).trans q2
          have c3 : wr.cell? ⟨g, i * 5 + 3, none⟩ = some (.int .i64 p.fz) := (hbr.cell (p := ⟨g, _, none⟩) lg).trans q3
          have c4 : wr.cell? ⟨g, i * 5 + 4, none⟩ = some (.int .i64 p.dp) := (hbr.cell (p := ⟨g, _, none⟩) lg).trans q4
          clear q0 q1 q2 q3 q4
          by_cases hpr : x.1.pr < 0
          · have htk := htok hpr
            have hkl : k < n.plain.leaves.length := by rw [hk0]; exact (List.getElem?_eq_some_iff.1 htk).1
            have hlk : n.plain.leaves[k] = (x.1.sy, x.1.ld, x.1.wd) := by
              rw [← hk0, List.getElem?_eq_getElem hkl] at htk
              exact Option.some.inj htk
            have hbt : x.1.bt = x.1.ld + x.1.wd := by
              rcases hwin.wf.cases with ⟨_, _, _, _, h5, _⟩ | ⟨h1, _⟩
              · exact h5
              · omega
            have htv : tokV x = [(x.1.sy, x.1.ld, x.1.wd)] := by unfold tokV; rw [if_pos hpr]
            have hnext : p.fz = bytesOf (toksT n (i + 1)) ∧ k + 1 = (toksT n (i + 1)).length := by
              rw [hsucc, htv, bytesOf_append, List.length_append]
              refine ⟨?_, by simp [hk0]⟩
              have : bytesOf [(x.1.sy, x.1.ld, x.1.wd)] = x.1.ld + x.1.wd := by simp [bytesOf]
              omega
            obtain ⟨g3, rfl, lg3, t0, t1, t2⟩ := HC3.out k hkl
            rw [hlk] at t0 t1 t2
            simp only [] at t0 t1 t2
            rw [← s0] at t0
            obtain ⟨ld, hld⟩ : ∃ ld, x.1.ld = ld := ⟨_, rfl⟩
            obtain ⟨wd, hwd⟩ : ∃ wd, x.1.wd = wd := ⟨_, rfl⟩
            rw [hld] at t1 l0 s2 hbt
            rw [hwd] at t2 l1 hbt
            have hb4r := hb4.trans (hbr.mono hb4.size)
            have u0 : wr.cell? ⟨g3, k * 3, none⟩ = some (.int .i64 p.sy) := (hb4r.cell (p := ⟨g3, _, none⟩) lg3).trans t0
            have u1 : wr.cell? ⟨g3, k * 3 + 1, none⟩ = some (.int .i64 ld) := (hb4r.cell (p := ⟨g3, _, none⟩) lg3).trans t1
            have u2 : wr.cell? ⟨g3, k * 3 + 2, none⟩ = some (.int .i64 wd) := (hb4r.cell (p := ⟨g3, _, none⟩) lg3).trans t2
            have e1 : decide (0 ≤ p.pr) = false := decide_eq_false (by omega)
            have e2 : ((k : Int) == (n.plain.leaves.length : Int)) = false := beq_eq_false_iff_ne.2 (by omega)
            have e3 : (k == n.plain.leaves.length) = false := beq_eq_false_iff_ne.2 (by omega)
            have kI : (k : Int) < (n.plain.leaves.length : Int) := by omega
            have kO : (0 : Int) ≤ (k : Int) := Int.natCast_nonneg _
            have hwk : IntKind.i64.wrap (k : Int) = (k : Int) := by rw [IntKind.wrap_i64]; have := HL.out; omega
            have hwi : IntKind.i64.wrap (i : Int) = (i : Int) := by rw [IntKind.wrap_i64]; omega
            have hwk1 : IntKind.i64.wrap ((k : Int) + 1) = ((k + 1 : Nat) : Int) := by rw [IntKind.wrap_i64]; have := HL.out; omega
            have w1 : IntKind.i64.wrap (a0 + ld) = a0 + ld := by rw [IntKind.wrap_i64]; omega
            have w2' : IntKind.i64.wrap (a0 + ld + wd) = a0 + ld + wd := by rw [IntKind.wrap_i64]; omega
            have z2 : (p.fz != a0 + ld + wd) = false := by rw [show p.fz = a0 + ld + wd by omega]; exact bne_self_eq_false _
            have z3 : (p.sy != p.sy) = false := bne_self_eq_false _
            have hp1 : p.pr < 0 := by omega
            have HNX := Lib.hid hnext
            by_cases hdp : 0 < p.dp
            · have e5 : decide (0 < p.dp) = true := decide_eq_true hdp
              have z1 : (p.fa != a0 + ld) = false := by
                rw [if_neg (by omega)] at s2
                rw [show p.fa = a0 + ld by omega]; exact bne_self_eq_false _
              clear ha0 hk0 s0 s1 s2 s3 s4 hbeg htok hsucc hsp hp hx hpr htk hlk hbt htv hnext hld hwd t0 t1 t2 hls HI hwin hxok
              go_upto_region 14 with (fail)
              have m0 : ∀ y : Sb wr, y.w.cell? ⟨g, i * 5, none⟩ = some (.int .i64 p.sy) := fun y => y.cell c0
              have m1 : ∀ y : Sb wr, y.w.cell? ⟨g, i * 5 + 1, none⟩ = some (.int .i64 p.pr) := fun y => y.cell c1
              have m2 : ∀ y : Sb wr, y.w.cell? ⟨g, i * 5 + 2, none⟩ = some (.int .i64 p.fa) := fun y => y.cell c2
              have m3 : ∀ y : Sb wr, y.w.cell? ⟨g, i * 5 + 3, none⟩ = some (.int .i64 p.fz) := fun y => y.cell c3
              have m4 : ∀ y : Sb wr, y.w.cell? ⟨g, i * 5 + 4, none⟩ = some (.int .i64 p.dp) := fun y => y.cell c4
              have r0 : ∀ y : Sb wr, y.w.cell? ⟨g3, k * 3, none⟩ = some (.int .i64 p.sy) := fun y => y.cell u0
              have r1 : ∀ y : Sb wr, y.w.cell? ⟨g3, k * 3 + 1, none⟩ = some (.int .i64 ld) := fun y => y.cell u1
              have r2 : ∀ y : Sb wr, y.w.cell? ⟨g3, k * 3 + 2, none⟩ = some (.int .i64 wd) := fun y => y.cell u2
              refine wp_region_sb (by kernel_rfl) (by kernel_rfl) ?_
              repeat (go_big_quiet_step (fail))
              refine wpQuiet_nil ?_
              intro y
              have c3' := m3 y
              have hby := hbr.trans (y.below.mono hbr.size)
              clear m0 m1 m2 m3 m4 r0 r1 r2 c0 c1 c2 c3 c4
              generalize y.w = w14 at *
              go_wp2_with fail
              go_roundw
              case rel => exact ⟨i + 1, k + 1, p.fz, rfl, by go_num, by go_num, by omega, hby, HNX.out⟩
              case measure => simp [intOf]; omega
            · have e5 : decide (0 < p.dp) = false := decide_eq_false hdp
              clear ha0 hk0 s0 s1 s2 s3 s4 hbeg htok hsucc hsp hp hx hpr htk hlk hbt htv hnext hld hwd t0 t1 t2 hls HI hwin hxok
              go_upto_region 14 with (fail)
              have m0 : ∀ y : Sb wr, y.w.cell? ⟨g, i * 5, none⟩ = some (.int .i64 p.sy) := fun y => y.cell c0
              have m1 : ∀ y : Sb wr, y.w.cell? ⟨g, i * 5 + 1, none⟩ = some (.int .i64 p.pr) := fun y => y.cell c1
              have m2 : ∀ y : Sb wr, y.w.cell? ⟨g, i * 5 + 2, none⟩ = some (.int .i64 p.fa) := fun y => y.cell c2
              have m3 : ∀ y : Sb wr, y.w.cell? ⟨g, i * 5 + 3, none⟩ = some (.int .i64 p.fz) := fun y => y.cell c3
              have m4 : ∀ y : Sb wr, y.w.cell? ⟨g, i * 5 + 4, none⟩ = some (.int .i64 p.dp) := fun y => y.cell c4
              have r0 : ∀ y : Sb wr, y.w.cell? ⟨g3, k * 3, none⟩ = some (.int .i64 p.sy) := fun y => y.cell u0
              have r1 : ∀ y : Sb wr, y.w.cell? ⟨g3, k * 3 + 1, none⟩ = some (.int .i64 ld) := fun y => y.cell u1
              have r2 : ∀ y : Sb wr, y.w.cell? ⟨g3, k * 3 + 2, none⟩ = some (.int .i64 wd) := fun y => y.cell u2
              refine wp_region_sb (by kernel_rfl) (by kernel_rfl) ?_
              repeat (go_big_quiet_step (fail))
              refine wpQuiet_nil ?_
              intro y
              have c3' := m3 y
              have hby := hbr.trans (y.below.mono hbr.size)
              clear m0 m1 m2 m3 m4 r0 r1 r2 c0 c1 c2 c3 c4
              generalize y.w = w14 at *
              go_wp2_with fail
              go_roundw
              case rel => exact ⟨i + 1, k + 1, p.fz, rfl, by go_num, by go_num, by omega, hby, HNX.out⟩
              case measure => simp [intOf]; omega
          · have htv : tokV x = [] := by unfold tokV; rw [if_neg hpr]
            have HNX := Lib.hid (show a0 = bytesOf (toksT n (i + 1)) ∧ k = (toksT n (i + 1)).length by rw [hsucc, htv, List.append_nil]; exact ⟨ha0, hk0⟩)
            have hp1 : 0 ≤ p.pr := by omega
            clear ha0 hk0 s0 s1 s2 s3 s4 hbeg htok hsucc hsp hp hx hpr htv hls HI hwin hxok
            go_wp2_with fail
            go_roundw
            case rel => exact ⟨i + 1, k, a0, rfl, rfl, by go_num, by omega, hbr, HNX.out⟩
            case measure => simp [intOf]; omega
        · have hil : i = (preN 0 0 n).length := by omega
          subst hil
          obtain ⟨ha0, hk0⟩ := HI.out
          rw [toksT_all HWF.out] at ha0 hk0
          have hbt : a0 = n.bt := ha0.trans (Nd.WF.adds n HWF.out).2.1.symm
          subst hbt
          subst hk0
          have hz : 0 < (spotsN n).length := by rw [HSL.out, HPL.out, n.cnt_eq]; omega
          obtain ⟨g, rfl, lg, q0, q1, q2, q3, q4⟩ := HC4.out 0 hz
          have h0 : (spotsN n)[0] = ⟨n.sy, n.pr, 0, n.bt, 0⟩ := by
            have h1 := spots_within n
            have h2 := congrArg (fun l => l[0]?) h1
            simpa [List.getElem?_eq_getElem hz] using h2
          rw [h0] at q2 q3
          have c2 : wr.cell? ⟨g, 2, none⟩ = some (.int .i64 0) := (hbr.cell (p := ⟨g, _, none⟩) lg).trans (by simpa using q2)
          have c3 : wr.cell? ⟨g, 3, none⟩ = some (.int .i64 n.bt) := (hbr.cell (p := ⟨g, _, none⟩) lg).trans (by simpa using q3)
          have hge : ¬ (((preN 0 0 n).length : Int) < ((spotsN n).length : Int)) := by rw [HSL.out]; omega
          have e1 : ((n.plain.leaves.length : Int) != n.tk) = false := by rw [show n.tk = (n.plain.leaves.length : Int) by have := HL.out; omega]; exact bne_self_eq_false _
          have e2 : (((spotsN n).length : Int) == 0) = false := beq_eq_false_iff_ne.2 (by omega)
          have e3 : ((spotsN n).length == 0) = false := beq_eq_false_iff_ne.2 (by omega)
          have e4 : (0 : Int) < ((spotsN n).length : Int) := by omega
          have hb2r := hb24.trans (hbr.mono hb24.size)
          have HNE := Lib.hid (fun W (hW : Below w4.heap.size w4 W) => nested_call _ _ W (S4.out.keep hW) (by have := HSL.out; have := HPL.out; omega) (nest_spots HWF.out) (fun s hs => spots_dp HWF.out hht61 hs) (fun i hi h0 => spots_pos i hi h0))
          clear ha0 q0 q1 q2 q3 q4 h0 HI hlt
          go_wp2_with (first
            | (go_at_call 36; refine (HBY.out _ hb2r).mono ?_; rintro e w5 ⟨rfl, hb5⟩; have hb25 := hb2r.trans (hb5.mono hb2r.size); have hb45 := hbr.trans (hb5.mono hbr.size); replace c2 := (hb5.cell (p := ⟨g, _, none⟩) (World.block_lt_of_cell? _ _ c2)).trans c2; replace c3 := (hb5.cell (p := ⟨g, _, none⟩) (World.block_lt_of_cell? _ _ c3)).trans c3)
            | (go_at_call 24; refine (HTK.out _ hb25).mono ?_; rintro e w6 ⟨rfl, hb6⟩; have hb26 := hb25.trans (hb6.mono hb25.size); have hb46 := hb45.trans (hb6.mono hb45.size); replace c2 := (hb6.cell (p := ⟨g, _, none⟩) (World.block_lt_of_cell? _ _ c2)).trans c2; replace c3 := (hb6.cell (p := ⟨g, _, none⟩) (World.block_lt_of_cell? _ _ c3)).trans c3)
            | (go_at_call 43; refine (HNE.out _ hb46).mono ?_; rintro e w7 ⟨rfl, hb7⟩; have hb27 := hb26.trans (hb7.mono hb26.size))
            | (go_at_call 30; refine (lives20 _).mono ?_; rintro e w8 ⟨rfl, hb8⟩; have hb28 := hb27.trans (hb8.mono hb27.size)))
          go_ret
          exact ⟨rfl, hbx.trans (hb28.mono hbx.size)⟩

end Go.Proofs.Ytcjpmgfobnaoeaa
