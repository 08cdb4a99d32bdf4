/- find.Path and find.At. -/
import Derived.Test.YtcjpmgfobnaoeaaA24
namespace Go.Proofs.Ytcjpmgfobnaoeaa
open Go.RowKit

/-- A spot: symbol, production, from, to, depth. -/
structure Sp where
  sy : Int
  pr : Int
  fa : Int
  fz : Int
  dp : Int

def Sp.cells (s : Sp) : List Value := [.int .i64 s.sy, .int .i64 s.pr, .int .i64 s.fa, .int .i64 s.fz, .int .i64 s.dp]
def spots (l : List Sp) : List Value := l.flatMap Sp.cells

mutual
/-- The nodes below a node in whose spans an offset lies. -/
def pathN (at' : Int) (fr d : Int) : Nd → List Sp
  | .mk _ _ _ _ _ _ _ _ _ _ _ _ kids => pathK at' fr d kids
def pathK (at' : Int) (fr d : Int) : List Nd → List Sp
  | [] => []
  | k :: ks => if at' < fr + k.bt then (if at' < fr + k.ld then [] else ⟨k.sy, k.pr, fr + k.ld, fr + k.bt, d⟩ :: pathN at' fr (d + 1) k) else pathK at' (fr + k.bt) d ks
end
theorem pathN_kids (at' fr d : Int) (n : Nd) : pathN at' fr d n = pathK at' fr d n.kids := by cases n; rfl

/-- From a step on. -/
def pathO (at' d : Int) : Option (Nd × Int) → List Sp
  | none => []
  | some (k, f) => if at' < f + k.ld then [] else ⟨k.sy, k.pr, f + k.ld, f + k.bt, d⟩ :: pathN at' f (d + 1) k

theorem pathK_below (at' d : Int) : ∀ (l : List Nd) (fr : Int), pathK at' fr d l = pathO at' d (belowK at' fr l)
  | [], fr => rfl
  | k :: ks, fr => by
    unfold pathK
    rw [belowK_cons]
    by_cases h : at' < fr + k.bt
    · rw [if_pos h, if_pos h]; rfl
    · rw [if_neg h, if_neg h]; exact pathK_below at' d ks (fr + k.bt)
theorem pathN_below (at' fr d : Int) (n : Nd) : pathN at' fr d n = pathO at' d (belowK at' fr n.kids) := by rw [pathN_kids, pathK_below]

theorem belowK_in {at' : Int} {k : Nd} {f : Int} : ∀ {l : List Nd} {fr : Int}, (∀ m ∈ l, 0 ≤ m.bt) → belowK at' fr l = some (k, f) → k ∈ l ∧ fr ≤ f ∧ f + k.bt ≤ fr + sumBt l
  | [], fr, _, h => by simp [belowK] at h
  | m :: ms, fr, h0, h => by
    rw [belowK_cons] at h
    have hm := h0 m (by simp)
    have hs := (sumBt_ge (l := ms) fun x hx => h0 x (by simp [hx])).1
    rw [sumBt_cons]
    split at h
    · simp only [Option.some.injEq, Prod.mk.injEq] at h
      obtain ⟨rfl, rfl⟩ := h
      exact ⟨by simp, by omega, by omega⟩
    · obtain ⟨h1, h2, h3⟩ := belowK_in (l := ms) (fun x hx => h0 x (by simp [hx])) h
      exact ⟨by simp [h1], by omega, by omega⟩

/-- The whole answer. -/
def pathA (n : Nd) (at' : Int) : List Sp := ⟨n.sy, n.pr, 0, n.bt, 0⟩ :: pathN at' 0 1 n

theorem info66 : (Try.prog.info? 66).map (fun i => (i.zero, i.size, i.bytes)) = some (some (.agg #[.int .i64 0, .int .i64 0, .int .i64 0, .int .i64 0, .int .i64 0]), 5, 40) := by kernel_rfl

theorem row_new {w : World} {base g e sz n : Nat} {cs : List Value} (h : w.heap[g]? = some (.cells cs.toArray e (0, 0))) (hb : base ≤ g) (hl : cs.length = n * sz) (hn : n ≤ maxLen) : w.ownsRow base e sz (.slice (some ⟨g, 0, none⟩) n n) n cs := by
  refine ⟨hl, .inr ⟨g, n, cs.toArray, rfl, hb, h, Nat.le_refl _, hn, by simpa using hl, ?_⟩⟩
  rw [← hl]
  simp

theorem row_form {w : World} {base e sz n : Nat} {v : Value} {xs : List Value} (h : w.ownsRow base e sz v n xs) (hn : 0 < n) : ∃ g c, v = .slice (some ⟨g, 0, none⟩) n c := by
  rcases h.2 with ⟨_, h0⟩ | ⟨g, c, cur, h1, _⟩
  · omega
  · exact ⟨g, c, h1⟩

def stepC : Option (Nd × Int) → Array Value
  | none => #[.pointer none, .int .i64 0]
  | some (k, f) => #[.pointer (some ⟨k.b, 0, none⟩), .int .i64 f]

theorem path_nil (at' : Int) (w : World) : Calls Try.prog 40 #[.pointer none, .int .i64 at'] w fun e w' => e = .returned (.tuple #[.slice none 0 0, .int .i64 1]) ∧ Below w.heap.size w w' := by
  go_enter Try.func40, Try.ntmps40
  go_wp2_with (go_at_call 24; refine (tokens_nil _).mono ?_; rintro e w' ⟨rfl, hb⟩)
  go_ret2
  exact ⟨rfl, hb⟩

/-- What Path says of a node. -/
def pathE (n : Nd) (at' : Int) : Option (List Sp) := if at' < 0 ∨ n.bt ≤ at' then none else some (pathA n at')

attribute [local irreducible] Calls
theorem path_out (n : Nd) (at' : Int) (w : World) (hin : n.In w) (hwf : n.WF) (h : at' < 0 ∨ n.bt ≤ at') : Calls Try.prog 40 #[.pointer (some ⟨n.b, 0, none⟩), .int .i64 at'] w fun e w' => e = .returned (.tuple #[.slice none 0 0, .int .i64 4]) ∧ Below w.heap.size w w' := by
  have hok := Nd.WF.ok n hwf
  have hq : (n.tk == 0) = false := beq_eq_false_iff_ne.2 (by have := hok.tk1; omega)
  have ht := tokens_some n w hin
  have hy := fun W (hW : Below w.heap.size w W) => bytes_some n W (hin.below hW)
  unfold Nd.ptr at ht hy
  have HY := Lib.hid hy
  clear hy hin hok
  by_cases h0 : at' < 0
  · go_enter Try.func40, Try.ntmps40
    go_wp2_with (first | (go_at_call 24; refine ht.mono ?_; rintro e w1 ⟨rfl, hb⟩))
    go_ret2
    exact ⟨rfl, hb⟩
  · have h1 : n.bt ≤ at' := by omega
    clear h
    go_enter Try.func40, Try.ntmps40
    go_wp2_with (first | (go_at_call 24; refine ht.mono ?_; rintro e w1 ⟨rfl, hb⟩) | (go_at_call 36; refine (HY.out _ hb).mono ?_; rintro e w2 ⟨rfl, hb2⟩))
    go_ret2
    exact ⟨rfl, hb.trans (hb2.mono hb.size)⟩

set_option maxRecDepth 100000 in
set_option maxHeartbeats 8000000 in
theorem path_in (n : Nd) (at' : Int) (w : World) (hin : n.In w) (hwf : n.WF) (hcn : n.cnt ≤ 1000) (h0 : 0 ≤ at') (h1 : at' < n.bt) : Calls Try.prog 40 #[.pointer (some ⟨n.b, 0, none⟩), .int .i64 at'] w fun e w' =>
    ∃ v, e = .returned (.tuple #[v, .int .i64 0]) ∧ w'.ownsRow w.heap.size 66 5 v (pathA n at').length (spots (pathA n at')) ∧ Below w.heap.size w w' := by
  have hok := Nd.WF.ok n hwf
  have hq : (n.tk == 0) = false := beq_eq_false_iff_ne.2 (by have := hok.tk1; omega)
  have ht := tokens_some n w hin
  have hy := fun W (hW : Below w.heap.size w W) => bytes_some n W (hin.below hW)
  have hs := fun W (hW : Below w.heap.size w W) => sym_some n W (hin.below hW) (by have := hok.ht1; omega)
  have hp := fun W (hW : Below w.heap.size w W) => prod_some n W (hin.below hW) (by have := hok.ht1; omega)
  have hhc := ht_le_cnt n hwf
  have hbel := fun (k : Nd) (f : Int) W (hW : Below w.heap.size w W) (hk : k.In w) (hkw : k.WF) (h2 : 0 ≤ f) (h3 : f + k.bt ≤ 65536) => below_call k f at' W (hk.below hW) hkw (by have := (Nd.WF.ok k hkw).klen; omega) h2 (by omega)
  have hspn := fun (k : Nd) (f : Int) W (hW : Below w.heap.size w W) (hk : k.In w) (hkw : k.WF) (h2 : 0 ≤ f) (h3 : f + k.bt ≤ 65536) => span_call k f W (hk.below hW) hkw h2 (by omega)
  have b1 := hok.bt1
  unfold Nd.ptr at ht hy hs hp
  have HY := Lib.hid hy
  have HS := Lib.hid hs
  have HP := Lib.hid hp
  have HBEL := Lib.hid hbel
  have HSPN := Lib.hid hspn
  have HIN := Lib.hid hin
  have HWF := Lib.hid hwf
  clear hy hs hp hbel hspn hin hwf hok
  go_enter Try.func40, Try.ntmps40
  go_upto_region 6 with (first
    | (go_at_call 24; refine ht.mono ?_; rintro e w1 ⟨rfl, hb⟩)
    | (go_at_call 36; refine (HY.out _ hb).mono ?_; rintro e w2 ⟨rfl, hb2⟩; have hb' := hb.trans (hb2.mono hb.size))
    | (go_at_call 32; refine (HS.out _ hb').mono ?_; rintro e w3 ⟨rfl, rfl⟩)
    | (go_at_call 44; refine (HP.out _ hb').mono ?_; rintro e w4 ⟨rfl, rfl⟩)
    | (go_at_call 36; refine (HY.out _ hb').mono ?_; rintro e w5 ⟨rfl, hb5⟩; have hb6 := hb'.trans (hb5.mono hb'.size)))
  have hb7 : Below w.heap.size w (w5.alloc (.cells #[.int .i64 n.sy, .int .i64 n.pr, .int .i64 0, .int .i64 n.bt, .int .i64 0] 66)) := hb6.alloc hb6.size _
  have hr7 : (w5.alloc (.cells #[.int .i64 n.sy, .int .i64 n.pr, .int .i64 0, .int .i64 n.bt, .int .i64 0] 66)).ownsRow w.heap.size 66 5 (.slice (some ⟨w5.heap.size, 0, none⟩) 1 1) 1 (spots [⟨n.sy, n.pr, 0, n.bt, 0⟩]) :=
    row_new (heap_alloc_new _ _) hb6.size rfl (by decide)
  generalize w5.alloc (.cells #[.int .i64 n.sy, .int .i64 n.pr, .int .i64 0, .int .i64 n.bt, .int .i64 0] 66) = wz at *
  have hbk := HBEL.out n 0 _ hb7 HIN.out HWF.out (by omega) (by omega)
  have hcur : ∀ k f, belowK at' 0 n.kids = some (k, f) → k.In w ∧ k.WF ∧ 0 ≤ f ∧ f + k.bt ≤ 65536 ∧ k.ht.toNat + 1 ≤ n.ht.toNat := fun k f h => by
    obtain ⟨m1, m2, m3⟩ := belowK_in (fun m hm => (Nd.WF.ok m (HWF.out.kid m hm)).bt0) h
    have hs := HWF.out.sum.2
    have hh := (Nd.WF.ok n HWF.out).kht k m1
    have hk1 := (Nd.WF.ok k (HWF.out.kid k m1)).ht1
    exact ⟨HIN.out.head.2.2 k m1, HWF.out.kid k m1, m2, by omega, by omega⟩
  have hans : pathA n at' = [⟨n.sy, n.pr, 0, n.bt, 0⟩] ++ pathO at' 1 (belowK at' 0 n.kids) := by unfold pathA; rw [pathN_below]; rfl
  have hht1 := (Nd.WF.ok n HWF.out).ht1
  have HCUR := Lib.hid hcur
  have HANS := Lib.hid hans
  clear hcur hans ht
  generalize belowK at' 0 n.kids = cur at *
  go_cut [6, 7] (fun v6 v7 wx => ∃ (gs : Nat), v6 = .slice (some ⟨w5.heap.size, 0, none⟩) 1 1 ∧ v7 = .pointer (some ⟨gs, 0, none⟩) ∧ w.heap.size ≤ gs ∧ wx.heap[gs]? = some (.cells (stepC cur) 126 (0, 0)) ∧ Below wz.heap.size wz wx)
  case first =>
    rcases cur with _ | ⟨k, f⟩
    · unfold stepV at hbk
      go_wp2_with (first | (go_at_call 75; refine hbk.mono ?_; rintro e w8 ⟨rfl, hb8⟩))
      go_meet
      exact ⟨_, rfl, rfl, (hb7.trans (hb8.mono hb7.size)).size, heap_alloc_new _ _, hb8.alloc hb8.size _⟩
    · unfold stepV at hbk
      go_wp2_with (first | (go_at_call 75; refine hbk.mono ?_; rintro e w8 ⟨rfl, hb8⟩))
      go_meet
      exact ⟨_, rfl, rfl, (hb7.trans (hb8.mono hb7.size)).size, heap_alloc_new _ _, hb8.alloc hb8.size _⟩
  case rest =>
    obtain ⟨gs, rfl, rfl, hgs, hg, hbc⟩ := hcut
    have hr8 := ownsRow_of_block hr7 (fun k hk => hbc.block k (hr7.lt k hk).2)
    have hb8 := hb7.trans (hbc.mono hb7.size)
    clear hr7 hbk
    go_wp2_with fail
    go_loopg [6, 7] (n.ht.toNat + 1) (fun gi v6 v7 wx => ∃ (cur : Option (Nd × Int)) (done : List Sp) (gs : Nat), v7 = .pointer (some ⟨gs, 0, none⟩) ∧ w.heap.size ≤ gs ∧ wx.heap[gs]? = some (.cells (stepC cur) 126 (0, 0)) ∧ Below w.heap.size w wx ∧
        wx.ownsRow w.heap.size 66 5 v6 done.length (spots done) ∧ Hid (pathA n at' = done ++ pathO at' done.length cur ∧ (∀ k f, cur = some (k, f) → k.In w ∧ k.WF ∧ 0 ≤ f ∧ f + k.bt ≤ 65536 ∧ k.ht.toNat + 1 ≤ gi) ∧ 1 ≤ gi ∧ done.length + gi ≤ n.ht.toNat + 2 ∧ 0 < done.length))
    case atStart =>
      exact ⟨cur, [⟨n.sy, n.pr, 0, n.bt, 0⟩], gs, rfl, hgs, hg, hb8, hr8, HANS.out, fun k f h => by obtain ⟨a, b, c, d, e⟩ := HCUR.out k f h; exact ⟨a, b, c, d, by omega⟩, by omega, by simp; omega, by simp⟩
    case round =>
      clear hr8 hb8 hg hgs hbc HCUR HANS
      obtain ⟨cur, done, gs, rfl, hgs, hg, hbr, hrow, HI⟩ := hrel
      rcases cur with _ | ⟨k, f⟩
      · have hfin : pathA n at' = done := by have := HI.out.1; simpa [pathO] using this
        unfold stepC at hg
        have c0 : wr.cell? ⟨gs, 0, none⟩ = some (.pointer none) := cell_of_heap hg rfl
        have c1 : wr.cell? ⟨gs, 1, none⟩ = some (.int .i64 0) := cell_of_heap hg rfl
        have HF := Lib.hid hfin
        clear hfin hg HI
        go_wp2_with fail
        go_ret2
        rw [HF.out]
        exact ⟨_, rfl, hrow, hbr⟩
      · obtain ⟨hA, hK, hgi, hdl, hdp⟩ := HI.out
        obtain ⟨kin, kwf, f0, f1, kht⟩ := hK k f rfl
        have kok := Nd.WF.ok k kwf
        have kb0 := kok.bt0
        have kl0 := kok.ld0
        have kl1 := kok.ld1
        have kh1 := kok.ht1
        unfold stepC at hg
        have c0 : wr.cell? ⟨gs, 0, none⟩ = some (.pointer (some ⟨k.b, 0, none⟩)) := cell_of_heap hg rfl
        have c1 : wr.cell? ⟨gs, 1, none⟩ = some (.int .i64 f) := cell_of_heap hg rfl
        have hsp := HSPN.out k f wr hbr kin kwf f0 f1
        by_cases hlt : at' < f + k.ld
        · have hfin : pathA n at' = done := by rw [hA]; simp [pathO, hlt]
          have HF := Lib.hid hfin
          clear hfin hg HI hA hK
          go_wp2_with (first | (go_at_call 76; refine hsp.mono ?_; rintro e w9 ⟨rfl, hb9⟩))
          go_ret2
          rw [HF.out]
          exact ⟨_, rfl, (ownsRow_of_block hrow (fun k hk => hb9.block k (hrow.lt k hk).2)).alloc _, (hbr.trans (hb9.mono hbr.size)).alloc (hbr.trans (hb9.mono hbr.size)).size _⟩
        · have hsy := fun W (hW : Below w.heap.size w W) => sym_some k W (kin.below hW) (by omega)
          have hpr := fun W (hW : Below w.heap.size w W) => prod_some k W (kin.below hW) (by omega)
          unfold Nd.ptr at hsy hpr
          have HSY := Lib.hid hsy
          have HPR := Lib.hid hpr
          have HA := Lib.hid hA
          have HG := Lib.hid hg
          have lgs : gs < wr.heap.size := (Array.getElem?_eq_some_iff.1 hg).1
          clear hsy hpr hA hK hg HI kok
          go_upto_region 11 with (first | (go_at_call 76; refine hsp.mono ?_; rintro e w9 ⟨rfl, hb9⟩; have c0 := (hb9.cell (p := ⟨gs, 0, none⟩) lgs).trans c0; have c1 := (hb9.cell (p := ⟨gs, 1, none⟩) lgs).trans c1))
          have hb10 := hbr.trans (hb9.mono hbr.size)
          have e0 : ∀ W, W = w9.alloc (.cells #[.int .i64 (f + k.ld), .int .i64 (f + k.bt)] 64) → Below w.heap.size w W ∧ W.heap[gs]? = some (.cells #[.pointer (some ⟨k.b, 0, none⟩), .int .i64 f] 126 (0, 0)) ∧ W.heap[w9.heap.size]? = some (.cells #[.int .i64 (f + k.ld), .int .i64 (f + k.bt)] 64 (0, 0)) ∧
              W.ownsRow w.heap.size 66 5 u6 done.length (spots done) := by
            rintro W rfl
            exact ⟨hb10.alloc hb10.size _, (Below.heap_alloc _ _ _ (Nat.lt_of_lt_of_le lgs hb9.size)).trans ((hb9.block gs lgs).trans HG.out), heap_alloc_new _ _, (ownsRow_of_block hrow (fun k hk => hb9.block k (hrow.lt k hk).2)).alloc _⟩
          obtain ⟨hbW, hgW, hxW, hrowW⟩ := e0 _ rfl
          generalize w9.alloc (.cells #[.int .i64 (f + k.ld), .int .i64 (f + k.bt)] 64) = W at *
          have xc : ∃ xb, xb = w9.heap.size := ⟨_, rfl⟩
          obtain ⟨xb, hxb⟩ := xc
          rw [← hxb] at hxW ⊢
          clear e0 hsp hxb
          have c0 : W.cell? ⟨gs, 0, none⟩ = some (.pointer (some ⟨k.b, 0, none⟩)) := cell_of_heap hgW rfl
          have c1 : W.cell? ⟨gs, 1, none⟩ = some (.int .i64 f) := cell_of_heap hgW rfl
          have d0 : W.cell? ⟨xb, 0, none⟩ = some (.int .i64 (f + k.ld)) := cell_of_heap hxW rfl
          have d1 : W.cell? ⟨xb, 1, none⟩ = some (.int .i64 (f + k.bt)) := cell_of_heap hxW rfl
          have lgW : gs < W.heap.size := (Array.getElem?_eq_some_iff.1 hgW).1
          have lxW : xb < W.heap.size := (Array.getElem?_eq_some_iff.1 hxW).1
          have hdw : Below w.heap.size w W.drew := hbW.drew
          have HGW := Lib.hid (And.intro hgW hxW)
          have hal : ∀ o, (W.drew.alloc o).cell? ⟨gs, 0, none⟩ = some (.pointer (some ⟨k.b, 0, none⟩)) ∧ (W.drew.alloc o).cell? ⟨gs, 1, none⟩ = some (.int .i64 f) ∧ (W.drew.alloc o).cell? ⟨xb, 0, none⟩ = some (.int .i64 (f + k.ld)) ∧ (W.drew.alloc o).cell? ⟨xb, 1, none⟩ = some (.int .i64 (f + k.bt)) := fun o =>
            ⟨((below_alloc W.drew o).cell (p := ⟨gs, 0, none⟩) lgW).trans c0, ((below_alloc W.drew o).cell (p := ⟨gs, 1, none⟩) lgW).trans c1, ((below_alloc W.drew o).cell (p := ⟨xb, 0, none⟩) lxW).trans d0, ((below_alloc W.drew o).cell (p := ⟨xb, 1, none⟩) lxW).trans d1⟩
          have HAL := Lib.hid hal
          clear hgW hxW hal
          have hsz := hbW.size
          obtain ⟨gd, cd, rfl⟩ := row_form hrowW hdp
          go_region_held3 (fun W => W.cell? ⟨gs, 0, none⟩ = some (.pointer (some ⟨k.b, 0, none⟩)) ∧ W.cell? ⟨gs, 1, none⟩ = some (.int .i64 f) ∧ W.cell? ⟨xb, 0, none⟩ = some (.int .i64 (f + k.ld)) ∧ W.cell? ⟨xb, 1, none⟩ = some (.int .i64 (f + k.bt)))
            (first
              | exact ⟨c0, c1, d0, d1⟩
              | exact HAL.out _
              | exact ⟨p0, p1, p2, p3⟩)
            (first
              | (go_at_call 32; refine (HSY.out _ hdw).mono ?_; rintro e w' ⟨rfl, rfl⟩)
              | (go_at_call 44; refine (HPR.out _ hdw).mono ?_; rintro e w' ⟨rfl, rfl⟩)
              | (refine step_push rfl (.tmp 47) (.tmp 58) 50 rfl 66 _ 5 40 info66 Try.underlying50 rfl (by decide) w.heap.size (.slice (some ⟨gd, 0, none⟩) done.length cd) done.length (spots done) (by simp [Act.eval, Act.put]) (hrowW.alloc _) W.heap.size [.int .i64 k.sy, .int .i64 k.pr, .int .i64 (f + k.ld), .int .i64 (f + k.bt), .int .i64 done.length] (by simp [Act.eval, Act.put]) (heap_alloc_new _ _) rfl (by simp [Value.oneCell']) (by omega) (by omega) (by simp; omega) ?_; intro g4 c4 w4 hown4 hgr4; have G4 := (hgr4.far gs (by simp; omega) (own_ne hrowW HGW.out.1 (by decide))).trans ((Below.heap_alloc _ _ _ lgW).trans HGW.out.1); have X4 := (hgr4.far xb (by simp; omega) (own_ne hrowW HGW.out.2 (by decide))).trans ((Below.heap_alloc _ _ _ lxW).trans HGW.out.2); have p0 := cell_of_heap (i := 0) (v := .pointer (some ⟨k.b, 0, none⟩)) G4 rfl; have p1 := cell_of_heap (i := 1) (v := .int .i64 f) G4 rfl; have p2 := cell_of_heap (i := 0) (v := .int .i64 (f + k.ld)) X4 rfl; have p3 := cell_of_heap (i := 1) (v := .int .i64 (f + k.bt)) X4 rfl))
          have hb4 := (hbW.drew.alloc hsz (.cells #[.int .i64 k.sy, .int .i64 k.pr, .int .i64 (f + k.ld), .int .i64 (f + k.bt), .int .i64 done.length] 66)).trans hgr4.below
          have hb5 := hb4.alloc hb4.size (.cells #[.pointer (some ⟨k.b, 0, none⟩), .int .i64 f] 126)
          have N5 := heap_alloc_new w4 (.cells #[.pointer (some ⟨k.b, 0, none⟩), .int .i64 f] 126)
          have hbk := fun W (hW : Below w.heap.size w W) => HBEL.out k f W hW kin kwf f0 f1
          have hpo : pathO at' done.length (some (k, f)) = ⟨k.sy, k.pr, f + k.ld, f + k.bt, done.length⟩ :: pathO at' (done.length + 1) (belowK at' f k.kids) := by
            show (if at' < f + k.ld then [] else _) = _
            rw [if_neg (by omega), pathN_below]
          have hnext : ∀ k2 f2, belowK at' f k.kids = some (k2, f2) → k2.In w ∧ k2.WF ∧ 0 ≤ f2 ∧ f2 + k2.bt ≤ 65536 ∧ k2.ht.toNat + 1 ≤ gk - 1 := fun k2 f2 h => by
            obtain ⟨m1, m2, m3⟩ := belowK_in (fun m hm => (Nd.WF.ok m (kwf.kid m hm)).bt0) h
            have hs := kwf.sum.2
            have hh := (Nd.WF.ok k kwf).kht k2 m1
            have hk1 := (Nd.WF.ok k2 (kwf.kid k2 m1)).ht1
            exact ⟨kin.head.2.2 k2 m1, kwf.kid k2 m1, by omega, by omega, by omega⟩
          clear c0 c1 d0 d1 HAL
          rcases hnx : belowK at' f k.kids with _ | ⟨k2, f2⟩
          · have HBK := Lib.hid hbk
            rw [hnx] at HBK hpo
            unfold stepV at HBK
            clear hbk hnext
            go_wp2_with (first | (go_at_call 75; refine (HBK.out _ hb5).mono ?_; rintro e w10 ⟨rfl, hb10⟩; have y := (hb10.block _ (Array.getElem?_eq_some_iff.1 N5).1).trans N5; have z0 : w10.frozen? ⟨w4.heap.size, 0, none⟩ = false := frozen_of_heap y; have z1 : w10.frozen? ⟨w4.heap.size, 1, none⟩ = false := frozen_of_heap y; have y0 := cell_of_heap (i := 0) (v := .pointer (some ⟨k.b, 0, none⟩)) y rfl; have y1 := cell_of_heap (i := 1) (v := .int .i64 f) y rfl; have Y := Lib.hid y; clear y))
            have G0 := setCell_heap (i := 0) Y.out (.pointer none)
            have G1 := setCell_heap (i := 1) G0 (.int .i64 0)
            have hbf := ((hb5.trans (hb10.mono hb5.size)).setCell (p := ⟨w4.heap.size, 0, none⟩) hb4.size (.pointer none)).setCell (p := ⟨w4.heap.size, 1, none⟩) hb4.size (.int .i64 0)
            have hrf := ownsRow_of_block hown4 (w' := (w10.setCell ⟨w4.heap.size, 0, none⟩ (.pointer none)).setCell ⟨w4.heap.size, 1, none⟩ (.int .i64 0)) (fun k hk => by
              have hl := (hown4.lt k hk).2
              rw [Below.heap_setCell _ _ _ _ (by show k ≠ w4.heap.size; omega), Below.heap_setCell _ _ _ _ (by show k ≠ w4.heap.size; omega), hb10.block k (by simp; omega), Below.heap_alloc _ _ _ hl])
            go_roundg (gk - 1)
            case measure => omega
            case rel =>
              refine ⟨none, done ++ [⟨k.sy, k.pr, f + k.ld, f + k.bt, done.length⟩], w4.heap.size, rfl, hb4.size, G1, hbf, ?_, ?_, ?_, by omega, ?_, by simp⟩
              · rw [List.length_append]; unfold spots; rw [List.flatMap_append]; exact hrf
              · rw [HA.out, List.length_append, hpo]; simp
              · intro k2 f2 h; simp at h
              · simp; omega
          · have HNX := Lib.hid (hnext k2 f2 hnx)
            have HBK := Lib.hid hbk
            rw [hnx] at HBK hpo
            unfold stepV at HBK
            clear hbk hnext
            go_wp2_with (first | (go_at_call 75; refine (HBK.out _ hb5).mono ?_; rintro e w10 ⟨rfl, hb10⟩; have y := (hb10.block _ (Array.getElem?_eq_some_iff.1 N5).1).trans N5; have z0 : w10.frozen? ⟨w4.heap.size, 0, none⟩ = false := frozen_of_heap y; have z1 : w10.frozen? ⟨w4.heap.size, 1, none⟩ = false := frozen_of_heap y; have y0 := cell_of_heap (i := 0) (v := .pointer (some ⟨k.b, 0, none⟩)) y rfl; have y1 := cell_of_heap (i := 1) (v := .int .i64 f) y rfl; have Y := Lib.hid y; clear y))
            have G0 := setCell_heap (i := 0) Y.out (.pointer (some ⟨k2.b, 0, none⟩))
            have G1 := setCell_heap (i := 1) G0 (.int .i64 f2)
            have hbf := ((hb5.trans (hb10.mono hb5.size)).setCell (p := ⟨w4.heap.size, 0, none⟩) hb4.size (.pointer (some ⟨k2.b, 0, none⟩))).setCell (p := ⟨w4.heap.size, 1, none⟩) hb4.size (.int .i64 f2)
            have hrf := ownsRow_of_block hown4 (w' := (w10.setCell ⟨w4.heap.size, 0, none⟩ (.pointer (some ⟨k2.b, 0, none⟩))).setCell ⟨w4.heap.size, 1, none⟩ (.int .i64 f2)) (fun k hk => by
              have hl := (hown4.lt k hk).2
              rw [Below.heap_setCell _ _ _ _ (by show k ≠ w4.heap.size; omega), Below.heap_setCell _ _ _ _ (by show k ≠ w4.heap.size; omega), hb10.block k (by simp; omega), Below.heap_alloc _ _ _ hl])
            go_roundg (gk - 1)
            case measure => omega
            case rel =>
              refine ⟨some (k2, f2), done ++ [⟨k.sy, k.pr, f + k.ld, f + k.bt, done.length⟩], w4.heap.size, rfl, hb4.size, G1, hbf, ?_, ?_, ?_, by omega, ?_, by simp⟩
              · rw [List.length_append]; unfold spots; rw [List.flatMap_append]; exact hrf
              · rw [HA.out, List.length_append, hpo]; simp
              · intro k3 f3 h; simp only [Option.some.injEq, Prod.mk.injEq] at h; obtain ⟨rfl, rfl⟩ := h; exact HNX.out
              · simp; omega

end Go.Proofs.Ytcjpmgfobnaoeaa
