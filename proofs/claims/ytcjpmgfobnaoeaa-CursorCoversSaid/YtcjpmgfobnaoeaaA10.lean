/- Make: the node, or why it is refused. -/
import Derived.Test.YtcjpmgfobnaoeaaA8
import Derived.Test.YtcjpmgfobnaoeaaA9
import Derived.BigRegion
namespace Go.Proofs.Ytcjpmgfobnaoeaa
open Go.RowKit

/-- Why Make refuses; 0: it does not. -/
def makeE (head : Int) (body : List Int) (prod st lk : Int) (kids : List Nd) : Int :=
  if prod < 0 ∨ head < 0 ∨ st < 0 ∨ lk < 0 ∨ body = [] then 2 else if body ≠ kids.map Nd.sy then 200 else if 65536 < sumBt kids ∨ 262144 < sumTk kids then 3 else 0

/-- The node that is made. -/
def makeNd (g : Nat) (ks : Value) (head prod st lk : Int) (fm : Bool) (kids : List Nd) : Nd := .mk g (sumTk kids) (sumBt kids) (headLd kids) (maxHt kids + 1) head prod 0 st lk fm ks kids

/-- What Make leaves. -/
def MakeSays (w : World) (head : Int) (body : List Int) (prod st lk : Int) (fm : Bool) (kids : List Nd) (e : Ending) (w' : World) : Prop :=
  Below w.heap.size w w' ∧
  ((makeE head body prod st lk kids ≠ 0 ∧ e = .returned (.tuple #[.pointer none, .int .i64 (makeE head body prod st lk kids)])) ∨
   (makeE head body prod st lk kids = 0 ∧ ∃ g ks, e = .returned (.tuple #[.pointer (some ⟨g, 0, none⟩), .int .i64 0]) ∧ w.heap.size ≤ g ∧ w'.heap[g]? = some (.cells (makeNd g ks head prod st lk fm kids).cs 87 (0, 0)) ∧
      w'.ownsRow w.heap.size 33 1 ks kids.length (kids.map Nd.ptr)))

theorem makeE_2 {head : Int} {body : List Int} {prod st lk : Int} {kids : List Nd} (h : prod < 0 ∨ head < 0 ∨ st < 0 ∨ lk < 0 ∨ body = []) : makeE head body prod st lk kids = 2 := by unfold makeE; rw [if_pos h]
theorem makeE_200 {head : Int} {body : List Int} {prod st lk : Int} {kids : List Nd} (h : ¬ (prod < 0 ∨ head < 0 ∨ st < 0 ∨ lk < 0 ∨ body = [])) (h2 : body ≠ kids.map Nd.sy) : makeE head body prod st lk kids = 200 := by unfold makeE; rw [if_neg h, if_pos h2]
theorem makeE_3 {head : Int} {body : List Int} {prod st lk : Int} {kids : List Nd} (h : ¬ (prod < 0 ∨ head < 0 ∨ st < 0 ∨ lk < 0 ∨ body = [])) (h2 : body = kids.map Nd.sy) (h3 : 65536 < sumBt kids ∨ 262144 < sumTk kids) : makeE head body prod st lk kids = 3 := by unfold makeE; rw [if_neg h, if_neg (by simpa using h2), if_pos h3]
theorem makeE_0 {head : Int} {body : List Int} {prod st lk : Int} {kids : List Nd} (h : ¬ (prod < 0 ∨ head < 0 ∨ st < 0 ∨ lk < 0 ∨ body = [])) (h2 : body = kids.map Nd.sy) (h3 : ¬ (65536 < sumBt kids ∨ 262144 < sumTk kids)) : makeE head body prod st lk kids = 0 := by unfold makeE; rw [if_neg h, if_neg (by simpa using h2), if_neg h3]

theorem sumTk_app (l m : List Nd) : sumTk (l ++ m) = sumTk l + sumTk m := by simp [sumTk]
theorem sumBt_app (l m : List Nd) : sumBt (l ++ m) = sumBt l + sumBt m := by simp [sumBt]
theorem sumTk_append (l : List Nd) (k : Nd) : sumTk (l ++ [k]) = sumTk l + k.tk := by simp [sumTk]
theorem sumBt_append (l : List Nd) (k : Nd) : sumBt (l ++ [k]) = sumBt l + k.bt := by simp [sumBt]
theorem maxHt_append (l : List Nd) (k : Nd) (h : 0 ≤ k.ht) : maxHt (l ++ [k]) = max (maxHt l) k.ht := by
  induction l with
  | nil => simp [maxHt]; omega
  | cons n ns ih => simp only [List.cons_append, maxHt, ih]; omega

/-- The height after so many kids. -/
def htI (kids : List Nd) (i : Nat) : Int := if i = 0 then 0 else maxHt (kids.take i) + 1
theorem htI_succ {kids : List Nd} {i : Nat} (h : i < kids.length) (h0 : 1 ≤ (kids[i]).ht) : htI kids (i + 1) = max (htI kids i) ((kids[i]).ht + 1) := by
  unfold htI
  rw [if_neg (by omega), List.take_succ_eq_append_getElem h, maxHt_append _ _ (by omega)]
  by_cases h1 : i = 0
  · subst h1; simp [maxHt]; omega
  · rw [if_neg h1]; omega
theorem sum_take_le {kids : List Nd} (h : ∀ k ∈ kids, k.WF) (i : Nat) : sumTk (kids.take i) ≤ sumTk kids ∧ sumBt (kids.take i) ≤ sumBt kids ∧ 0 ≤ sumTk (kids.take i) ∧ 0 ≤ sumBt (kids.take i) := by
  have e : kids = kids.take i ++ kids.drop i := (List.take_append_drop i kids).symm
  have h1 := (sumTk_ge (l := kids.drop i) fun k hk => (Nd.WF.ok k (h k (List.mem_of_mem_drop hk))).tk1).1
  have h2 := (sumBt_ge (l := kids.drop i) fun k hk => (Nd.WF.ok k (h k (List.mem_of_mem_drop hk))).bt0).1
  have h3 := (sumTk_ge (l := kids.take i) fun k hk => (Nd.WF.ok k (h k (List.mem_of_mem_take hk))).tk1).1
  have h4 := (sumBt_ge (l := kids.take i) fun k hk => (Nd.WF.ok k (h k (List.mem_of_mem_take hk))).bt0).1
  have e1 : sumTk kids = sumTk (kids.take i) + sumTk (kids.drop i) := by rw [← sumTk_app, ← e]
  have e2 : sumBt kids = sumBt (kids.take i) + sumBt (kids.drop i) := by rw [← sumBt_app, ← e]
  omega

theorem set3 {w wr : World} {g B : Nat} {c : Array Value} (hg : wr.heap[g]? = some (.cells c 87 (0, 0))) (hb : Below B w wr) (hB : B ≤ g) (x y z : Value) (n : Nat) :
    ((((wr.drewN n).setCell ⟨g, 1, none⟩ x).setCell ⟨g, 0, none⟩ y).setCell ⟨g, 3, none⟩ z).drew.drew.heap[g]? = some (.cells (((c.setIfInBounds 1 x).setIfInBounds 0 y).setIfInBounds 3 z) 87 (0, 0)) ∧
    Below B w ((((wr.drewN n).setCell ⟨g, 1, none⟩ x).setCell ⟨g, 0, none⟩ y).setCell ⟨g, 3, none⟩ z).drew.drew ∧
    ∀ {ks : Value} {m : Nat} {xs : List Value}, wr.ownsRow B 33 1 ks m xs → ((((wr.drewN n).setCell ⟨g, 1, none⟩ x).setCell ⟨g, 0, none⟩ y).setCell ⟨g, 3, none⟩ z).drew.drew.ownsRow B 33 1 ks m xs := by
  have h0 : (wr.drewN n).heap[g]? = some (.cells c 87 (0, 0)) := hg
  have hd : Below B w (wr.drewN n) := ⟨hb.os, hb.tape, hb.output, hb.size, hb.block⟩
  refine ⟨setCell_heap (setCell_heap (setCell_heap h0 x) y) z, (((hd.setCell (p := ⟨g, 1, none⟩) hB _).setCell (p := ⟨g, 0, none⟩) hB _).setCell (p := ⟨g, 3, none⟩) hB _).drew.drew, ?_⟩
  intro ks m xs h
  refine ownsRow_of_block h fun k hk => ?_
  have hkg : k ≠ g := fun e => own_ne h hg (by decide) (by rw [hk, e])
  show ((((wr.drewN n).setCell ⟨g, 1, none⟩ x).setCell ⟨g, 0, none⟩ y).setCell ⟨g, 3, none⟩ z).heap[k]? = _
  rw [Below.heap_setCell _ _ _ _ hkg, Below.heap_setCell _ _ _ _ hkg, Below.heap_setCell _ _ _ _ hkg]
  rfl

set_option maxHeartbeats 4000000 in
set_option maxRecDepth 100000 in
theorem make_any (head : Int) (bv : Value) (body : List Int) (right : Bool) (prod st lk : Int) (fm : Bool) (kv : Value) (kids : List Nd) (w : World) (hb : IntsAt w bv body) (hk : PtrsAt w kv kids) (hin : ∀ n ∈ kids, n.In w)
    (hwf : ∀ n ∈ kids, n.WF) (hht : ∀ n ∈ kids, n.ht ≤ 1000000) (hbl : body.length ≤ 1000000) (hkl : kids.length ≤ 1000000) :
    Calls Try.prog 33 #[.agg #[.int .i64 head, bv, .bool right], .int .i64 prod, .agg #[.int .i64 st, .int .i64 lk, .bool fm], kv] w (MakeSays w head body prod st lk fm kids) := by
  have hb' := hb
  have hk' := hk
  obtain ⟨ba, bc, rfl, hbx⟩ := hb
  obtain ⟨ka, kc, rfl, hkx⟩ := hk
  have HB := Lib.hid hb'
  have HK := Lib.hid hk'
  have HBX := Lib.hid hbx
  have HKX := Lib.hid hkx
  have HIN := Lib.hid hin
  have HWF := Lib.hid hwf
  have HHT := Lib.hid hht
  have hbox : ∀ W, W = (w.alloc (.cells #[.int .i64 head, .slice ba body.length bc, .bool right] 54)).alloc (.cells #[.int .i64 st, .int .i64 lk, .bool fm] 57) → Below w.heap.size w W ∧
      W.heap[w.heap.size]? = some (.cells #[.int .i64 head, .slice ba body.length bc, .bool right] 54 (0, 0)) ∧ W.heap[w.heap.size + 1]? = some (.cells #[.int .i64 st, .int .i64 lk, .bool fm] 57 (0, 0)) := by
    rintro W rfl
    exact ⟨((Below.refl _ _).alloc (Nat.le_refl _) _).alloc (by simp) _, by rw [Below.heap_alloc _ _ _ (by simp)]; exact heap_alloc_new _ _, heap_new2 _ _ _⟩
  have HBOX := Lib.hid hbox
  clear hb' hk' hbx hkx hin hwf hht hbox
  go_enter Try.func33, Try.ntmps33
  apply wp_seq_k
  intro K1 h1
  have H1 := Lib.hid h1
  clear h1
  go_wp2_with fail
  refine H1.out _ _ ?_
  clear H1 K1
  obtain ⟨hB1, hq1, hq2⟩ := HBOX.out _ rfl
  generalize (w.alloc (.cells #[.int .i64 head, .slice ba body.length bc, .bool right] 54)).alloc (.cells #[.int .i64 st, .int .i64 lk, .bool fm] 57) = W at *
  have HQ := Lib.hid (And.intro hq1 hq2)
  clear HBOX hq1 hq2
  go_upto_block 0 with fail
  go_cut [17] (fun _ wx => wx = W)
  case first =>
    go_wp2_with fail
    go_loop [17] (fun iv => ∃ i : Nat, iv = .int .i64 i ∧ i ≤ kids.length) (fun iv => kids.length - (intOf iv).toNat)
    case atStart => exact ⟨0, rfl, by omega⟩
    case round =>
      obtain ⟨i, rfl, hi⟩ := hrel
      by_cases hlt : i < kids.length
      · obtain ⟨b2, o2, rfl, hc2⟩ := HKX.out i hlt
        have hlb : b2 < w.heap.size := World.block_lt_of_cell? w _ hc2
        obtain ⟨n, hn⟩ : ∃ n, n = kids[i] := ⟨_, rfl⟩
        rw [← hn] at hc2
        have hmem : n ∈ kids := by rw [hn]; exact List.getElem_mem hlt
        have hc2' : W.cell? ⟨b2, o2 + i, none⟩ = some (.pointer (some ⟨n.b, 0, none⟩)) := (hB1.cell (p := ⟨b2, o2 + i, none⟩) hlb).trans hc2
        have hcall : Calls Try.prog 70 #[.pointer (some ⟨n.b, 0, none⟩)] W fun e w' => e = .returned (.bool true) ∧ w' = W := made_yes n W ((HIN.out n hmem).below hB1) (by have := (Nd.WF.ok n (HWF.out n hmem)).ht1; omega)
        have hltI : (i : Int) < (kids.length : Int) := by omega
        clear hn hmem hc2
        go_wp2_with (go_at_call 70; refine hcall.mono ?_; rintro e w' ⟨rfl, rfl⟩)
        go_round
        case rel => exact ⟨i + 1, by go_num, by omega⟩
        case measure => simp [intOf]; omega
      · have hge : ¬ ((i : Int) < (kids.length : Int)) := by omega
        go_wp2_with fail
        go_meet
        first | rfl | trivial
  case rest =>
    subst hcut
    obtain ⟨hq1, hq2⟩ := HQ.out
    have p0 : wc.cell? ⟨w.heap.size, 0, none⟩ = some (.int .i64 head) := cell_of_heap hq1 rfl
    have p1 : wc.cell? ⟨w.heap.size, 1, none⟩ = some (.slice ba body.length bc) := cell_of_heap hq1 rfl
    have s0 : wc.cell? ⟨w.heap.size + 1, 0, none⟩ = some (.int .i64 st) := cell_of_heap hq2 rfl
    have s1 : wc.cell? ⟨w.heap.size + 1, 1, none⟩ = some (.int .i64 lk) := cell_of_heap hq2 rfl
    have s2 : wc.cell? ⟨w.heap.size + 1, 2, none⟩ = some (.bool fm) := cell_of_heap hq2 rfl
    clear hq1 hq2
    by_cases hE2 : prod < 0 ∨ head < 0 ∨ st < 0 ∨ lk < 0 ∨ body = []
    · have hres := makeE_2 (kids := kids) hE2
      have HE := Lib.hid (show prod < 0 ∨ head < 0 ∨ st < 0 ∨ lk < 0 ∨ body.length = 0 by rcases hE2 with h | h | h | h | h <;> simp [h])
      have HR := Lib.hid hres
      clear hE2 hres
      go_wp2_with fail
      all_goals first
        | (go_ret2; exact ⟨hB1, .inl ⟨by rw [HR.out]; decide, by rw [HR.out]; first | done | rfl⟩⟩)
        | (exfalso; have h5 := HE.out; simp only [beq_eq_false_iff_ne, ne_eq] at *; omega)
    · have hE2' : 0 ≤ prod ∧ 0 ≤ head ∧ 0 ≤ st ∧ 0 ≤ lk ∧ 0 < body.length := by
        refine ⟨by omega, by omega, by omega, by omega, ?_⟩
        cases body with
        | nil => simp at hE2
        | cons x xs => simp
      obtain ⟨hp, hh, hst, hlk, hbn⟩ := hE2'
      have hbq : ((body.length : Int) == 0) = false := beq_eq_false_iff_ne.2 (by omega)
      have HE2 := Lib.hid hE2
      clear hE2
      have heq : Calls Try.prog 71 #[.slice ba body.length bc, .slice ka kids.length kc, .func (.func 72) #[] #[]] wc fun e w' => e = .returned (.bool (decide (body = kids.map Nd.sy))) ∧ w' = wc := by
        refine eqSyms_call _ _ body kids wc ?_ ?_ (fun n hn => (HIN.out n hn).below hB1) hbl hkl
        · obtain ⟨a, c, h1, h2⟩ := HB.out
          refine ⟨a, c, h1, fun j hj => ?_⟩
          obtain ⟨b, o, h3, h4⟩ := h2 j hj
          exact ⟨b, o, h3, (hB1.cell (p := ⟨b, o + j, none⟩) (World.block_lt_of_cell? w _ h4)).trans h4⟩
        · obtain ⟨a, c, h1, h2⟩ := HK.out
          refine ⟨a, c, h1, fun j hj => ?_⟩
          obtain ⟨b, o, h3, h4⟩ := h2 j hj
          exact ⟨b, o, h3, (hB1.cell (p := ⟨b, o + j, none⟩) (World.block_lt_of_cell? w _ h4)).trans h4⟩
      by_cases hE200 : body = kids.map Nd.sy
      · rw [decide_eq_true hE200] at heq
        have HE200 := Lib.hid hE200
        have hlen : body.length = kids.length := by rw [hE200]; simp
        have hkn : 0 < kids.length := by omega
        obtain ⟨b2, o2, rfl, hc0⟩ := HKX.out 0 hkn
        clear hE200 hlen
        go_upto_region 11 with (go_at_call 71; refine heq.mono ?_; rintro e w' ⟨rfl, rfl⟩)
        obtain ⟨n0, hn0⟩ : ∃ n0, n0 = kids[0] := ⟨_, rfl⟩
        rw [← hn0] at hc0
        have hm0 : n0 ∈ kids := by rw [hn0]; exact List.getElem_mem hkn
        have hld0 : headLd kids = n0.ld := by
          rw [hn0]
          cases kids with
          | nil => simp at hkn
          | cons x xs => rfl
        have hn0w := HIN.out n0 hm0
        have hcl := fun W (hW : Below w.heap.size w W) => clone_some ⟨b2, o2, none⟩ kids.length kc (kids.map Nd.ptr) W (by simp) (fun j u hu => by
          have hj : j < kids.length := by have := (List.getElem?_eq_some_iff.1 hu).1; simpa using this
          obtain ⟨b, o, h1, h2⟩ := HKX.out j hj
          injection h1 with h1
          injection h1 with h3 h4
          subst h3 h4
          rw [Addr.add_lit]
          rw [List.getElem?_map, List.getElem?_eq_getElem hj] at hu
          injection hu with hu
          rw [← hu]
          exact (hW.cell (p := ⟨b2, o2 + j, none⟩) (World.block_lt_of_cell? w _ h2)).trans h2) oneCell_ptrs (by omega)
        have HCL := Lib.hid hcl
        have HC0 := Lib.hid hc0
        have HN0 := Lib.hid hn0w
        have HLD := Lib.hid hld0
        clear hn0 hm0 hcl hc0 hn0w hld0 heq
        go_cut [12] (fun v wx => ∃ g ks, v = .pointer (some ⟨g, 0, none⟩) ∧ Below w.heap.size w wx ∧ w.heap.size ≤ g ∧
          wx.heap[g]? = some (.cells (Nd.mk g 0 0 0 0 head prod 0 st lk fm ks []).cs 87 (0, 0)) ∧ wx.ownsRow w.heap.size 33 1 ks kids.length (kids.map Nd.ptr))
        case first =>
          go_region_held3 (fun W => W.cell? ⟨w.heap.size, 0, none⟩ = some (.int .i64 head) ∧ W.cell? ⟨w.heap.size + 1, 0, none⟩ = some (.int .i64 st) ∧ W.cell? ⟨w.heap.size + 1, 1, none⟩ = some (.int .i64 lk) ∧ W.cell? ⟨w.heap.size + 1, 2, none⟩ = some (.bool fm))
            (first | exact ⟨p0, s0, s1, s2⟩ | exact ⟨p0', s0', s1', s2'⟩ | go_keep)
            (first | (go_at_call 73; refine (HCL.out _ hB1.drew).mono ?_; rintro e w7 ⟨v7, rfl, ho7, hv7, hb7⟩; have p0' := (hb7.cell (p := ⟨w.heap.size, 0, none⟩) (World.block_lt_of_cell? _ _ p0)).trans p0; have s0' := (hb7.cell (p := ⟨w.heap.size + 1, 0, none⟩) (World.block_lt_of_cell? _ _ s0)).trans s0; have s1' := (hb7.cell (p := ⟨w.heap.size + 1, 1, none⟩) (World.block_lt_of_cell? _ _ s1)).trans s1; have s2' := (hb7.cell (p := ⟨w.heap.size + 1, 2, none⟩) (World.block_lt_of_cell? _ _ s2)).trans s2; obtain ⟨g7, c7, rfl, _⟩ := ownsRow_cell ho7 hv7))
          go_wp2_with fail
          go_meet
          have hb7' : Below w.heap.size w w7 := hB1.drew.trans (hb7.mono hB1.size)
          exact ⟨_, _, rfl, hb7'.alloc hb7'.size _, hb7'.size, heap_alloc_new _ _, (ownsRow_base ho7 hB1.size).alloc _⟩
        case rest =>
          obtain ⟨g, ks, rfl, hBg, hgw, hgc, hks⟩ := hcut
          have n0in := HN0.out.below hBg
          have n0c := n0in.cells.c2
          have l2 : b2 < w.heap.size := World.block_lt_of_cell? w _ HC0.out
          have kc0 : wc.cell? ⟨b2, o2, none⟩ = some (.pointer (some ⟨n0.b, 0, none⟩)) := (hBg.cell (p := ⟨b2, o2, none⟩) l2).trans HC0.out
          have gc2 : wc.cell? ⟨g, 2, none⟩ = some (.int .i64 0) := cell_of_heap hgc rfl
          have gz2 : wc.frozen? ⟨g, 2, none⟩ = false := frozen_of_heap hgc
          have hkI : (0 : Int) < (kids.length : Int) := by omega
          have HGC := Lib.hid (And.intro hgc hks)
          clear hgc hks n0in p0 p1 s0 s1 s2
          go_wp2_with fail
          have hgc2 := setCell_heap (i := 2) HGC.out.1 (.int .i64 n0.ld)
          have hBg2 : Below w.heap.size w (wc.setCell ⟨g, 2, none⟩ (.int .i64 n0.ld)) := hBg.setCell (p := ⟨g, 2, none⟩) hgw _
          have hks2 : (wc.setCell ⟨g, 2, none⟩ (.int .i64 n0.ld)).ownsRow w.heap.size 33 1 ks kids.length (kids.map Nd.ptr) := ownsRow_of_block HGC.out.2 (fun k hk => Below.heap_setCell _ _ _ _ (fun e => own_ne HGC.out.2 HGC.out.1 (by decide) (by rw [hk, e])))
          go_loopw [74] (fun iv wx => ∃ i : Nat, iv = .int .i64 i ∧ i ≤ kids.length ∧ wx.heap[g]? = some (.cells (Nd.mk g (sumTk (kids.take i)) (sumBt (kids.take i)) (headLd kids) (htI kids i) head prod 0 st lk fm ks []).cs 87 (0, 0)) ∧ Below w.heap.size w wx ∧
             wx.ownsRow w.heap.size 33 1 ks kids.length (kids.map Nd.ptr) ∧ Hid (sumTk (kids.take i) ≤ 262144 ∧ sumBt (kids.take i) ≤ 65536)) (fun iv _ => kids.length - (intOf iv).toNat)
          case atStart =>
            refine ⟨0, rfl, by omega, ?_, hBg2, hks2, by simp [Hid, sumTk, sumBt]⟩
            rw [hgc2, HLD.out]
            simp [Nd.cs, Nd.tk, Nd.bt, Nd.ld, Nd.ht, Nd.sy, Nd.pr, Nd.wd, Nd.st, Nd.lk, Nd.fm, Nd.ks, sumTk, sumBt, htI]
          case round =>
            obtain ⟨i, rfl, hi, hgi, hBx, hkx, HI⟩ := hrel
            by_cases hlt : i < kids.length
            · obtain ⟨kd, hkd⟩ : ∃ kd, kd = kids[i] := ⟨_, rfl⟩
              have hmem : kd ∈ kids := by rw [hkd]; exact List.getElem_mem hlt
              obtain ⟨b3, o3, he, hc3⟩ := HKX.out i hlt
              injection he with he
              injection he with he1 he2
              subst he1 he2
              rw [← hkd] at hc3
              have kci : wr.cell? ⟨b2, o2 + i, none⟩ = some (.pointer (some ⟨kd.b, 0, none⟩)) := (hBx.cell (p := ⟨b2, o2 + i, none⟩) l2).trans hc3
              have kin := (HIN.out kd hmem)
              have klt : kd.b < w.heap.size := kin.lt _ (by rw [Nd.blocks_eq]; simp)
              have kin2 := kin.below hBx
              have k0 := kin2.cells.c0
              have k1 := kin2.cells.c1
              have k3 := kin2.cells.c3
              have g0 : wr.cell? ⟨g, 0, none⟩ = some (.int .i64 (sumTk (kids.take i))) := cell_of_heap hgi rfl
              have g1 : wr.cell? ⟨g, 1, none⟩ = some (.int .i64 (sumBt (kids.take i))) := cell_of_heap hgi rfl
              have g3 : wr.cell? ⟨g, 3, none⟩ = some (.int .i64 (htI kids i)) := cell_of_heap hgi rfl
              have z0 : wr.frozen? ⟨g, 0, none⟩ = false := frozen_of_heap hgi
              have z1 : wr.frozen? ⟨g, 1, none⟩ = false := frozen_of_heap hgi
              have z3 : wr.frozen? ⟨g, 3, none⟩ = false := frozen_of_heap hgi
              have hne : ¬ kd.b = g := by omega
              have hne' : ¬ g = kd.b := by omega
              have hkok := Nd.WF.ok kd (HWF.out kd hmem)
              have hs := sum_take_le HWF.out i
              have hs1 := sum_take_le HWF.out (i + 1)
              have hhs := htI_succ hlt (by rw [← hkd]; exact hkok.ht1)
              have hts : sumTk (kids.take (i + 1)) = sumTk (kids.take i) + kd.tk := by rw [List.take_succ_eq_append_getElem hlt, sumTk_append, hkd]
              have hbs : sumBt (kids.take (i + 1)) = sumBt (kids.take i) + kd.bt := by rw [List.take_succ_eq_append_getElem hlt, sumBt_append, hkd]
              rw [← hkd] at hhs
              have hh0 : 0 ≤ htI kids i ∧ htI kids i ≤ 1000001 := by
                unfold htI
                split
                · omega
                · have : ∀ l : List Nd, (∀ n ∈ l, n.ht ≤ 1000000) → maxHt l ≤ 1000000 := by
                    intro l hl
                    induction l with
                    | nil => simp [maxHt]
                    | cons x xs ih => have := hl x (by simp); have := ih (fun n hn => hl n (by simp [hn])); simp only [maxHt]; omega
                  have h1 := this (kids.take i) (fun n hn => HHT.out n (List.mem_of_mem_take hn))
                  have h2 := (maxHt_ge (l := kids.take i)).1
                  omega
              have hkh := HHT.out kd hmem
              have HHS := Lib.hid hhs
              have HTS := Lib.hid hts
              have HBS := Lib.hid hbs
              have HS1 := Lib.hid hs1
              have HS0 := Lib.hid hs
              have HGI := Lib.hid hgi
              have HKX2 := Lib.hid hkx
              have b1 := hkok.bt0
              have b2' := hkok.bt1
              have t1 := hkok.tk1
              have t2 := hkok.tk2
              have h1' := hkok.ht1
              have hI1 := HI.out.1
              have hI2 := HI.out.2
              have hs3 := hs.2.2.1
              have hs4 := hs.2.2.2
              clear hkd hmem hc3 kin kin2 hhs hts hbs hs1 hs hgi hkx hkok
              obtain ⟨hh1, hh2⟩ := hh0
              generalize hT : sumTk (kids.take i) = T at *
              generalize hBt : sumBt (kids.take i) = Bt at *
              generalize hH : htI kids i = H at *
              have HT := Lib.hid (And.intro hT (And.intro hBt hH))
              have hltI : (i : Int) < (kids.length : Int) := by omega
              clear hT hBt hH
              by_cases hA : 65536 - Bt < kd.bt
              · have hres := makeE_3 HE2.out HE200.out (Or.inl (show 65536 < sumBt kids by have := HBS.out; have := HS1.out; omega))
                have HR := Lib.hid hres
                have hAd : decide (65536 - Bt < kd.bt) = true := decide_eq_true hA
                clear hres
                go_wp2_with fail
                go_quiet (fail)
                go_wp2_with fail
                go_ret2
                exact ⟨⟨hBx.os, hBx.tape, hBx.output, hBx.size, hBx.block⟩, .inl ⟨by rw [HR.out]; decide, by rw [HR.out]; first | done | rfl⟩⟩
              · have hA' : kd.bt ≤ 65536 - Bt := by omega
                have hAd : decide (65536 - Bt < kd.bt) = false := decide_eq_false hA
                by_cases hC : 262144 - T < kd.tk
                · have hres := makeE_3 HE2.out HE200.out (Or.inr (show 262144 < sumTk kids by have := HTS.out; have := HS1.out; omega))
                  have HR := Lib.hid hres
                  have hCd : decide (262144 - T < kd.tk) = true := decide_eq_true hC
                  clear hres hA
                  go_wp2_with fail
                  go_quiet (fail)
                  go_wp2_with fail
                  go_ret2
                  exact ⟨⟨hBx.os, hBx.tape, hBx.output, hBx.size, hBx.block⟩, .inl ⟨by rw [HR.out]; decide, by rw [HR.out]; first | done | rfl⟩⟩
                · have hC' : kd.tk ≤ 262144 - T := by omega
                  have hCd : decide (262144 - T < kd.tk) = false := decide_eq_false hC
                  clear hA hC
                  by_cases hM : H < kd.ht + 1
                  · have HM := Lib.hid (show htI kids (i + 1) = kd.ht + 1 by rw [HHS.out]; omega)
                    go_wp2_with fail
                    go_quiet (fail)
                    go_wp2_with fail
                    go_region
                    go_wp2_with fail
                    go_region
                    go_wp2_with fail
                    go_region
                    go_wp2_with fail
                    obtain ⟨e1, e2, e3⟩ := set3 HGI.out hBx hgw (.int .i64 (Bt + kd.bt)) (.int .i64 (T + kd.tk)) (.int .i64 (kd.ht + 1)) (nq + 1)
                    refine ⟨⟨i + 1, by go_num, by omega, ?_, e2, e3 HKX2.out, ?_⟩, by simp [intOf]; omega⟩
                    · rw [e1, HTS.out, HBS.out, HM.out]; rfl
                    · rw [HTS.out, HBS.out]; exact ⟨by omega, by omega⟩
                  · have HM := Lib.hid (show htI kids (i + 1) = H by rw [HHS.out]; omega)
                    have hM' : kd.ht + 1 ≤ H := by omega
                    clear hM
                    go_wp2_with fail
                    go_quiet (fail)
                    go_wp2_with fail
                    go_region
                    go_wp2_with fail
                    go_region
                    go_wp2_with fail
                    go_region
                    go_wp2_with fail
                    obtain ⟨e1, e2, e3⟩ := set3 HGI.out hBx hgw (.int .i64 (Bt + kd.bt)) (.int .i64 (T + kd.tk)) (.int .i64 H) (nq + 1)
                    refine ⟨⟨i + 1, by go_num, by omega, ?_, e2, e3 HKX2.out, ?_⟩, by simp [intOf]; omega⟩
                    · rw [e1, HTS.out, HBS.out, HM.out]; rfl
                    · rw [HTS.out, HBS.out]; exact ⟨by omega, by omega⟩
            · have hge : ¬ ((i : Int) < (kids.length : Int)) := by omega
              have hil : i = kids.length := by omega
              rw [hil, List.take_length] at hgi HI
              have hres := makeE_0 HE2.out HE200.out (show ¬ (65536 < sumBt kids ∨ 262144 < sumTk kids) by have := HI.out; omega)
              have hht2 : htI kids kids.length = maxHt kids + 1 := by unfold htI; rw [if_neg (by omega), List.take_length]
              rw [hht2] at hgi
              have HR := Lib.hid hres
              have HGI := Lib.hid hgi
              clear hres hht2 hgi hil
              go_wp2_with fail
              go_ret2
              exact ⟨hBx, .inr ⟨HR.out, g, ks, rfl, hgw, HGI.out, hkx⟩⟩
      · rw [decide_eq_false hE200] at heq
        have hres := makeE_200 (prod := prod) (head := head) (st := st) (lk := lk) HE2.out hE200
        have HR := Lib.hid hres
        clear hE200 hres
        go_wp2_with (go_at_call 71; refine heq.mono ?_; rintro e w' ⟨rfl, rfl⟩)
        go_ret2
        exact ⟨hB1, .inl ⟨by rw [HR.out]; decide, by rw [HR.out]; first | done | rfl⟩⟩
end Go.Proofs.Ytcjpmgfobnaoeaa
