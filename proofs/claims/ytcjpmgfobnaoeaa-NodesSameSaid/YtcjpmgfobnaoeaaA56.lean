/- nodes.Tree: the walk. -/
import Derived.Test.YtcjpmgfobnaoeaaA55
namespace Go.Proofs.Ytcjpmgfobnaoeaa
open Go.RowKit
attribute [local irreducible] Calls

theorem info24 : (Try.prog.info? 24).map (fun i => (i.zero, i.size, i.bytes)) = some (some (.agg #[.int .i64 0, .int .i64 0, .slice none 0 0]), 3, 40) := by kernel_rfl

/-- A region that draws its order, its last operation free of S. -/
theorem wp_region_last {P : Program} {id : Nat} {l : List Oper} {Q : Exit → Act → World → Prop} {a : Act} {w : World} {S : World → Prop} (hm : P.follows .mixedOrders = true) (hS : S w.drew) (N : Nat) (hN : l.length = N)
    (h : S w.drew → AnyL P .any l.toArray Q S N (List.replicate N false).toArray a w.drew) : (Code.region id l.toArray true).wp P Q a w := by
  refine wp_region_any hm ?_
  subst hN
  exact AnyL.any _ _ _ _ (by simpa using h hS)

/-- Tree's loop over the kids. -/
structure TreeLoop (n : Nd) (w : World) (i : Nat) (v : Value) (l : List (Tr × Value)) (wx : World) : Prop where
  below : Below w.heap.size w wx
  res : wx.heap[w.heap.size]? = some (.cells #[.int .i64 0, .int .i64 0, .slice none 0 0] 24 (0, 0))
  box : wx.heap[w.heap.size + 1]? = some (.cells #[.int .i64 n.sy, .int .i64 n.pr, v] 24 (0, 0))
  row : wx.ownsRow (w.heap.size + 2) 24 3 v i (l.flatMap kidC)
  kid : ∀ p ∈ l, p.1.On (fun b => w.heap.size + 2 ≤ b ∧ b < wx.heap.size ∧ v.ownBlock ≠ some b) wx p.2
  done : l.map Prod.fst = (n.kids.take i).map Nd.tree

theorem TreeLoop.step {n : Nd} {w : World} {i : Nat} {v : Value} {l : List (Tr × Value)} {wr w2 w4 : World} (L : TreeLoop n w i v l wr) (hi : i < n.kids.length) (hb2 : Below wr.heap.size wr w2) {kv : Value}
    (hk : (n.kids[i]).tree.On (fun b => wr.heap.size ≤ b ∧ b < w2.heap.size) w2 kv) {o : Obj} {g c : Nat}
    (hown : w4.ownsRow (w.heap.size + 2) 24 3 (.slice (some ⟨g, 0, none⟩) (i + 1) c) (i + 1) (l.flatMap kidC ++ kidC ((n.kids[i]).tree, kv))) (hgr : Grew (w.heap.size + 2) v (w2.alloc o) w4 g) :
    w4.heap[w.heap.size + 1]? = some (.cells #[.int .i64 n.sy, .int .i64 n.pr, v] 24 (0, 0)) ∧
    TreeLoop n w (i + 1) (.slice (some ⟨g, 0, none⟩) (i + 1) c) (l ++ [((n.kids[i]).tree, kv)]) (w4.setCell ⟨w.heap.size + 1, 2, none⟩ (.slice (some ⟨g, 0, none⟩) (i + 1) c)) := by
  have hsz : w.heap.size + 2 ≤ wr.heap.size := by have := (Array.getElem?_eq_some_iff.1 L.box).1; omega
  have h2 := hb2.size
  have h3 : (w2.alloc o).heap.size = w2.heap.size + 1 := by simp
  have h4 := hgr.below.size
  have hvb : ∀ k, v.ownBlock = some k → w.heap.size + 2 ≤ k ∧ k < wr.heap.size := fun k hk => L.row.lt k hk
  have hfar : ∀ k, k < w2.heap.size → v.ownBlock ≠ some k → w4.heap[k]? = w2.heap[k]? := fun k hk hne =>
    (hgr.far k (by omega) (Ne.symm hne)).trans (Below.heap_alloc _ _ _ hk)
  have hold : ∀ k, k < wr.heap.size → v.ownBlock ≠ some k → w4.heap[k]? = wr.heap[k]? := fun k hk hne =>
    (hfar k (by omega) hne).trans (hb2.block k hk)
  have hnot : ∀ k, k < w.heap.size + 2 → v.ownBlock ≠ some k := fun k hk e => by have := (hvb k e).1; omega
  have hbox : w4.heap[w.heap.size + 1]? = some (.cells #[.int .i64 n.sy, .int .i64 n.pr, v] 24 (0, 0)) := (hold _ (by omega) (hnot _ (by omega))).trans L.box
  have hset : ∀ k, k ≠ w.heap.size + 1 → ∀ u, (w4.setCell ⟨w.heap.size + 1, 2, none⟩ u).heap[k]? = w4.heap[k]? := fun k hk u => Below.heap_setCell _ _ _ _ hk
  have hszs : ∀ u, (w4.setCell ⟨w.heap.size + 1, 2, none⟩ u).heap.size = w4.heap.size := fun u => by simp
  refine ⟨hbox, ?_, ?_, setCell_heap (i := 2) hbox _, ?_, ?_, ?_⟩
  · exact (((L.below.trans (hb2.mono (by omega))).trans ((below_alloc w2 o).mono (by omega))).trans (hgr.below.mono (by omega))).setCell (p := ⟨w.heap.size + 1, 2, none⟩) (by show _ ≤ w.heap.size + 1; omega) _
  · rw [hset _ (by omega), hold _ (by omega) (hnot _ (by omega))]; exact L.res
  · rw [List.flatMap_append, List.flatMap_singleton]
    exact ownsRow_of_block hown fun k hk => hset k (by have := (hown.lt k hk).1; omega) _
  · intro p hp
    rcases List.mem_append.1 hp with hp | hp
    · refine (L.kid p hp).keep (by rw [hszs]; omega) fun b hb => ?_
      have hne : g ≠ b := fun e => by
        subst e
        rcases hgr.at_ with h | h
        · exact hb.2.2 h
        · omega
      exact ⟨⟨hb.1, by rw [hszs]; omega, fun e => hne (by simpa [Value.ownBlock] using e)⟩, fun _ => by rw [hset b (by omega), hold b hb.2.1 hb.2.2]⟩
    · obtain rfl := List.mem_singleton.1 hp
      refine hk.keep (by rw [hszs]; omega) fun b hb => ?_
      have hne : g ≠ b := fun e => by
        subst e
        rcases hgr.at_ with h | h
        · have := (hvb _ h).2; omega
        · omega
      exact ⟨⟨by omega, by rw [hszs]; omega, fun e => hne (by simpa [Value.ownBlock] using e)⟩, fun _ => by rw [hset b (by omega), hfar b hb.2 (fun e => by have := (hvb b e).2; omega)]⟩
  · rw [List.map_append, L.done, List.take_succ_eq_append_getElem hi, List.map_append]
    rfl

set_option maxRecDepth 100000 in
set_option maxHeartbeats 4000000 in
theorem tree_call (n : Nd) : ∀ (w : World), n.In w → n.WF →
    Calls Try.prog 54 #[n.ptr] w fun e w' => ∃ kv, e = .returned (.agg #[.int .i64 n.sy, .int .i64 n.pr, kv]) ∧ n.tree.On (fun b => w.heap.size ≤ b ∧ b < w'.heap.size) w' kv ∧ Below w.heap.size w w' := by
  revert n
  refine Nd.ind ?_
  intro n ih w hin hwf
  have hok := Nd.WF.ok n hwf
  have hht := hok.ht1
  have hlen := hok.klen
  have hal := below_alloc w (.cells #[.int .i64 0, .int .i64 0, .slice none 0 0] 24)
  have hn := heap_alloc_new w (.cells #[.int .i64 0, .int .i64 0, .slice none 0 0] 24)
  have hsz := (show (w.alloc (.cells #[.int .i64 0, .int .i64 0, .slice none 0 0] 24)).heap.size = w.heap.size + 1 by simp)
  have HM := Lib.hid (made_yes n _ (hin.below hal) (by omega))
  have HIN := Lib.hid hin
  have HWF := Lib.hid hwf
  have HIH := Lib.hid ih
  have HSZ := Lib.hid hsz
  clear ih hok
  unfold Nd.ptr at HM ⊢
  go_enter Try.func54, Try.ntmps54
  go_upto_region 3 with (first | (go_at_call 70; refine HM.out.mono ?_; rintro e w1 ⟨rfl, h1⟩; rw [h1]; clear h1))
  clear HM
  generalize w.alloc (.cells #[.int .i64 0, .int .i64 0, .slice none 0 0] 24) = W at *
  have hW := hin.below hal
  have hcs := hW.cells
  have p4 := hcs.c4
  have p5 := hcs.c5
  have ln := (Array.getElem?_eq_some_iff.1 hW.head.1).1
  have HALL := Lib.hid (fun o => And.intro (((below_alloc W.drew o).cell (p := ⟨n.b, 4, none⟩) ln).trans p4) (((below_alloc W.drew o).cell (p := ⟨n.b, 5, none⟩) ln).trans p5))
  clear hcs hW hwf hin
  go_region_held3 (fun W => W.cell? ⟨n.b, 4, none⟩ = some (.int .i64 n.sy) ∧ W.cell? ⟨n.b, 5, none⟩ = some (.int .i64 n.pr)) (first | exact ⟨p4, p5⟩ | exact HALL.out _) (first | fail)
  have hw1 : ∀ X, X = (W.alloc (.cells #[.int .i64 n.sy, .int .i64 n.pr, .slice none 0 0] 24)).drew → TreeLoop n w 0 (.slice none 0 0) [] X := by
    rintro X rfl
    have e1 : w.heap.size + 1 = W.heap.size := HSZ.out.symm
    refine ⟨(hal.alloc hal.size _).drew, (Below.heap_alloc _ _ _ (by omega)).trans hn, ?_, World.ownsRow_nil _ _ _ _, by simp, by simp⟩
    rw [e1]
    exact heap_alloc_new W _
  have HL := Lib.hid (hw1 _ rfl)
  generalize (W.alloc (.cells #[.int .i64 n.sy, .int .i64 n.pr, .slice none 0 0] 24)).drew = w1 at *
  clear hw1 HALL p4 p5 ln hn hal hsz HSZ
  have hin1 := HIN.out.below HL.out.below
  have c10 := hin1.cells.c10
  obtain ⟨A, c, hks, hkc⟩ := ownsRow_any HIN.out.head.2.1
  rw [hks] at c10
  have HKC := Lib.hid hkc
  clear hin1 hks hkc
  go_wp2_with fail
  go_loopw [24] (fun iv wx => ∃ (i : Nat) (v : Value) (l : List (Tr × Value)), iv = .int .i64 i ∧ i ≤ n.kids.length ∧ Hid (TreeLoop n w i v l wx)) (fun iv _ => n.kids.length - (intOf iv).toNat)
  case atStart => exact ⟨0, _, [], rfl, by omega, HL.out⟩
  case round =>
    obtain ⟨i, v, l, rfl, hi, L⟩ := hrel
    obtain ⟨va, vc, rfl⟩ := row_any L.out.row
    have lx := (Array.getElem?_eq_some_iff.1 L.out.box).1
    by_cases hlt : i < n.kids.length
    · obtain ⟨gk, rfl, _, lk, hcell⟩ := HKC.out i n.kids[i].ptr (by rw [List.getElem?_map, List.getElem?_eq_getElem hlt]; rfl)
      have hmem : n.kids[i] ∈ n.kids := List.getElem_mem hlt
      obtain ⟨kd, hkd⟩ : ∃ kd, n.kids[i] = kd := ⟨_, rfl⟩
      rw [hkd] at hcell hmem
      have kc := (L.out.below.cell (p := ⟨gk, _, none⟩) lk).trans hcell
      unfold Nd.ptr at kc
      have hcall := HIH.out kd hmem wr.drew ((HIN.out.head.2.2 kd hmem).below L.out.below.drew) (HWF.out.kid kd hmem)
      unfold Nd.ptr at hcall
      have HC := Lib.hid hcall
      have HKD := Lib.hid hkd
      have p2 := cell_of_heap (i := 2) (v := .slice va i vc) L.out.box rfl
      have hltI : (i : Int) < (n.kids.length : Int) := by omega
      have hi0 : (0 : Int) ≤ (i : Int) := Int.natCast_nonneg _
      clear hcell hmem hkd hcall
      go_upto_region 7 with (fail)
      refine wp_region_last (S := fun W => W.cell? ⟨w.heap.size + 1, 2, none⟩ = some (.slice va i vc)) (by kernel_rfl) p2 8 rfl (fun hH => ?_)
      (try simp only [List.getElem_toArray, List.getElem_cons_succ, List.getElem_cons_zero, Act.put, List.setIfInBounds_toArray, List.set_cons_zero, List.set_cons_succ])
      refine AnyL.take (i := 0) (v := ?_) rfl (by kernel_rfl) (by kernel_rfl) (by kernel_rfl) (fun _ _ _ h => h) (Or.inl ⟨by rfl, ?_⟩) hH ?_
      rotate_left
      · (intro w hSw; (try dsimp only at hSw); go_simp; (try with_reducible rfl))
      (try simp only [List.getElem_toArray, List.getElem_cons_succ, List.getElem_cons_zero, Act.put, List.setIfInBounds_toArray, List.set_cons_zero, List.set_cons_succ])
      refine AnyL.take (i := 1) (v := ?_) rfl (by kernel_rfl) (by kernel_rfl) (by kernel_rfl) (fun _ _ _ h => h) (Or.inl ⟨by rfl, ?_⟩) hH ?_
      rotate_left
      · (intro w hSw; (try dsimp only at hSw); go_simp; (try with_reducible rfl))
      (try simp only [List.getElem_toArray, List.getElem_cons_succ, List.getElem_cons_zero, Act.put, List.setIfInBounds_toArray, List.set_cons_zero, List.set_cons_succ])
      refine AnyL.take (i := 2) (v := ?_) rfl (by kernel_rfl) (by kernel_rfl) (by kernel_rfl) (fun _ _ _ h => h) (Or.inl ⟨by rfl, ?_⟩) hH ?_
      rotate_left
      · (intro w hSw; (try dsimp only at hSw); go_simp; (try with_reducible rfl))
      (try simp only [List.getElem_toArray, List.getElem_cons_succ, List.getElem_cons_zero, Act.put, List.setIfInBounds_toArray, List.set_cons_zero, List.set_cons_succ])
      refine AnyL.step (i := 3) (by kernel_rfl) rfl (fun K hK => ?_)
      (try simp only [List.getElem_toArray, List.getElem_cons_succ, List.getElem_cons_zero])
      go_simp
      go_at_call 54
      refine HC.out.mono ?_
      rintro e w2 ⟨kvi, rfl, hon, hb2⟩
      obtain ⟨ka, kcp, rfl⟩ := hon.len
      have p2' := (hb2.cell (p := ⟨w.heap.size + 1, 2, none⟩) lx).trans p2
      have hl2 : wr.heap.size ≤ w2.heap.size := hb2.size
      have HON := Lib.hid hon
      clear hon
      refine hK.out _ _ (.inr p2') ?_
      clear hK K
      (try simp only [List.getElem_toArray, List.getElem_cons_succ, List.getElem_cons_zero, Act.put, List.setIfInBounds_toArray, List.set_cons_zero, List.set_cons_succ])
      refine AnyL.step (i := 4) (by kernel_rfl) rfl (fun K hK => ?_)
      (try simp only [List.getElem_toArray, List.getElem_cons_succ, List.getElem_cons_zero])
      go_simp
      refine hK.out _ _ (.inr (((below_alloc w2 _).cell (p := ⟨w.heap.size + 1, 2, none⟩) (by show w.heap.size + 1 < _; omega)).trans p2')) ?_
      clear hK K
      (try simp only [List.getElem_toArray, List.getElem_cons_succ, List.getElem_cons_zero, Act.put, List.setIfInBounds_toArray, List.set_cons_zero, List.set_cons_succ])
      refine AnyL.step (i := 5) (by kernel_rfl) rfl (fun K hK => ?_)
      (try simp only [List.getElem_toArray, List.getElem_cons_succ, List.getElem_cons_zero])
      rw [if_pos (by kernel_rfl)]
      refine wp_push (.tmp 29) (.tmp 32) 22 rfl 24 _ 3 40 info24 Try.underlying22 rfl (by decide) (w.heap.size + 2) (.slice va i vc) i (l.flatMap kidC) (by simp [Act.eval, Act.put]) ((ownsRow_of_block L.out.row (fun k hk => hb2.block k (L.out.row.lt k hk).2)).alloc _) w2.heap.size [.int .i64 kd.sy, .int .i64 kd.pr, .slice ka kd.tree.kids.length kcp] (by simp [Act.eval, Act.put]) (heap_alloc_new _ _) rfl (by simp [Value.oneCell']) (by omega) (by omega) (by simp; omega) ?_
      intro g4 c4 w4 HOWN0 HGR0
      have HOWN := Lib.hid HOWN0
      have HGR := Lib.hid HGR0
      clear HOWN0 HGR0
      have G4 := ((HGR.out.far (w.heap.size + 1) (by simp; omega) (fun e => by have := (L.out.row.lt _ e.symm).1; omega)).trans ((Below.heap_alloc _ _ _ (by omega)).trans ((hb2.block _ lx).trans L.out.box)))
      have p4 := cell_of_heap (i := 2) (v := .slice va i vc) G4 rfl
      have z4 : w4.frozen? ⟨w.heap.size + 1, 2, none⟩ = false := frozen_of_heap G4
      refine hK.out _ _ (.inr p4) ?_
      clear hK K
      (try simp only [List.getElem_toArray, List.getElem_cons_succ, List.getElem_cons_zero, Act.put, List.setIfInBounds_toArray, List.set_cons_zero, List.set_cons_succ])
      refine AnyL.take (i := 6) (v := ?_) rfl (by kernel_rfl) (by kernel_rfl) (by kernel_rfl) (fun _ _ _ h => h) (Or.inl ⟨by rfl, ?_⟩) p4 ?_
      rotate_left
      · (intro w hSw; (try dsimp only at hSw); go_simp; (try with_reducible rfl))
      (try simp only [List.getElem_toArray, List.getElem_cons_succ, List.getElem_cons_zero, Act.put, List.setIfInBounds_toArray, List.set_cons_zero, List.set_cons_succ])
      refine AnyL.step (i := 7) (by kernel_rfl) rfl (fun K hK => ?_)
      (try simp only [List.getElem_toArray, List.getElem_cons_succ, List.getElem_cons_zero])
      go_simp
      refine hK.out _ _ (.inl (by kernel_rfl)) ?_
      clear hK K
      (try simp only [List.getElem_toArray, List.getElem_cons_succ, List.getElem_cons_zero, Act.put, List.setIfInBounds_toArray, List.set_cons_zero, List.set_cons_succ])
      refine AnyL.done (by kernel_rfl) ?_ _
      clear hH
      have hT := L.out.step hlt ((Below.refl _ wr).drew.trans hb2) (kv := .slice ka kd.tree.kids.length kcp) (by rw [HKD.out]; exact HON.out) (by rw [HKD.out]; unfold kidC; rw [kd.tree_sy, kd.tree_pr]; exact HOWN.out) HGR.out
      have HT := Lib.hid hT.2
      clear hT G4 p4 z4 p2 p2' kc
      generalize w4.setCell ⟨w.heap.size + 1, 2, none⟩ (.slice (some ⟨g4, 0, none⟩) (i + 1) c4) = w5 at *
      have hwi : IntKind.i64.wrap ((i : Int) + 1) = ((i + 1 : Nat) : Int) := by rw [IntKind.wrap_i64]; omega
      go_wp2_with fail
      go_roundw
      case rel => exact ⟨i + 1, _, _, by go_num, by omega, HT.out⟩
      case measure => simp [intOf]; omega
    · have hge : ¬ ((i : Int) < (n.kids.length : Int)) := by omega
      have p0 := cell_of_heap (i := 0) (v := .int .i64 n.sy) L.out.box rfl
      have p1 := cell_of_heap (i := 1) (v := .int .i64 n.pr) L.out.box rfl
      have p2 := cell_of_heap (i := 2) (v := .slice va i vc) L.out.box rfl
      have z0 : wr.frozen? ⟨w.heap.size, 0, none⟩ = false := frozen_of_heap L.out.res
      have z1 : wr.frozen? ⟨w.heap.size, 1, none⟩ = false := frozen_of_heap L.out.res
      have z2 : wr.frozen? ⟨w.heap.size, 2, none⟩ = false := frozen_of_heap L.out.res
      have r0 := cell_of_heap (i := 0) (v := .int .i64 0) L.out.res rfl
      have r1 := cell_of_heap (i := 1) (v := .int .i64 0) L.out.res rfl
      have r2 := cell_of_heap (i := 2) (v := .slice none 0 0) L.out.res rfl
      go_wp2_with fail
      have hil : i = n.kids.length := by omega
      subst hil
      have h0 := setCell_heap (i := 0) L.out.res (.int .i64 n.sy)
      have h1 := setCell_heap (i := 1) h0 (.int .i64 n.pr)
      have h2 := setCell_heap (i := 2) h1 (.slice va n.kids.length vc)
      have hset : ∀ k, k ≠ w.heap.size → (((wr.setCell ⟨w.heap.size, 0, none⟩ (.int .i64 n.sy)).setCell ⟨w.heap.size, 1, none⟩ (.int .i64 n.pr)).setCell ⟨w.heap.size, 2, none⟩ (.slice va n.kids.length vc)).heap[k]? = wr.heap[k]? := fun k hk => by
        rw [Below.heap_setCell _ _ _ _ hk, Below.heap_setCell _ _ _ _ hk, Below.heap_setCell _ _ _ _ hk]
      have hbf := ((L.out.below.setCell (p := ⟨w.heap.size, 0, none⟩) (Nat.le_refl _) (.int .i64 n.sy)).setCell (p := ⟨w.heap.size, 1, none⟩) (Nat.le_refl _) (.int .i64 n.pr)).setCell (p := ⟨w.heap.size, 2, none⟩) (Nat.le_refl _) (.slice va n.kids.length vc)
      have hsf : (((wr.setCell ⟨w.heap.size, 0, none⟩ (.int .i64 n.sy)).setCell ⟨w.heap.size, 1, none⟩ (.int .i64 n.pr)).setCell ⟨w.heap.size, 2, none⟩ (.slice va n.kids.length vc)).heap.size = wr.heap.size := by simp
      have hdone : l.map Prod.fst = n.tree.kids := by rw [L.out.done, List.take_length, n.tree_kids]
      have hon : n.tree.On (fun b => w.heap.size + 2 ≤ b ∧ b < wr.heap.size) wr (.slice va n.kids.length vc) :=
        Tr.On.of_row L.out.row hdone (fun p hp => (L.out.kid p hp).keep (Nat.le_refl _) fun b hb => ⟨⟨hb.1, hb.2.1⟩, fun _ => rfl⟩) fun g hg => L.out.row.lt g hg
      clear r0 r1 r2 z0 z1 z2 p0 p1 p2
      generalize ((wr.setCell ⟨w.heap.size, 0, none⟩ (.int .i64 n.sy)).setCell ⟨w.heap.size, 1, none⟩ (.int .i64 n.pr)).setCell ⟨w.heap.size, 2, none⟩ (.slice va n.kids.length vc) = wf at *
      have y0 : wf.cell? ⟨w.heap.size, 0, none⟩ = some (.int .i64 n.sy) := cell_of_heap h2 rfl
      have y1 : wf.cell? ⟨w.heap.size, 1, none⟩ = some (.int .i64 n.pr) := cell_of_heap h2 rfl
      have y2 : wf.cell? ⟨w.heap.size, 2, none⟩ = some (.slice va n.kids.length vc) := cell_of_heap h2 rfl
      exact bodyPost_ret (v := .agg #[.int .i64 n.sy, .int .i64 n.pr, .slice va n.kids.length vc]) (by simp [results, Try.results54, go_sem, y0, y1, y2]) rfl ⟨_, rfl, hon.keep (by omega) fun b hb => ⟨by omega, fun _ => hset b (by omega)⟩, hbf⟩

end Go.Proofs.Ytcjpmgfobnaoeaa
