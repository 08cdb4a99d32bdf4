/- body: a production out of a tree's kids. -/
import Derived.Test.YtcjpmgfobnaoeaaA8
import Derived.Test.YtcjpmgfobnaoeaaA11
import Derived.Deep.RegionLaw
namespace Go.Proofs.Ytcjpmgfobnaoeaa
open Go.RowKit

theorem info3 : (Try.prog.info? 3).map (fun i => (i.zero, i.size, i.bytes)) = some (some (.int .i64 0), 1, 8) := by kernel_rfl

def ints (xs : List Int) : List Value := xs.map (Value.int .i64)

theorem far_alloc {wr w4 : World} {o : Obj} {base e sz n g k : Nat} {v : Value} {xs : List Value} {cs : Array Value} {t : TypeId} (hgr : Grew base v (wr.alloc o).drew w4 g) (hown : wr.ownsRow base e sz v n xs) (hk : wr.heap[k]? = some (.cells cs t (0, 0))) (ht : t ≠ e) :
    w4.heap[k]? = some (.cells cs t (0, 0)) := by
  have hl := (Array.getElem?_eq_some_iff.1 hk).1
  rw [hgr.far k (by show k < (wr.alloc o).heap.size; simp; omega) (own_ne hown hk ht)]
  exact (Below.heap_alloc wr o k hl).trans hk

set_option maxHeartbeats 4000000 in
theorem body_call (B : Nat) (t : Tr) (kv : Value) (w : World) (hat : t.At B w kv) (hB : B ≤ w.heap.size) (hl : t.kids.length ≤ 1000000) :
    Calls Try.prog 82 #[.agg #[.int .i64 t.sy, .int .i64 t.pr, kv]] w fun e w' => ∃ bv, e = .returned (.agg #[.int .i64 t.sy, bv, .bool false]) ∧ w'.ownsRow w.heap.size 3 1 bv t.kids.length (ints (t.kids.map Tr.sy)) ∧ Below w.heap.size w w' := by
  obtain ⟨a, c, rfl, hts⟩ := hat.len
  have HTS := Lib.hid hts
  have hbox : ∀ W, W = ((w.alloc (.cells #[.int .i64 t.sy, .int .i64 t.pr, .slice a t.kids.length c] 24)).alloc (.cells #[.int .i64 0, .slice none 0 0, .bool false] 54)).alloc (.cells #[.int .i64 t.sy, .slice none 0 0, .bool false] 54) → Below w.heap.size w W ∧
      W.heap[w.heap.size]? = some (.cells #[.int .i64 t.sy, .int .i64 t.pr, .slice a t.kids.length c] 24 (0, 0)) ∧ W.heap[w.heap.size + 1]? = some (.cells #[.int .i64 0, .slice none 0 0, .bool false] 54 (0, 0)) ∧
      W.heap[w.heap.size + 1 + 1]? = some (.cells #[.int .i64 t.sy, .slice none 0 0, .bool false] 54 (0, 0)) := by
    rintro W rfl
    refine ⟨(((Below.refl _ _).alloc (Nat.le_refl _) _).alloc (by simp) _).alloc (by simp; omega) _, ?_, ?_, ?_⟩
    · rw [Below.heap_alloc _ _ _ (by simp; omega), Below.heap_alloc _ _ _ (by simp)]; exact heap_alloc_new _ _
    · rw [Below.heap_alloc _ _ _ (by simp)]
      have := heap_alloc_new (w.alloc (.cells #[.int .i64 t.sy, .int .i64 t.pr, .slice a t.kids.length c] 24)) (.cells #[.int .i64 0, .slice none 0 0, .bool false] 54)
      simpa using this
    · have := heap_alloc_new ((w.alloc (.cells #[.int .i64 t.sy, .int .i64 t.pr, .slice a t.kids.length c] 24)).alloc (.cells #[.int .i64 0, .slice none 0 0, .bool false] 54)) (.cells #[.int .i64 t.sy, .slice none 0 0, .bool false] 54)
      simpa using this
  have HBOX := Lib.hid hbox
  clear hat hts hbox
  go_enter Try.func82, Try.ntmps82
  go_wp2_with fail
  obtain ⟨eb, x1, x2, x3⟩ := HBOX.out _ rfl
  generalize ((w.alloc (.cells #[.int .i64 t.sy, .int .i64 t.pr, .slice a t.kids.length c] 24)).alloc (.cells #[.int .i64 0, .slice none 0 0, .bool false] 54)).alloc (.cells #[.int .i64 t.sy, .slice none 0 0, .bool false] 54) = W at *
  have HXS := Lib.hid (And.intro x1 (And.intro x2 x3))
  clear HBOX x1 x2 x3
  go_loopg [4] t.kids.length (fun gi iv wx => ∃ (i : Nat) (v : Value), iv = .int .i64 i ∧ i + gi = t.kids.length ∧ Below w.heap.size w wx ∧ wx.heap[w.heap.size]? = some (.cells #[.int .i64 t.sy, .int .i64 t.pr, .slice a t.kids.length c] 24 (0, 0)) ∧
      wx.heap[w.heap.size + 1]? = some (.cells #[.int .i64 0, .slice none 0 0, .bool false] 54 (0, 0)) ∧ wx.heap[w.heap.size + 1 + 1]? = some (.cells #[.int .i64 t.sy, v, .bool false] 54 (0, 0)) ∧
      wx.ownsRow w.heap.size 3 1 v i (ints ((t.kids.take i).map Tr.sy)))
  case atStart => exact ⟨0, _, rfl, by omega, eb, HXS.out.1, HXS.out.2.1, HXS.out.2.2, World.ownsRow_nil _ _ _ _⟩
  case round =>
    obtain ⟨i, v, rfl, hi, hbx, hx1, hx2, hx3, hown⟩ := hrel
    have y2 : wr.cell? ⟨w.heap.size, 2, none⟩ = some (.slice a t.kids.length c) := cell_of_heap hx1 rfl
    have l1 : w.heap.size + 1 + 1 < wr.heap.size := (Array.getElem?_eq_some_iff.1 hx3).1
    by_cases hlt : i < t.kids.length
    · obtain ⟨b, o, kvi, rfl, hb, q0, q1, q2, hati⟩ := HTS.out.get i hlt
      obtain ⟨kd, hkd⟩ : ∃ kd, kd = t.kids[i] := ⟨_, rfl⟩
      rw [← hkd] at q0
      rw [Nat.zero_add] at q0
      have hbw : b < w.heap.size := by omega
      have hbr : b < wr.heap.size := by omega
      have d0 : wr.cell? ⟨b, o + i * 3, none⟩ = some (.int .i64 kd.sy) := (hbx.cell (p := ⟨b, _, none⟩) hbw).trans q0
      have y3 : wr.cell? ⟨w.heap.size + 1 + 1, 1, none⟩ = some v := cell_of_heap hx3 rfl
      have z3 : wr.frozen? ⟨w.heap.size + 1 + 1, 1, none⟩ = false := frozen_of_heap hx3
      have HX := Lib.hid (And.intro hx1 (And.intro hx2 hx3))
      have HKD := Lib.hid hkd
      have hltI : (i : Int) < (t.kids.length : Int) := by omega
      have hi0 : (0 : Int) ≤ (i : Int) := Int.natCast_nonneg _
      clear q0 q1 q2 hati hx1 hx2 hx3 hkd
      go_wp2_with fail
      go_region_law (first | (refine step_push rfl (.tmp 16) (.tmp 23) 52 rfl 3 _ 1 8 info3 Try.underlying52 rfl (by decide) w.heap.size v i (ints ((t.kids.take i).map Tr.sy)) (by simp [Act.eval]) (hown.alloc _) wr.heap.size [.int .i64 kd.sy] (by simp [Act.eval]) (heap_alloc_new _ _) rfl (by simp [Value.oneCell']) (by omega) (by omega) (by have := hbx.size; simp; omega) ?_; intro g4 c4 w4 hown4 hgr4; have y4 := cell_of_heap (i := 1) (v := v) (far_alloc hgr4 hown HX.out.2.2 (by decide)) rfl; have z4 := frozen_of_heap (i := 1) (far_alloc hgr4 hown HX.out.2.2 (by decide))))
      all_goals go_wp2_with fail
      all_goals
        have F3 := setCell_heap (i := 1) (far_alloc hgr4 hown HX.out.2.2 (by decide)) (.slice (some ⟨g4, 0, none⟩) (i + 1) c4)
        have F1 := (Below.heap_setCell w4 ⟨w.heap.size + 1 + 1, 1, none⟩ (.slice (some ⟨g4, 0, none⟩) (i + 1) c4) w.heap.size (by show _ ≠ w.heap.size + 1 + 1; omega)).trans (far_alloc hgr4 hown HX.out.1 (by decide))
        have F2 := (Below.heap_setCell w4 ⟨w.heap.size + 1 + 1, 1, none⟩ (.slice (some ⟨g4, 0, none⟩) (i + 1) c4) (w.heap.size + 1) (by show _ ≠ w.heap.size + 1 + 1; omega)).trans (far_alloc hgr4 hown HX.out.2.1 (by decide))
        have F4 := ownsRow_of_block hown4 (fun k hk => Below.heap_setCell w4 ⟨w.heap.size + 1 + 1, 1, none⟩ (.slice (some ⟨g4, 0, none⟩) (i + 1) c4) k (fun e => own_ne hown4 (far_alloc hgr4 hown HX.out.2.2 (by decide)) (by decide) (by rw [hk, e])))
        have F5 : Below w.heap.size w (w4.setCell ⟨w.heap.size + 1 + 1, 1, none⟩ (.slice (some ⟨g4, 0, none⟩) (i + 1) c4)) := (hbx.trans (((Below.refl _ _).alloc hbx.size _).drew.trans hgr4.below)).setCell (p := ⟨w.heap.size + 1 + 1, 1, none⟩) (by show w.heap.size ≤ w.heap.size + 1 + 1; omega) _
        go_roundg (gk - 1)
        case measure => omega
        case rel =>
          refine ⟨i + 1, _, by go_num, by omega, F5, F1, F2, F3, ?_⟩
          have e : ints ((t.kids.take (i + 1)).map Tr.sy) = ints ((t.kids.take i).map Tr.sy) ++ [.int .i64 kd.sy] := by
            rw [List.take_succ_eq_append_getElem hlt, ← HKD.out]; simp [ints]
          rw [e]
          exact F4
    · have hge : ¬ ((i : Int) < (t.kids.length : Int)) := by omega
      have hil : i = t.kids.length := by omega
      rw [hil, List.take_length] at hown
      obtain ⟨va, vc, rfl, _⟩ := ownsRow_any hown
      have y30 : wr.cell? ⟨w.heap.size + 1 + 1, 0, none⟩ = some (.int .i64 t.sy) := cell_of_heap hx3 rfl
      have y31 : wr.cell? ⟨w.heap.size + 1 + 1, 1, none⟩ = some (.slice va t.kids.length vc) := cell_of_heap hx3 rfl
      have y32 : wr.cell? ⟨w.heap.size + 1 + 1, 2, none⟩ = some (.bool false) := cell_of_heap hx3 rfl
      have y20 : wr.cell? ⟨w.heap.size + 1, 0, none⟩ = some (.int .i64 0) := cell_of_heap hx2 rfl
      have y21 : wr.cell? ⟨w.heap.size + 1, 1, none⟩ = some (.slice none 0 0) := cell_of_heap hx2 rfl
      have y22 : wr.cell? ⟨w.heap.size + 1, 2, none⟩ = some (.bool false) := cell_of_heap hx2 rfl
      have z20 : ∀ i, wr.frozen? ⟨w.heap.size + 1, i, none⟩ = false := fun i => frozen_of_heap hx2
      have HX := Lib.hid (And.intro hx1 (And.intro hx2 hx3))
      clear hx1 hx2 hx3 hil
      go_wp2_with fail
      obtain ⟨hx1, hx2, hx3⟩ := HX.out
      have G0 := setCell_heap (i := 0) hx2 (.int .i64 t.sy)
      have G1 := setCell_heap (i := 1) G0 (.slice va t.kids.length vc)
      have G2 := setCell_heap (i := 2) G1 (.bool false)
      have r0 := cell_of_heap (i := 0) (v := .int .i64 t.sy) G2 rfl
      have r1 := cell_of_heap (i := 1) (v := .slice va t.kids.length vc) G2 rfl
      have r2 := cell_of_heap (i := 2) (v := .bool false) G2 rfl
      refine bodyPost_ret (v := .agg #[.int .i64 t.sy, .slice va t.kids.length vc, .bool false]) (by simp [results, Try.results82, go_sem, r0, r1, r2]) rfl ⟨_, rfl, ?_, ((hbx.setCell (p := ⟨w.heap.size + 1, 0, none⟩) (by show w.heap.size ≤ w.heap.size + 1; omega) _).setCell (p := ⟨w.heap.size + 1, 1, none⟩) (by show w.heap.size ≤ w.heap.size + 1; omega) _).setCell (p := ⟨w.heap.size + 1, 2, none⟩) (by show w.heap.size ≤ w.heap.size + 1; omega) _⟩
      refine ownsRow_of_block hown fun k hk => ?_
      have hne : k ≠ w.heap.size + 1 := fun e => own_ne hown hx2 (by decide) (by rw [hk, e])
      rw [Below.heap_setCell _ _ _ _ hne, Below.heap_setCell _ _ _ _ hne, Below.heap_setCell _ _ _ _ hne]
end Go.Proofs.Ytcjpmgfobnaoeaa
