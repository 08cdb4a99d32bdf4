/- The builder's stamps and tokens. -/
import Derived.Test.YtcjpmgfobnaoeaaA4
import Derived.BigRegion
namespace Go.Proofs.Ytcjpmgfobnaoeaa
open Go.RowKit

theorem setCell_heap {w : World} {g i : Nat} {c : Array Value} {e : TypeId} {fr : Nat × Nat} (h : w.heap[g]? = some (.cells c e fr)) (v : Value) : (w.setCell ⟨g, i, none⟩ v).heap[g]? = some (.cells (c.setIfInBounds i v) e fr) := by
  simp [World.setCell, Array.getElem?_modify, h]

theorem gb_refl (w : World) (r : Option Nat) : w.grownBy w r := ⟨rfl, rfl, rfl, Nat.le_refl _, fun _ _ _ => rfl⟩
theorem gb_trans {a b c : World} {r : Option Nat} (h : a.grownBy b r) (k : b.grownBy c r) : a.grownBy c r :=
  ⟨k.os.trans h.os, k.tape.trans h.tape, k.output.trans h.output, Nat.le_trans h.size k.size, fun i hi hn => (k.block i (Nat.lt_of_lt_of_le hi h.size) hn).trans (h.block i hi hn)⟩
theorem gb_alloc {a w : World} {r : Option Nat} (h : a.grownBy w r) (o : Obj) : a.grownBy (w.alloc o) r := gb_trans h (World.grownBy_alloc w o r)
theorem gb_drew {a w : World} {r : Option Nat} (h : a.grownBy w r) : a.grownBy w.drew r := gb_trans h ⟨rfl, rfl, rfl, Nat.le_refl _, fun _ _ _ => rfl⟩
theorem gb_set {a w : World} {g : Nat} (h : a.grownBy w (some g)) (i : Nat) (v : Value) : a.grownBy (w.setCell ⟨g, i, none⟩ v) (some g) :=
  gb_trans h ⟨rfl, rfl, rfl, by simp [World.setCell], fun k _ hn => Below.heap_setCell _ _ _ _ (fun e => hn (by rw [e]))⟩
theorem gb_below {a b w : World} {r : Option Nat} (h : a.grownBy b r) (k : Below b.heap.size b w) : a.grownBy w r :=
  gb_trans h ⟨k.os, k.tape, k.output, k.size, fun i hi _ => k.block i hi⟩
theorem below_gb {B : Nat} {a w : World} {g : Nat} (h : a.grownBy w (some g)) (hB : B ≤ g) (hs : B ≤ a.heap.size) : Below B a w :=
  (Below.refl _ _).grown h hs (fun k hk => by cases hk; exact hB)

/-- The builder's cells. -/
def bcells (sy pr : Int) (kv tv sv : Value) (lv md : Nat) : Array Value := #[.int .i64 sy, .int .i64 pr, kv, tv, sv, .int .i64 lv, .int .i64 md]

/-- A stamp's cells; a token's. -/
def stCells (s : Int × Int × Bool) : List Value := [.int .i64 s.1, .int .i64 s.2.1, .bool s.2.2]
def tkCells (t : Int × Int × Int) : List Value := [.int .i64 t.1, .int .i64 t.2.1, .int .i64 t.2.2]

/-- The stamp that comes next. -/
def stampAt (sts : List (Int × Int × Bool)) (md : Nat) : Int × Int × Bool := sts.getD (md % sts.length) (0, 0, false)

set_option maxHeartbeats 2000000 in
theorem stamp_call (g B : Nat) (sy pr : Int) (kv tv sv : Value) (lv md : Nat) (sts : List (Int × Int × Bool)) (w : World) (hg : w.heap[g]? = some (.cells (bcells sy pr kv tv sv lv md) 91 (0, 0))) (hs : SlcAt B w 3 sv (sts.map stCells)) (hmd : md ≤ 1000000) :
    Calls Try.prog 80 #[.pointer (some ⟨g, 0, none⟩)] w fun e w' => e = .returned (.agg #[.int .i64 (stampAt sts md).1, .int .i64 (stampAt sts md).2.1, .bool (stampAt sts md).2.2]) ∧
      w'.heap[g]? = some (.cells (bcells sy pr kv tv sv lv (md + 1)) 91 (0, 0)) ∧ w.grownBy w' (some g) := by
  have lg : g < w.heap.size := (Array.getElem?_eq_some_iff.1 hg).1
  have c4 : w.cell? ⟨g, 4, none⟩ = some sv := cell_of_heap hg rfl
  have c6 : w.cell? ⟨g, 6, none⟩ = some (.int .i64 md) := cell_of_heap hg rfl
  have fz : w.frozen? ⟨g, 6, none⟩ = false := frozen_of_heap hg
  obtain ⟨a, cp, rfl, hcell⟩ := hs.val
  simp only [List.length_map] at hcell
  rw [List.length_map] at c4
  by_cases h0 : sts = []
  · subst h0
    have e : stampAt [] md = (0, 0, false) := by simp [stampAt]
    rw [e]
    clear e hcell hs
    simp only [List.length_nil] at c4
    have HG := Lib.hid hg
    clear hg
    go_enter Try.func80, Try.ntmps80
    go_wp2
    have HG2 := setCell_heap (i := 6) HG.out (.int .i64 ((md : Int) + 1))
    exact bodyPost_ret (v := .agg #[.int .i64 0, .int .i64 0, .bool false]) (by simp [results, Try.results80, go_sem]) rfl ⟨rfl, by
      rw [Below.heap_alloc _ _ _ (by simp [World.setCell]; omega), Below.heap_alloc _ _ _ (by simp [World.setCell]; omega), HG2]; simp [bcells], gb_alloc (gb_alloc (gb_set (gb_refl _ _) _ _) _) _⟩
  · have hlen : 0 < sts.length := by cases sts with | nil => exact absurd rfl h0 | cons => simp
    obtain ⟨b, o, rfl, hb, hcp, hc⟩ := hcell hlen
    have hm : md % sts.length < sts.length := Nat.mod_lt _ hlen
    have hst : stampAt sts md = sts[md % sts.length] := by simp [stampAt, List.getD, hm]
    rw [hst]
    generalize hx : sts[md % sts.length] = x at *
    have d0 : w.cell? ⟨b, o + md % sts.length * 3, none⟩ = some (.int .i64 x.1) := hc (md % sts.length) hm 0 _ (by simp [stCells, hx])
    have d1 : w.cell? ⟨b, o + md % sts.length * 3 + 1, none⟩ = some (.int .i64 x.2.1) := hc (md % sts.length) hm 1 _ (by simp [stCells, hx])
    have d2 : w.cell? ⟨b, o + md % sts.length * 3 + 2, none⟩ = some (.bool x.2.2) := hc (md % sts.length) hm 2 _ (by simp [stCells, hx])
    have hmod : ((md : Int).tmod (sts.length : Int)) = ((md % sts.length : Nat) : Int) := by rw [Int.tmod_eq_emod_of_nonneg (by omega)]; rfl
    have hmw : IntKind.i64.wrap ((md : Int).tmod (sts.length : Int)) = ((md % sts.length : Nat) : Int) := by
      rw [hmod, IntKind.wrap_i64]; have := Nat.mod_le md sts.length; omega
    have hlt1 : ((md % sts.length : Nat) : Int) < (sts.length : Int) := by omega
    have HG := Lib.hid hg
    have lb : b < w.heap.size := World.block_lt_of_cell? w _ d0
    clear hg hx hst hc hcell hs h0
    generalize md % sts.length = r at *
    have hlenI : (0 : Int) < (sts.length : Int) := by omega
    go_enter Try.func80, Try.ntmps80
    go_wp2
    go_region
    go_wp2
    have HG2 := setCell_heap (i := 6) HG.out (.int .i64 ((md : Int) + 1))
    exact bodyPost_ret (v := .agg #[.int .i64 x.1, .int .i64 x.2.1, .bool x.2.2]) (by simp [results, Try.results80, go_sem]) rfl ⟨rfl, by
      show (World.alloc (World.alloc _ _) _).heap[g]? = _
      rw [Below.heap_alloc _ _ _ (by simp [World.setCell]; omega), Below.heap_alloc _ _ _ (by simp [World.setCell]; omega), HG2]; simp [bcells], gb_drew (gb_alloc (gb_alloc (gb_set (gb_refl _ _) _ _) _) _)⟩

/-- The lead and the width that come next. -/
def leadAt (tks : List (Int × Int × Int)) (lv : Nat) : Int × Int := ((tks.getD (lv % tks.length) (0, 0, 0)).2.1, (tks.getD (lv % tks.length) (0, 0, 0)).2.2)

set_option maxHeartbeats 2000000 in
theorem token_call (g B : Nat) (sy pr kind : Int) (kv tv sv : Value) (lv md : Nat) (tks : List (Int × Int × Int)) (w : World) (hg : w.heap[g]? = some (.cells (bcells sy pr kv tv sv lv md) 91 (0, 0))) (hs : SlcAt B w 3 tv (tks.map tkCells)) (hlv : lv ≤ 1000000) :
    Calls Try.prog 81 #[.pointer (some ⟨g, 0, none⟩), .int .i64 kind] w fun e w' => e = .returned (.agg #[.int .i64 kind, .int .i64 (leadAt tks lv).1, .int .i64 (leadAt tks lv).2]) ∧
      w'.heap[g]? = some (.cells (bcells sy pr kv tv sv (lv + 1) md) 91 (0, 0)) ∧ w.grownBy w' (some g) := by
  have lg : g < w.heap.size := (Array.getElem?_eq_some_iff.1 hg).1
  have c3 : w.cell? ⟨g, 3, none⟩ = some tv := cell_of_heap hg rfl
  have c5 : w.cell? ⟨g, 5, none⟩ = some (.int .i64 lv) := cell_of_heap hg rfl
  have HG := Lib.hid hg
  have hval := hs.val
  clear hg hs
  go_enter Try.func81, Try.ntmps81
  apply wp_seq_k
  intro K1 h1
  have H1 := Lib.hid h1
  clear h1
  go_wp2_with fail
  refine H1.out _ _ ?_
  clear H1 K1
  apply wp_seq_k
  intro K1 h1
  have H1 := Lib.hid h1
  clear h1
  go_wp2_with fail
  refine H1.out _ _ ?_
  clear H1 K1
  apply wp_seq_k
  intro K1 h1
  go_cut [6] (fun _ wx => wx.heap[w.heap.size + 1]? = some (.cells #[.int .i64 kind, .int .i64 (leadAt tks lv).1, .int .i64 (leadAt tks lv).2] 72 (0, 0)) ∧ wx.heap[w.heap.size]? = some (.cells #[.int .i64 0, .int .i64 0, .int .i64 0] 72 (0, 0)) ∧
     Below w.heap.size w wx)
  case first =>
    obtain ⟨a, cp, rfl, hcell⟩ := hval
    simp only [List.length_map] at hcell
    rw [List.length_map] at c3
    have HC := Lib.hid hcell
    clear hcell
    by_cases h0 : tks = []
    · subst h0
      simp only [List.length_nil] at c3
      go_wp2
      go_meet
      refine ⟨?_, ?_, ((Below.refl _ _).alloc (Nat.le_refl _) _).alloc (by simp) _⟩
      · have := heap_alloc_new (w.alloc (.cells #[.int .i64 0, .int .i64 0, .int .i64 0] 72)) (.cells #[.int .i64 kind, .int .i64 0, .int .i64 0] 72)
        simpa [leadAt] using this
      · rw [Below.heap_alloc _ _ _ (by simp)]; exact heap_alloc_new _ _
    · have hlen : 0 < tks.length := by cases tks with | nil => exact absurd rfl h0 | cons => simp
      obtain ⟨b, o, rfl, hb, hcp, hc⟩ := HC.out hlen
      have hm : lv % tks.length < tks.length := Nat.mod_lt _ hlen
      have hst : leadAt tks lv = (tks[lv % tks.length].2.1, tks[lv % tks.length].2.2) := by simp [leadAt, List.getD, hm]
      have HST := Lib.hid hst
      clear hst
      generalize hx : tks[lv % tks.length] = x at *
      have d0 : w.cell? ⟨b, o + lv % tks.length * 3, none⟩ = some (.int .i64 x.1) := hc (lv % tks.length) hm 0 _ (by simp [tkCells, hx])
      have d1 : w.cell? ⟨b, o + lv % tks.length * 3 + 1, none⟩ = some (.int .i64 x.2.1) := hc (lv % tks.length) hm 1 _ (by simp [tkCells, hx])
      have d2 : w.cell? ⟨b, o + lv % tks.length * 3 + 2, none⟩ = some (.int .i64 x.2.2) := hc (lv % tks.length) hm 2 _ (by simp [tkCells, hx])
      have hmod : ((lv : Int).tmod (tks.length : Int)) = ((lv % tks.length : Nat) : Int) := by rw [Int.tmod_eq_emod_of_nonneg (by omega)]; rfl
      have hmw : IntKind.i64.wrap ((lv : Int).tmod (tks.length : Int)) = ((lv % tks.length : Nat) : Int) := by
        rw [hmod, IntKind.wrap_i64]; have := Nat.mod_le lv tks.length; omega
      have hlt1 : ((lv % tks.length : Nat) : Int) < (tks.length : Int) := by omega
      have lb : b < w.heap.size := World.block_lt_of_cell? w _ d0
      clear HG HC hx hc
      have HST2 : Hid (leadAt tks lv = (x.2.1, x.2.2)) := HST.out
      clear HST
      generalize lv % tks.length = r at *
      have hlenI : (0 : Int) < (tks.length : Int) := by omega
      have k3 : ∀ A B : Obj, ((w.alloc A).alloc B).cell? ⟨g, 3, none⟩ = some (.slice (some ⟨b, o, none⟩) tks.length cp) := fun A B => by rw [World.cell?_alloc_lt _ _ _ (by simp; omega), World.cell?_alloc_lt _ _ _ lg]; exact c3
      have k5 : ∀ A B : Obj, ((w.alloc A).alloc B).cell? ⟨g, 5, none⟩ = some (.int .i64 lv) := fun A B => by rw [World.cell?_alloc_lt _ _ _ (by simp; omega), World.cell?_alloc_lt _ _ _ lg]; exact c5
      have kd0 : ∀ A B : Obj, ((w.alloc A).alloc B).cell? ⟨b, o + r * 3, none⟩ = some (.int .i64 x.1) := fun A B => by rw [World.cell?_alloc_lt _ _ _ (by simp; omega), World.cell?_alloc_lt _ _ _ lb]; exact d0
      have kd1 : ∀ A B : Obj, ((w.alloc A).alloc B).cell? ⟨b, o + r * 3 + 1, none⟩ = some (.int .i64 x.2.1) := fun A B => by rw [World.cell?_alloc_lt _ _ _ (by simp; omega), World.cell?_alloc_lt _ _ _ lb]; exact d1
      have kd2 : ∀ A B : Obj, ((w.alloc A).alloc B).cell? ⟨b, o + r * 3 + 2, none⟩ = some (.int .i64 x.2.2) := fun A B => by rw [World.cell?_alloc_lt _ _ _ (by simp; omega), World.cell?_alloc_lt _ _ _ lb]; exact d2
      go_wp2
      go_region_held3 (fun W => W.cell? ⟨g, 3, none⟩ = some (.slice (some ⟨b, o, none⟩) tks.length cp) ∧ W.cell? ⟨g, 5, none⟩ = some (.int .i64 lv) ∧ W.cell? ⟨b, o + r * 3, none⟩ = some (.int .i64 x.1) ∧
          W.cell? ⟨b, o + r * 3 + 1, none⟩ = some (.int .i64 x.2.1) ∧ W.cell? ⟨b, o + r * 3 + 2, none⟩ = some (.int .i64 x.2.2)) (go_keep) (fail)
      go_wp2
      go_region
      go_wp2_with fail
      go_meet
      refine ⟨?_, ?_, ((((Below.refl _ _).alloc (Nat.le_refl _) _).alloc (by simp) _).alloc (by simp; omega) _).drew.drew⟩
      · show (World.alloc _ _).heap[w.heap.size + 1]? = _
        rw [Below.heap_alloc _ _ _ (by simp)]
        have := heap_alloc_new (w.alloc (.cells #[.int .i64 0, .int .i64 0, .int .i64 0] 72)) (.cells #[.int .i64 kind, .int .i64 x.2.1, .int .i64 x.2.2] 72)
        rw [HST2.out]
        simpa using this
      · show (World.alloc (World.alloc _ _) _).heap[w.heap.size]? = _
        rw [Below.heap_alloc _ _ _ (by simp; omega), Below.heap_alloc _ _ _ (by simp)]; exact heap_alloc_new _ _
  case rest =>
    obtain ⟨q1, q2, qb⟩ := hcut
    have HG1 := (qb.block g lg).trans HG.out
    have k5 : wc.cell? ⟨g, 5, none⟩ = some (.int .i64 lv) := cell_of_heap HG1 rfl
    have kz : wc.frozen? ⟨g, 5, none⟩ = false := frozen_of_heap HG1
    have HG2 := setCell_heap (i := 5) HG1 (.int .i64 ((lv : Int) + 1))
    have HQ1 := (Below.heap_setCell wc ⟨g, 5, none⟩ (.int .i64 ((lv : Int) + 1)) (w.heap.size + 1) (by show _ ≠ g; omega)).trans q1
    have HQ2 := (Below.heap_setCell wc ⟨g, 5, none⟩ (.int .i64 ((lv : Int) + 1)) (w.heap.size) (by show _ ≠ g; omega)).trans q2
    have t0 := cell_of_heap (i := 0) HQ1 rfl
    have t1 := cell_of_heap (i := 1) HQ1 rfl
    have t2 := cell_of_heap (i := 2) HQ1 rfl
    have r0 := cell_of_heap (i := 0) HQ2 rfl
    have r1 := cell_of_heap (i := 1) HQ2 rfl
    have r2 := cell_of_heap (i := 2) HQ2 rfl
    have z0 : ∀ i, (wc.setCell ⟨g, 5, none⟩ (.int .i64 ((lv : Int) + 1))).frozen? ⟨w.heap.size, i, none⟩ = false := fun i => frozen_of_heap HQ2
    refine h1 _ _ ?_
    clear h1 K1 hval c3 c5
    have HQ := Lib.hid (And.intro HG2 (And.intro HQ1 HQ2))
    have HQB := Lib.hid qb
    clear HG1 HG2 HQ1 HQ2 q1 q2 qb
    go_wp2
    obtain ⟨HG2, HQ1, HQ2⟩ := HQ.out
    have F0 := setCell_heap (i := 0) HQ2 (.int .i64 kind)
    have F1 := setCell_heap (i := 1) F0 (.int .i64 (leadAt tks lv).1)
    have F2 := setCell_heap (i := 2) F1 (.int .i64 (leadAt tks lv).2)
    have f0 := cell_of_heap (i := 0) (v := .int .i64 kind) F2 rfl
    have f1 := cell_of_heap (i := 1) (v := .int .i64 (leadAt tks lv).1) F2 rfl
    have f2 := cell_of_heap (i := 2) (v := .int .i64 (leadAt tks lv).2) F2 rfl
    refine bodyPost_ret (v := .agg #[.int .i64 kind, .int .i64 (leadAt tks lv).1, .int .i64 (leadAt tks lv).2]) (by simp [results, Try.results81, go_sem, f0, f1, f2]) rfl ⟨rfl, ?_, ?_⟩
    · rw [Below.heap_setCell _ _ _ _ (by show g ≠ w.heap.size; omega), Below.heap_setCell _ _ _ _ (by show g ≠ w.heap.size; omega), Below.heap_setCell _ _ _ _ (by show g ≠ w.heap.size; omega), HG2]
      simp [bcells]
    · have hqb := HQB.out
      refine ⟨hqb.os, hqb.tape, hqb.output, by simp [World.setCell]; exact hqb.size, fun k hk hn => ?_⟩
      have hkg : k ≠ g := fun e => hn (by rw [e])
      rw [Below.heap_setCell _ _ _ _ (by show k ≠ w.heap.size; omega), Below.heap_setCell _ _ _ _ (by show k ≠ w.heap.size; omega), Below.heap_setCell _ _ _ _ (by show k ≠ w.heap.size; omega), Below.heap_setCell _ _ _ _ (by show k ≠ g; exact hkg)]
      exact hqb.block k hk
end Go.Proofs.Ytcjpmgfobnaoeaa
