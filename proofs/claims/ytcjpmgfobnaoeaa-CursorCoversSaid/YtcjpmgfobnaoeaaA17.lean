/- The cursor's At, whatever it is asked; the chapter's tree. -/
import Derived.Test.YtcjpmgfobnaoeaaA16
import Derived.Test.YtcjpmgfobnaoeaaA5
namespace Go.Proofs.Ytcjpmgfobnaoeaa
open Go.RowKit

/-- What At says. -/
def atC (n : Nd) (a b t k : Int) : List Nd := if (oldC n.tk a b t k).2 = true then atN n.tk a b (oldC n.tk a b t k).1 0 n else []

theorem at_nil (k : Int) (w : World) : Calls Try.prog 27 #[.pointer none, .int .i64 k] w fun e w' => e = .returned (.slice none 0 0) ∧ w' = w := by
  go_enter Try.func27, Try.ntmps27
  go_wp2
  go_step3
  go_wp2_with (go_at_call 25; refine (old_nil k _).mono ?_; rintro e w1 ⟨rfl, rfl⟩)
  rw [Exit.noGoto_ret]
  go_ret
  exact ⟨rfl, rfl⟩

theorem at_any (g : Nat) (n : Nd) (a b t k : Int) (w : World) (h : n.In w) (hwf : n.WF) (hht : n.ht ≤ 1000000) (hg : w.heap[g]? = some (.cells #[n.ptr, .int .i64 a, .int .i64 b, .int .i64 t] 112 (0, 0))) (c : CurOk n.tk a b t) :
    Calls Try.prog 27 #[.pointer (some ⟨g, 0, none⟩), .int .i64 k] w fun e w' => ∃ v, e = .returned v ∧ w'.ownsRow w.heap.size 33 1 v (atC n a b t k).length ((atC n a b t k).map Nd.ptr) ∧ Below w.heap.size w w' := by
  by_cases hin : (oldC n.tk a b t k).2 = true
  · unfold atC
    rw [if_pos hin]
    refine (at_some g n a b t k w h hwf hht hg c hin).mono ?_
    rintro e w' ⟨v, l, h1, rfl, h2⟩
    exact ⟨v, h1, h2⟩
  · unfold atC
    rw [if_neg hin]
    have hold : Calls Try.prog 25 #[.pointer (some ⟨g, 0, none⟩), .int .i64 k] w fun e w' => e = .returned (.tuple #[.int .i64 (oldC n.tk a b t k).1, .bool false]) ∧ Below w.heap.size w w' := by
      have := old_some g n a b t k w h hg c
      rw [show (oldC n.tk a b t k).2 = false by simpa using hin] at this
      exact this
    clear h hg hin
    go_enter Try.func27, Try.ntmps27
    go_wp2
    go_step3
    go_wp2_with (go_at_call 25; refine hold.mono ?_; rintro e w1 ⟨rfl, hbl⟩)
    rw [Exit.noGoto_ret]
    go_ret
    exact ⟨_, rfl, World.ownsRow_nil _ _ _ _, hbl⟩

/-! ### The chapter's tree -/
def leafT : Tr := .mk 0 (-1) []
def twoT : Tr := .mk 1 0 [leafT, leafT]
def chapT : Tr := .mk 2 0 [twoT, twoT]
def leafPn : Pn := .mk 0 (-1) 0 0 0 (-1) false []
def twoPn : Pn := .mk 1 0 0 0 0 0 false [leafPn, leafPn]
def chapPn : Pn := .mk 2 0 0 0 0 0 false [twoPn, twoPn]
theorem chap_bld : (Dt.mk chapT [] []).bld = .ok chapPn := by rfl
theorem chap_cnt : chapT.cnt = 7 := by rfl

theorem chap_at (W : World) (b1 b3 : Nat) (h1 : W.heap[b1]? = some (.cells #[.int .i64 0, .int .i64 (-1), .slice none 0 0, .int .i64 0, .int .i64 (-1), .slice none 0 0] 24 (0, 0)))
    (h3 : W.heap[b3]? = some (.cells #[.int .i64 1, .int .i64 0, .slice (some ⟨b1, 0, none⟩) 2 2, .int .i64 1, .int .i64 0, .slice (some ⟨b1, 0, none⟩) 2 2] 24 (0, 0))) :
    (Dt.mk chapT [] []).At W.heap.size W (.agg #[.int .i64 2, .int .i64 0, .slice (some ⟨b3, 0, none⟩) 2 2, .slice none 0 0, .slice none 0 0]) := by
  have l1 := (Array.getElem?_eq_some_iff.1 h1).1
  have l3 := (Array.getElem?_eq_some_iff.1 h3).1
  have leaf : leafT.At W.heap.size W (.slice none 0 0) := by
    unfold leafT Tr.At
    exact ⟨none, 0, rfl, Nat.le_refl _, by unfold TrsAt; trivial⟩
  have two : twoT.At W.heap.size W (.slice (some ⟨b1, 0, none⟩) 2 2) := by
    unfold twoT Tr.At
    refine ⟨_, 2, rfl, Nat.le_refl _, ?_⟩
    unfold TrsAt
    refine ⟨⟨b1, 0, _, rfl, l1, cell_of_heap h1 rfl, cell_of_heap h1 rfl, cell_of_heap h1 rfl, leaf⟩, ?_⟩
    unfold TrsAt
    refine ⟨⟨b1, 0, _, rfl, l1, cell_of_heap h1 rfl, cell_of_heap h1 rfl, cell_of_heap h1 rfl, leaf⟩, ?_⟩
    unfold TrsAt
    trivial
  refine ⟨_, _, _, rfl, ?_, .inl ⟨none, 0, rfl, rfl⟩, .inl ⟨none, 0, rfl, rfl⟩⟩
  show Tr.At _ _ _ chapT
  unfold chapT Tr.At
  refine ⟨_, 2, rfl, Nat.le_refl _, ?_⟩
  unfold TrsAt
  refine ⟨⟨b3, 0, _, rfl, l3, cell_of_heap h3 rfl, cell_of_heap h3 rfl, cell_of_heap h3 rfl, two⟩, ?_⟩
  unfold TrsAt
  refine ⟨⟨b3, 0, _, rfl, l3, cell_of_heap h3 rfl, cell_of_heap h3 rfl, cell_of_heap h3 rfl, two⟩, ?_⟩
  unfold TrsAt
  trivial

theorem chapter_call (w : World) : Calls Try.prog 64 #[] w fun e w' => ∃ n : Nd, e = .returned n.ptr ∧ Below w.heap.size w w' ∧ n.In w' ∧ n.WF ∧ n.plain = chapPn ∧ n.ht ≤ 7 := by
  have hb : ∀ (W : World), W = (((w.alloc (.cells #[.int .i64 0, .int .i64 (-1), .slice none 0 0] 24)).alloc (.cells #[.int .i64 0, .int .i64 (-1), .slice none 0 0, .int .i64 0, .int .i64 (-1), .slice none 0 0] 24)).alloc
      (.cells #[.int .i64 1, .int .i64 0, .slice (some ⟨w.heap.size + 1, 0, none⟩) 2 2] 24)).alloc (.cells #[.int .i64 1, .int .i64 0, .slice (some ⟨w.heap.size + 1, 0, none⟩) 2 2, .int .i64 1, .int .i64 0, .slice (some ⟨w.heap.size + 1, 0, none⟩) 2 2] 24) →
      Calls Try.prog 21 #[.agg #[.int .i64 2, .int .i64 0, .slice (some ⟨w.heap.size + 1 + 1 + 1, 0, none⟩) 2 2, .slice none 0 0, .slice none 0 0]] W (BuiltSays (Dt.mk chapT [] []) W) ∧ Below w.heap.size w W := by
    rintro W rfl
    refine ⟨built_any _ _ _ _ (chap_at _ (w.heap.size + 1) (w.heap.size + 1 + 1 + 1) ?_ ?_) (Nat.le_refl _) (by rw [show (Dt.mk chapT [] []).tree = chapT from rfl, chap_cnt]; omega), ?_⟩
    · rw [Below.heap_alloc _ _ _ (by simp), Below.heap_alloc _ _ _ (by simp)]
      exact heap_new2 _ _ _
    · have h := heap_alloc_new (((w.alloc (.cells #[.int .i64 0, .int .i64 (-1), .slice none 0 0] 24)).alloc (.cells #[.int .i64 0, .int .i64 (-1), .slice none 0 0, .int .i64 0, .int .i64 (-1), .slice none 0 0] 24)).alloc
        (.cells #[.int .i64 1, .int .i64 0, .slice (some ⟨w.heap.size + 1, 0, none⟩) 2 2] 24)) (.cells #[.int .i64 1, .int .i64 0, .slice (some ⟨w.heap.size + 1, 0, none⟩) 2 2, .int .i64 1, .int .i64 0, .slice (some ⟨w.heap.size + 1, 0, none⟩) 2 2] 24)
      simpa using h
    · exact ((((Below.refl _ _).alloc (Nat.le_refl _) _).alloc (by simp) _).alloc (by simp; omega) _).alloc (by simp; omega) _
  have HB := Lib.hid hb
  clear hb
  go_enter Try.func64, Try.ntmps64
  go_wp2_with (go_at_call 21; refine (HB.out _ rfl).1.mono ?_; rintro e w2 hsay; obtain ⟨hb2, n, hpn, rfl, hin, hwf, hht, hcn, hbk⟩ := hsay.ok chap_bld)
  have hb1 := (HB.out _ rfl).2
  go_ret
  exact ⟨n, rfl, hb1.trans (hb2.mono hb1.size), hin, hwf, hpn.symm, hht⟩

end Go.Proofs.Ytcjpmgfobnaoeaa
